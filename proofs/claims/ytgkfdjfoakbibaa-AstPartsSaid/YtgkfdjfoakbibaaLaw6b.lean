/- AstParts, walked. -/
import Derived.Test.YtgkfdjfoakbibaaProg
import Derived.WalkKit
import Derived.WalkSpells
import Derived.WalkLawsBesides
import Derived.Handy
import Derived.Lib.Hide
import Derived.Test.YtgkfdjfoakbibaaLaw6a
import Derived.Test.YtgkfdjfoakbibaaAstN
import Derived.Deep.QuietTactic
import Derived.BigQuiet
namespace Go.Proofs.Ytgkfdjfoakbibaa
open Go.RowKit SetP AstP
namespace AstP
def toldL (L : List Nd) : Nat → List Nat
  | 0 => List.replicate (L.length + 1) 0
  | i + 1 => if grp L i then bump (toldL L i) (rankIn L 0 L.length i) else toldL L i
theorem toldL_len (L : List Nd) (i : Nat) : (toldL L i).length = L.length + 1 := by
  induction i with
  | zero => simp [toldL]
  | succ i ih => rw [toldL]; split; rw [bump_len, ih]; exact ih
theorem toldL_get (L : List Nd) (i r : Nat) : (toldL L i).getD r 0 = toldN L i r := by
  induction i with
  | zero =>
    rw [toldL, List.getD_eq_getElem?_getD, List.getElem?_replicate]
    unfold toldN
    split <;> rfl
  | succ i ih =>
    have e : toldN L (i + 1) r = toldN L i r + if (grp L i && rankIn L 0 L.length i == r) then 1 else 0 := by unfold toldN; rw [cnt, Nat.zero_add]
    rw [e, toldL]
    cases hg : grp L i with
    | false => simpa using ih
    | true =>
      have hle : rankIn L 0 L.length i ≤ L.length := cnt_le _ _ _
      rw [if_pos rfl, bump_get (by rw [toldL_len]; omega), ih]
      congr 1
      by_cases h : r = rankIn L 0 L.length i
      · rw [if_pos h, if_pos (by simp [h])]
      · rw [if_neg h, if_neg (by simp; omega)]
theorem told_step {L : List Nd} {i : Nat} (h : grp L i = true) : toldL L (i + 1) = bump (toldL L i) (rankIn L 0 L.length i) := by rw [toldL, if_pos h]
theorem told_stay {L : List Nd} {i : Nat} (h : grp L i = false) : toldL L (i + 1) = toldL L i := by rw [toldL, if_neg (by rw [h]; simp)]
theorem bumps_le (K h : List Nat) (y : Nat) : (K.foldl bump h).getD y 0 ≤ h.getD y 0 + K.length := by
  induction K generalizing h with
  | nil => simp
  | cons x K ih =>
    rw [List.foldl_cons]
    have h1 := ih (bump h x)
    have h2 : (bump h x).getD y 0 ≤ h.getD y 0 + 1 := by
      by_cases hx : x < h.length
      · rw [bump_get hx]; split <;> omega
      · unfold bump; rw [List.set_eq_of_length_le (by omega)]; omega
    rw [List.length_cons]; omega
theorem numAt_yes {L : List Nd} {i : Nat} (h : grp L i = true) : numAt L i = rankIn L 0 L.length i := by unfold numAt; rw [if_pos h]
theorem numAt_no {L : List Nd} {i : Nat} (h : grp L i = false) : numAt L i = 0 := by unfold numAt; rw [if_neg (by rw [h]; simp)]
theorem Nums_getD {L : List Nd} {k n : Nat} (hk : k < n) : (Nums L n).getD k 0 = numAt L k := by
  unfold Nums
  rw [List.getD_eq_getElem?_getD, List.getElem?_map, List.getElem?_range hk]; rfl
theorem kids_getD {L : List Nd} {i t m : Nat} (hF : formedF L = true) (hi : i < L.length) (h : (L.getD i ndEmpty).kids.toNat = t + (m + 1)) : (kidsF L (i : Int)).getD t 0 = kidAt L i m := by
  rw [kidsF_at hF hi, List.getD_eq_getElem?_getD, List.getElem?_reverse (by rw [kidsRev_length]; omega), kidsRev_length, h, show t + (m + 1) - 1 - t = m by omega]
  unfold kidsRev
  rw [List.getElem?_map, List.getElem?_range (by omega)]; rfl
theorem cnt_succ (L : List Nd) (i : Nat) : cnt (grp L) 0 (i + 1) = cnt (grp L) 0 i + if grp L i then 1 else 0 := by rw [cnt, Nat.zero_add]
end AstP
/-- A row of numbers of one's own: its block. -/
theorem row_block {w : World} {base n c : Nat} {A : Option Addr} {l : List Nat} (h : w.ownsRow base 3 1 (.slice A n c) n (ints l)) :
    0 < n → ∃ q cur, A = some ⟨q, 0, none⟩ ∧ base ≤ q ∧ Slab w q cur 3 ∧ ∀ j, j < n → cur[j]? = some (.int .i64 ((l.getD j 0 : Nat) : Int)) := by
  intro h0
  obtain ⟨q, cur, rfl, hq, _, hs, _, ht⟩ := row_at h h0
  refine ⟨q, cur, rfl, hq, hs, fun j hj => ?_⟩
  have := row_read h hj
  rw [hs.cell] at this
  exact this
set_option maxRecDepth 100000 in
set_option maxHeartbeats 2000000 in
theorem astparts_any (A : Option Addr) (c n : Nat) (w : World) (h : Came w A n) :
    Calls Try.prog 11 #[.slice A n c] w fun e w' => e = .returned (.bool true) ∧ Below w.heap.size w w' := by
  by_cases hn : n ≤ 60
  · obtain ⟨L, hl, hL⟩ := h hn
    have hd := decide_eq_true hn
    have HL := Lib.hid hL
    have F1 := fun (w : World) (h : NodesAt w w.heap.size A L) => formed_any A c L w h
    rw [hl] at F1
    cases hF : formedF L with
    | false =>
      rw [hF] at F1
      clear h hL hl hF
      go_enter Try.func11, Try.ntmps11
      go_wp2_with fail
      refine (few_any A c n _).mono ?_
      rintro e0 w0 ⟨rfl, rfl⟩
      rw [hd]
      go_wp2_with fail
      refine (F1 _ HL.out).mono ?_
      rintro e1 w1 ⟨rfl, hb1⟩
      have HB1 := Lib.hid hb1
      clear hb1
      go_wp2_with fail
      refine (sure6_any _).mono ?_
      rintro e2 w2 ⟨rfl, hb2⟩
      have HB2 := below_then HB1.out hb2
      go_wp2
      go_ret
      exact ⟨rfl, HB2⟩
    | true =>
      rw [hF] at F1
      have C1 := fun (w : World) (h : NodesAt w w.heap.size A L) => sizes_any A c L w h
      have C2 := fun (w : World) (h : NodesAt w w.heap.size A L) => numbers_any A c L w h
      have C3 := fun (w : World) (i : Int) (h : NodesAt w w.heap.size A L) => kids_any A c L i w h
      have hroot := root_size hF
      have hsl : (sizesF L).length = n := by rw [sizesF_formed hF, Sz_length (Nat.le_refl _), hl]
      have hnl : (numsF L).length = n := by rw [numsF_length hF, hl]
      rw [hl, hsl] at C1
      rw [hl, hnl] at C2
      rw [hl] at C3 hroot
      obtain ⟨r, hr⟩ : ∃ r, n = r + 1 := ⟨n - 1, by omega⟩
      obtain ⟨N1, hN1⟩ : ∃ N1, n + 1 = N1 := ⟨_, rfl⟩
      have hrn : r < n := by omega
      have hn0 : 0 < n := by omega
      have x1 : (n : Int) - 1 = (r : Int) := by omega
      have x2 : (n : Int) + 1 = (N1 : Int) := by omega
      have hlast : sizeAt L r = n := by have := hroot.2; rwa [show n - 1 = r by omega] at this
      have hmake := make_int n (by omega)
      have hmake1 := make_int N1 (by omega)
      have HF := Lib.hid hF
      have HLN := Lib.hid hl
      have HN1 := Lib.hid hN1
      have HR := Lib.hid hr
      have HLAST := Lib.hid hlast
      have HSL := Lib.hid hsl
      have HNL := Lib.hid hnl
      have hn00 : (n == 0) = false := beq_eq_false_iff_ne.2 (by omega)
      have hn01 : ((n : Int) == 0) = false := beq_eq_false_iff_ne.2 (by omega)
      clear h hL hl hF hroot hsl hnl hr hN1 hlast
      go_enter Try.func11, Try.ntmps11
      go_wp2_with fail
      refine (few_any A c n _).mono ?_
      rintro e0 w0 ⟨rfl, rfl⟩
      rw [hd]
      go_wp2_with fail
      refine (F1 _ HL.out).mono ?_
      rintro e1 w1 ⟨rfl, hb1⟩
      have HB1 := Lib.hid hb1
      clear hb1 F1
      go_wp2_with fail
      refine (C1 _ ((HL.out.below HB1.out).more HB1.out.size)).mono ?_
      rintro e2 w2 ⟨A2, c2, rfl, hrow2, hb2⟩
      have HI2 := Lib.hid (row_at0 hrow2 (by omega))
      have HB2 := Lib.hid (below_then HB1.out hb2)
      clear hrow2 hb2 HB1 C1
      go_wp2_with fail
      refine (C2 _ ((HL.out.below HB2.out).more HB2.out.size)).mono ?_
      rintro e3 w3 ⟨A3, c3, rfl, hrow3, hb3⟩
      have HI3 := Lib.hid (row_at0 hrow3 (by omega))
      have HI2' := Lib.hid ((HI2.out.below hb3).more hb3.size)
      have HB3 := Lib.hid (below_then HB2.out hb3)
      clear hrow3 hb3 HB2 HI2 C2
      obtain ⟨gS, oS, rfl, hgS, hcS⟩ : ∃ b off, A2 = some ⟨b, off, none⟩ ∧ b < w3.heap.size ∧ ∀ j, j < n → w3.cell? ⟨b, off + j, none⟩ = some (.int .i64 ((sizeAt L j : Nat) : Int)) := by
        rcases HI2'.out.2 with h | ⟨b, off, hA, hb, hc⟩
        · exfalso; have := HSL.out; omega
        · refine ⟨b, off, hA, hb, fun j hj => ?_⟩
          rw [hc j (by rw [HSL.out]; exact hj), sizesF_formed HF.out, Sz_getD (by rw [HLN.out]; exact hj) (Nat.le_refl _)]
      obtain ⟨gN, oN, rfl, hgN, hcN⟩ : ∃ b off, A3 = some ⟨b, off, none⟩ ∧ b < w3.heap.size ∧ ∀ j, j < n → w3.cell? ⟨b, off + j, none⟩ = some (.int .i64 ((numAt L j : Nat) : Int)) := by
        rcases HI3.out.2 with h | ⟨b, off, hA, hb, hc⟩
        · exfalso; have := HNL.out; omega
        · refine ⟨b, off, hA, hb, fun j hj => ?_⟩
          rw [hc j (by rw [HNL.out]; exact hj), numsF_Nums HF.out, Nums_getD (by rw [HLN.out]; exact hj)]
      have hcl := hcS r hrn
      rw [HLAST.out] at hcl
      have HCS := Lib.hid hcS
      have HCN := Lib.hid hcN
      obtain ⟨H, hH⟩ : ∃ H, w3.heap.size = H := ⟨_, rfl⟩
      obtain ⟨w4, hw4⟩ : ∃ w4, (w3.alloc (.cells (intsA (List.replicate n 0)) 3)).alloc (.cells (intsA (List.replicate N1 0)) 3) = w4 := ⟨_, rfl⟩
      have o0 : Slab w4 H (intsA (List.replicate n 0)) 3 := by rw [← hw4, ← hH]; exact (Slab.new _ _ _).alloc _
      have p0 : Slab w4 (H + 1) (intsA (List.replicate N1 0)) 3 := by rw [← hw4, ← hH]; exact Slab.newAt _ _ _ (by simp)
      have HX4 : Hid (Below H w3 w4) := Lib.hid (by rw [← hw4, ← hH]; exact ((Below.refl _ _).alloc (Nat.le_refl _) _).alloc (by simp) _)
      have HW : Hid (w0.heap.size ≤ H) := Lib.hid (by rw [← hH]; exact HB3.out.size)
      have HB4 : Hid (Below w0.heap.size w0 w4) := Lib.hid (HB3.out.trans (HX4.out.mono HW.out))
      rw [hH] at hgS hgN
      have HGS := Lib.hid hgS
      have HGN := Lib.hid hgN
      clear hcS hcN hgS hgN HI2' HI3
      go_wp2_with fail
      have HH := Lib.hid hH
      clear hH hw4 hcl hmake hmake1 hn00 hn01 hn0
      go_loopw [7, 8, 9, 10, 11, 12] (fun gr i _ _ _ _ wr => ∃ k : Nat, k ≤ n ∧ gr = .int .i64 ((cnt (grp L) 0 k : Nat) : Int) ∧ i = .int .i64 k ∧ Slab wr H (intsA (heldL L k)) 3 ∧ Slab wr (H + 1) (intsA (toldL L k)) 3 ∧ Below H w4 wr) (fun _ i _ _ _ _ _ => n - (intOf i).toNat)
      case atStart => exact ⟨0, by omega, rfl, rfl, by rw [heldL, HLN.out]; exact o0, by rw [toldL, HLN.out, HN1.out]; exact p0, Below.refl _ _⟩
      case round =>
        clear o0 p0
        obtain ⟨i, hk, rfl, rfl, oh, ot, hB⟩ := hrel
        have HB := Lib.hid hB; clear hB
        have HWR : Hid (Below w0.heap.size w0 wr) := Lib.hid (HB4.out.trans (HB.out.mono HW.out))
        by_cases hlt : i < n
        · have hltL : i < L.length := by rw [HLN.out]; exact hlt
          have hat := formed_at HF.out hltL
          have hstl := St_len (L := L) (k := i) (by omega)
          obtain ⟨kn, hkn⟩ : ∃ kn, (L.getD i ndEmpty).kids.toNat = kn := ⟨_, rfl⟩
          have hK := kidsF_length HF.out hltL
          rw [hkn] at hK
          have hkb : kn ≤ 60 := by omega
          have hseg := fun m (hm : m < kn) => kid_seg (L := L) (i := i) (m := m) HF.out hltL (by rw [hkn]; exact hm)
          have hfr := fst_reach HF.out hltL
          rw [hkn] at hfr
          have hfl := sizeAt_le (L := L) (k := i) (by omega)
          have hfs : fst L i = i + 1 - sizeAt L i := rfl
          obtain ⟨sz, hsz⟩ : ∃ sz, sizeAt L i = sz := ⟨_, rfl⟩
          have cs := (HB.out.cell (p := ⟨gS, oS + i, none⟩) HGS.out).trans ((HX4.out.cell (p := ⟨gS, oS + i, none⟩) HGS.out).trans (HCS.out i hlt))
          rw [hsz] at cs hfl hfs
          obtain ⟨z, hz⟩ : ∃ z, (i : Int) - (sz : Int) = z := ⟨_, rfl⟩
          have hwz : wrap64 z = z := by unfold wrap64; omega
          have hz1 : z + 1 = ((i - reach L i kn : Nat) : Int) := by omega
          obtain ⟨K, hKK⟩ : ∃ K, kidsF L (i : Int) = K := ⟨_, rfl⟩
          have CK := fun (w : World) (h : NodesAt w w.heap.size A L) => C3 w (i : Int) h
          rw [hKK] at hK
          rw [hKK, hK] at CK
          have HK := Lib.hid hK
          have HKK := Lib.hid hKK
          have HKN := Lib.hid hkn
          have HSEG := Lib.hid hseg
          have hHlt : H + 1 < wr.heap.size := ot.lt
          clear hat hstl hkn hK hseg hfr hfl hfs hsz hKK
          go_wp2_with fail
          refine (CK _ ((HL.out.below HWR.out).more HWR.out.size)).mono ?_
          rintro e5 w5 ⟨A5, c5, rfl, hrow5, hb5⟩
          have hrow : 0 < kn → ∃ q cur, A5 = some ⟨q, 0, none⟩ ∧ H + 1 < q ∧ Slab w5 q cur 3 ∧ ∀ j, j < kn → cur[j]? = some (.int .i64 ((K.getD j 0 : Nat) : Int)) := fun h0 => by
            obtain ⟨q, cur, e, h1, h2, h3⟩ := row_block hrow5 h0
            exact ⟨q, cur, e, by omega, h2, h3⟩
          have oh5 := oh.call hb5
          have ot5 := ot.call hb5
          have HB5 := Lib.hid (HB.out.trans (hb5.mono (by omega)))
          clear hrow5 hb5 oh ot cs CK HB HWR hHlt hz hwz hz1
          go_wp2_with fail
          go_loopw [9, 11, 12] (fun a k _ wr' => ∃ t : Nat, t ≤ kn ∧ k = .int .i64 t ∧ a = .int .i64 ((i - reach L i (kn - t) : Nat) : Int) ∧ Slab wr' H (intsA ((K.take t).foldl bump (heldL L i))) 3 ∧ Slab wr' (H + 1) (intsA (toldL L i)) 3 ∧ Below H w4 wr' ∧
            (0 < kn → ∃ q cur, A5 = some ⟨q, 0, none⟩ ∧ H + 1 < q ∧ Slab wr' q cur 3 ∧ ∀ j, j < kn → cur[j]? = some (.int .i64 ((K.getD j 0 : Nat) : Int)))) (fun _ k _ _ => kn - (intOf k).toNat)
          case atStart => exact ⟨0, by omega, rfl, rfl, oh5, ot5, HB5.out, hrow⟩
          case round =>
            clear oh5 ot5 HB5 hrow
            obtain ⟨t, ht, rfl, rfl, oh, ot, hB, hrow⟩ := hrel
            have HB := Lib.hid hB; clear hB
            by_cases hlt2 : t < kn
            · obtain ⟨q, cur, rfl, hqH, hs, hcur⟩ := hrow (by omega)
              clear hrow
              obtain ⟨m, hm⟩ : ∃ m, kn = t + (m + 1) := ⟨kn - t - 1, by omega⟩
              obtain ⟨g1, g2, g3, g4, g5, g6⟩ := HSEG.out m (by omega)
              have hx := kids_getD (t := t) (m := m) HF.out hltL (by rw [HKN.out]; exact hm)
              rw [HKK.out] at hx
              have p1 := (hs.cell t).trans (hcur t hlt2)
              rw [hx] at p1
              have hxl : kidAt L i m < L.length := by omega
              have hyl := sizeAt_le (L := L) (k := kidAt L i m) (by omega)
              have hfs : fst L (kidAt L i m) = kidAt L i m + 1 - sizeAt L (kidAt L i m) := rfl
              have hft := fold_take (h := bump) K (heldL L i) (t := t) (by rw [HK.out]; exact hlt2)
              rw [hx] at hft
              obtain ⟨x, hxx⟩ : ∃ x, kidAt L i m = x := ⟨_, rfl⟩
              rw [hxx] at p1 g1 g2 g3 g5 hxl hyl hfs hft
              have hxn : x < n := by omega
              have p2 := (HB.out.cell (p := ⟨gS, oS + x, none⟩) HGS.out).trans ((HX4.out.cell (p := ⟨gS, oS + x, none⟩) HGS.out).trans (HCS.out x hxn))
              obtain ⟨y, hy⟩ : ∃ y, sizeAt L x = y := ⟨_, rfl⟩
              rw [hy] at p2 hyl hfs g2
              obtain ⟨h0, hh0⟩ : ∃ h0, (K.take t).foldl bump (heldL L i) = h0 := ⟨_, rfl⟩
              have hh1 := bumps_le (K.take t) (heldL L i) x
              have hh2 := held_get HF.out i (by omega) x
              have hh3 : h0.length = L.length := by rw [← hh0, bumps_len, heldL_len]
              have hh4 : (heldL L i).getD x 0 ≤ 1 := by rw [hh2]; split <;> omega
              rw [hh0] at oh hft hh1
              rw [List.length_take] at hh1
              have p3 := (oh.cell x).trans (ints_get h0 (by omega))
              have f3 := oh.frozen x
              obtain ⟨hv, hhv⟩ : ∃ hv, h0.getD x 0 = hv := ⟨_, rfl⟩
              rw [hhv] at p3 hh1
              obtain ⟨hv1, hhv1⟩ : ∃ hv1, hv + 1 = hv1 := ⟨_, rfl⟩
              have hh : (hv : Int) + 1 = (hv1 : Int) := by omega
              have hhb : hv1 ≤ 100 := by omega
              have d1 : decide ((x : Int) < 0) = false := by simp
              have d2 : decide ((i : Int) ≤ (x : Int)) = false := by simp; omega
              have d3 : decide (i ≤ x) = false := by simp; omega
              obtain ⟨z, hz⟩ : ∃ z, (x : Int) - (y : Int) = z := ⟨_, rfl⟩
              have hwz : wrap64 z = z := by unfold wrap64; omega
              have e1 : kn - t = m + 1 := by omega
              have e2 : kn - (t + 1) = m := by omega
              obtain ⟨a, ha⟩ : ∃ a, i - reach L i (m + 1) = a := ⟨_, rfl⟩
              obtain ⟨a', ha'⟩ : ∃ a', i - reach L i m = a' := ⟨_, rfl⟩
              have hz1 : z + 1 = (a : Int) := by omega
              have hq1 : (x : Int) + 1 = (a' : Int) := by omega
              have ha60 : a ≤ 60 := by omega
              have HA' : Hid (i - reach L i (kn - (t + 1)) = a') := Lib.hid (by rw [e2, ha'])
              have HFT : Hid ((K.take (t + 1)).foldl bump (heldL L i) = h0.set x hv1) := Lib.hid (by rw [hft]; unfold bump; rw [hhv, hhv1])
              have HCUR := Lib.hid hcur
              rw [e1, ha]
              clear g1 g2 g3 g4 g5 g6 hx hxl hyl hfs hft hxx hy hh0 hh1 hh2 hh3 hh4 hhv hhv1 e1 e2 ha ha' hcur hm
              go_wp2
              go_roundw
              case rel =>
                refine ⟨t + 1, by omega, by go_num, by rw [HA'.out], ?_, ot.far (by omega) _, below_set HB.out (by omega) _, fun _ => ⟨q, cur, rfl, hqH, hs.far (by omega) _, HCUR.out⟩⟩
                rw [HFT.out, ← ints_put]
                exact oh.set x _
              case measure => simp [intOf]; omega
            · obtain rfl : t = kn := by omega
              have hKt : K.take t = K := List.take_of_length_le (by rw [HK.out]; omega)
              have hra : i - reach L i (t - t) = i := by rw [Nat.sub_self, reach_zero]; omega
              have hhl : K.foldl bump (heldL L i) = heldL L (i + 1) := by rw [heldL, HKK.out]
              rw [hKt, hhl] at oh
              rw [hra]
              have HWR : Hid (Below w0.heap.size w0 wr) := Lib.hid (HB4.out.trans (HB.out.mono HW.out))
              obtain ⟨b, off, rfl, hb, hn8⟩ := (HL.out.below HWR.out).node hltL
              unfold Node8 at hn8
              obtain ⟨n0, n1, n2, n3, n4, n5, n6, n7⟩ := hn8
              have p4 := (HB.out.cell (p := ⟨gN, oN + i, none⟩) HGN.out).trans ((HX4.out.cell (p := ⟨gN, oN + i, none⟩) HGN.out).trans (HCN.out i hlt))
              obtain ⟨v, hv⟩ : ∃ v, numAt L i = v := ⟨_, rfl⟩
              rw [hv] at p4
              have hgk : ((L.getD i ndEmpty).kind == 3) = grp L i := rfl
              have hcs := cnt_succ L i
              have hcl : cnt (grp L) 0 i ≤ i := cnt_le _ _ _
              obtain ⟨G, hG⟩ : ∃ G, cnt (grp L) 0 i = G := ⟨_, rfl⟩
              rw [hG] at hcs hcl ⊢
              clear hb n1 n2 n3 n4 n5 n6 n7 hrow hKt hra hhl hG
              generalize (L.getD i ndEmpty).kind = kd at *
              have d1 : decide ((v : Int) < 0) = false := by simp
              cases hg : grp L i with
              | true =>
                have hrb := rank_bd hltL hg
                have hrl : rankIn L 0 L.length i ≤ L.length := cnt_le _ _ _
                have htd := told_step hg
                rw [← numAt_yes hg, hv] at hrb hrl htd
                rw [HLN.out] at hrl
                have htg := toldL_get L i v
                have htl := told_le (L := L) i v (by omega)
                have htn := toldL_len L i
                rw [HLN.out] at htn
                have q1 := (ot.cell v).trans (ints_get (toldL L i) (by omega))
                have qf := ot.frozen v
                obtain ⟨tv, htv⟩ : ∃ tv, (toldL L i).getD v 0 = tv := ⟨_, rfl⟩
                rw [htv] at q1 htg
                obtain ⟨tv1, htv1⟩ : ∃ tv1, tv + 1 = tv1 := ⟨_, rfl⟩
                have HTD : Hid (toldL L (i + 1) = (toldL L i).set v tv1) := Lib.hid (by rw [htd]; unfold bump; rw [htv, htv1])
                have y1 : (tv : Int) + 1 = (tv1 : Int) := by omega
                have y2 : tv1 ≤ 10 := by omega
                have y3 : v < N1 := by have := HN1.out; omega
                have y4 : 0 < v := by omega
                have y5 : v ≤ n := by omega
                have d2 : decide ((n : Int) < (v : Int)) = false := by simp; omega
                have d3 : decide (n < v) = false := by simp; omega
                have d4 : decide ((0 : Int) < (v : Int)) = true := by simp; omega
                have d5 : decide (0 < v) = true := by simp; omega
                rw [hg] at hgk hcs
                have hG1 : cnt (grp L) 0 (i + 1) = G + 1 := hcs
                have HG1 := Lib.hid hG1
                have hG60 : G ≤ 60 := by omega
                clear hrb hrl htd htg htl htn htv htv1 hv hcs hcl hG1 hg
                go_wp2_with fail
                go_quiet (fail)
                go_wp2
                go_roundw
                case rel =>
                  refine ⟨i + 1, by omega, by rw [HG1.out]; go_num, by go_num, (oh.drewN _).far (by omega) _, ?_, below_set (below_drewN HB.out _) (by omega) _⟩
                  rw [HTD.out, ← ints_put]
                  exact (ot.drewN _).set v _
                case measure => simp [intOf]; omega
              | false =>
                have hv0 : v = 0 := by rw [← hv, numAt_no hg]
                subst hv0
                have htd := told_stay hg
                have HTD := Lib.hid htd
                rw [hg] at hgk hcs
                have hG1 : cnt (grp L) 0 (i + 1) = G := hcs
                have HG1 := Lib.hid hG1
                have d2 : decide ((n : Int) < 0) = false := by simp
                clear htd hG1 hcs hcl hg hv
                replace p4 : wr.cell? ⟨gN, oN + i, none⟩ = some (.int .i64 0) := p4
                go_wp2_with fail
                go_quiet (fail)
                go_wp2
                go_roundw
                case rel =>
                  refine ⟨i + 1, by omega, by rw [HG1.out], by go_num, oh.drewN _, ?_, below_drewN HB.out _⟩
                  rw [HTD.out]
                  exact ot.drewN _
                case measure => simp [intOf]; omega
        · obtain rfl : i = n := by omega
          clear hlt
          have hhe := fun y (hy : y < L.length) => held_end (L := L) HF.out y hy
          have hto := fun y (h1 : 1 ≤ y) (h2 : y ≤ cnt (grp L) 0 L.length) => told_one (L := L) y h1 h2
          have htg := fun y => toldL_get L L.length y
          have hcl : cnt (grp L) 0 L.length ≤ L.length := cnt_le _ _ _
          have htn := toldL_len L L.length
          have hhn := heldL_len L L.length
          rw [HLN.out] at hhe hto htg hcl htn hhn
          obtain ⟨G, hG⟩ : ∃ G, cnt (grp L) 0 i = G := ⟨_, rfl⟩
          rw [hG] at hto hcl ⊢
          have ch : ∀ y, y < i → (intsA (heldL L i))[y]? = some (.int .i64 ((if y = r then 0 else 1 : Nat) : Int)) := fun y hy => by
            rw [ints_get _ (by omega), hhe y hy]; have := HR.out; simp [show i - 1 = r by omega]
          have ct : ∀ y, 1 ≤ y → y ≤ G → (intsA (toldL L i))[y]? = some (.int .i64 1) := fun y h1 h2 => by
            rw [ints_get _ (by omega), htg, hto y h1 h2]; rfl
          have HCH := Lib.hid ch
          have HCT := Lib.hid ct
          have hGN : G < N1 := by have := HN1.out; omega
          clear hhe hto htg htn hhn ch ct hG C3 x2
          go_wp2_with fail
          go_loopw [13] (fun k wr' => ∃ j : Nat, j ≤ r ∧ k = .int .i64 j ∧ Slab wr' H (intsA (heldL L i)) 3 ∧ Slab wr' (H + 1) (intsA (toldL L i)) 3 ∧ Below H w4 wr') (fun k _ => r - (intOf k).toNat)
          case atStart => exact ⟨0, by omega, rfl, oh, ot, HB.out⟩
          case round =>
            clear oh ot HB HWR
            obtain ⟨j, hj, rfl, oh, ot, hB⟩ := hrel
            have HB := Lib.hid hB; clear hB
            by_cases hlt : j < r
            · have q1 := (oh.cell j).trans (HCH.out j (by omega))
              rw [if_neg (by omega)] at q1
              replace q1 : wr.cell? ⟨H, j, none⟩ = some (.int .i64 1) := q1
              go_wp2
              go_roundw
              case rel => exact ⟨j + 1, by omega, by go_num, oh, ot, HB.out⟩
              case measure => simp [intOf]; omega
            · obtain rfl : j = r := by omega
              clear hlt
              go_wp2_with fail
              go_loopw [14] (fun k wr' => ∃ m : Nat, 1 ≤ m ∧ m ≤ G + 1 ∧ k = .int .i64 m ∧ Slab wr' H (intsA (heldL L i)) 3 ∧ Below H w4 wr' ∧ Slab wr' (H + 1) (intsA (toldL L i)) 3) (fun k _ => G + 1 - (intOf k).toNat)
              case atStart => exact ⟨1, by omega, by omega, rfl, oh, HB.out, ot⟩
              case round =>
                clear oh ot HB
                obtain ⟨m, hm1, hm, rfl, oh, hB, ot⟩ := hrel
                have HB := Lib.hid hB; clear hB
                by_cases hlt : m ≤ G
                · have q1 := (ot.cell m).trans (HCT.out m hm1 hlt)
                  have hmN : m < N1 := by omega
                  go_wp2
                  go_roundw
                  case rel => exact ⟨m + 1, by omega, by omega, by go_num, oh, HB.out, ot⟩
                  case measure => simp [intOf]; omega
                · have hgt : G < m := by omega
                  have q1 := (oh.cell j).trans (HCH.out j (by omega))
                  rw [if_pos rfl] at q1
                  replace q1 : wr.cell? ⟨H, j, none⟩ = some (.int .i64 0) := q1
                  go_wp2_with fail
                  refine (sure6_any _).mono ?_
                  rintro e9 w9 ⟨rfl, hb9⟩
                  have HB9 := below_then (HB4.out.trans (HB.out.mono HW.out)) hb9
                  go_wp2
                  go_ret
                  exact ⟨rfl, HB9⟩
  · have hd := decide_eq_false hn
    clear h
    go_enter Try.func11, Try.ntmps11
    go_wp2_with fail
    refine (few_any A c n _).mono ?_
    rintro e0 w0 ⟨rfl, rfl⟩
    rw [hd]
    go_wp2_with fail
    refine (sure6_any _).mono ?_
    rintro e1 w1 ⟨rfl, hb1⟩
    go_wp2
    go_ret
    exact ⟨rfl, hb1⟩
end Go.Proofs.Ytgkfdjfoakbibaa
