/- Walks of the package gimletref06: kids. -/
import Derived.Test.YtgkfdjfoakbibaaProg
import Derived.WalkKit
import Derived.WalkSpells
import Derived.WalkLawsBesides
import Derived.Handy
import Derived.Lib.Hide
import Derived.Test.YtgkfdjfoakbibaaAstE
namespace Go.Proofs.Ytgkfdjfoakbibaa
open Go.RowKit SetP AstP
theorem fill_back (R : List Nat) (n v : Nat) (h : 0 < n) : (List.replicate n 0 ++ R).set (n - 1) v = List.replicate (n - 1) 0 ++ (v :: R) := by
  obtain ⟨m, rfl⟩ : ∃ m, n = m + 1 := ⟨n - 1, by omega⟩
  rw [Nat.add_sub_cancel, List.replicate_succ', List.append_assoc, List.set_append_right _ _ (by simp)]
  simp
set_option maxRecDepth 100000 in
set_option maxHeartbeats 2000000 in
theorem rkids_any (A : Option Addr) (c : Nat) (L : List Nd) (i : Int) (w : World) (hL : NodesAt w w.heap.size A L) :
    Calls Try.prog 30 #[.slice A L.length c, .int .i64 i] w (RetRow 3 1 (kidsF L i).length (ints (kidsF L i)) w) := by
  obtain ⟨i0, hi, hz0, hz1, hz2⟩ := info_parts info_int
  have HI := Lib.hid hi; clear hi
  have HZ0 := Lib.hid hz0; clear hz0
  have HZ1 := Lib.hid hz1; clear hz1
  have HZ2 := Lib.hid hz2; clear hz2
  have hlen := hL.1
  have CS := rsizes_any A c L w hL
  have HL := Lib.hid hL; clear hL
  have hle := sizes_len_le L
  by_cases h0 : i < 0
  · have d0 : decide (i < 0) = true := by simpa using h0
    have hk0 : kidsF L i = [] := by unfold kidsF; rw [if_pos (.inl h0)]
    rw [hk0]
    clear hk0
    go_enter Try.func30, Try.ntmps30
    go_wp2_with fail
    refine CS.mono ?_
    rintro e1 w1 ⟨A1, c1, rfl, hrow, hb1⟩
    clear hrow
    go_wp2
    go_ret
    exact ⟨none, 0, rfl, World.ownsRow_nil _ _ _ _, hb1⟩
  by_cases h1 : ((sizesF L).length : Int) ≤ i
  · have d0 : decide (i < 0) = false := by simpa using h0
    have d1 : decide (((sizesF L).length : Int) ≤ i) = true := by simpa using h1
    have hk0 : kidsF L i = [] := by unfold kidsF; rw [if_pos (.inr h1)]
    rw [hk0]
    clear hk0
    go_enter Try.func30, Try.ntmps30
    go_wp2_with fail
    refine CS.mono ?_
    rintro e1 w1 ⟨A1, c1, rfl, hrow, hb1⟩
    clear hrow
    go_wp2
    go_ret
    exact ⟨none, 0, rfl, World.ownsRow_nil _ _ _ _, hb1⟩
  obtain ⟨k, rfl⟩ := Int.eq_ofNat_of_zero_le (show 0 ≤ i by omega)
  have hkl : k < (sizesF L).length := by omega
  have hF := formed_of_len hkl
  have hsz := sizesF_formed hF
  have hkF : kidsF L (k : Int) = (kidsRev L k (L.getD k ndEmpty).kids.toNat).reverse := by unfold kidsF; rw [if_neg (by omega)]; rfl
  rw [hkF, List.length_reverse, kidsRev_length]
  rw [hsz] at CS
  rw [Sz_length (Nat.le_refl _)] at CS
  have hltL : k < L.length := by omega
  have hat := formed_at hF hltL
  obtain ⟨N, hN⟩ : ∃ N, L.length = N := ⟨_, rfl⟩
  have hkid := fun j (hj : j < (St L k).length) => kid_at (L := L) hltL hj
  have hszl := Sz_length (L := L) (k := L.length) (Nat.le_refl _)
  have hstl := St_len (L := L) (k := k) (by omega)
  rw [hN] at CS hlen hszl hkid ⊢
  have hlt : k < N := by omega
  have HN := Lib.hid hN
  obtain ⟨x, hx⟩ : ∃ x, L.getD k ndEmpty = x := ⟨_, rfl⟩
  rw [hx] at hat ⊢
  obtain ⟨kn, hkn⟩ := Int.eq_ofNat_of_zero_le hat.1
  have HK : Hid (x.kids.toNat = kn) := Lib.hid (by omega)
  have hknl : kn ≤ (St L k).length := by omega
  have hknb : kn ≤ N := by omega
  have HKNL := Lib.hid hknl
  rw [HK.out]
  have HX := Lib.hid hx
  clear hx hat hknl hstl
  have HKID := Lib.hid hkid
  have HSZL := Lib.hid hszl
  clear hN hF hsz hkF hle h0 h1 hkl hkid hszl
  have d0 : decide ((k : Int) < 0) = false := by simp
  have d1 : decide (N ≤ k) = false := by simpa using hlt
  have hmake := make_int kn (by omega)
  go_enter Try.func30, Try.ntmps30
  go_wp2_with fail
  refine CS.mono ?_
  rintro e1 w1 ⟨A1, c1, rfl, hrow, hb1⟩
  have HB1 := Lib.hid hb1
  clear CS hb1
  obtain ⟨g1, rfl⟩ : ∃ g1, A1 = some ⟨g1, 0, none⟩ := by
    rcases rowInts hrow with ⟨_, h, _⟩ | ⟨g, h, _⟩
    · omega
    · exact ⟨g, h⟩
  obtain ⟨b, off, rfl, hb, hn8⟩ := (HL.out.below HB1.out).node hltL
  unfold Node8 at hn8
  rw [HX.out] at hn8
  obtain ⟨n0, n1, n2, n3, n4, n5, n6, n7⟩ := hn8
  go_wp2
  clear n0 n1 n2 n3 n4 n5 n6 n7
  have o1 : Slab (w1.alloc (.cells (intsA (List.replicate kn 0)) 3)) w1.heap.size (intsA (List.replicate (kn - 0) 0 ++ (kidsRev L k 0).reverse)) 3 := by
    simp only [Nat.sub_zero, kidsRev, List.range_zero, List.map_nil, List.reverse_nil, List.append_nil]; exact Slab.new _ _ _
  have HB2 := Lib.hid (HB1.out.alloc HB1.out.size (.cells (intsA (List.replicate kn 0)) 3))
  have hcr : ∀ q, q < N → w1.cell? ⟨g1, q, none⟩ = some (.int .i64 (((Sz L N).getD q 0 : Nat) : Int)) := fun q hq => row_read hrow hq
  have hg1 : N = 0 ∨ g1 < w1.heap.size := by
    by_cases h : N = 0
    · exact .inl h
    · exact .inr (block_lt_of_cell (hcr 0 (by omega)))
  have hg1' : g1 < w1.heap.size := by omega
  have hgw : w.heap.size ≤ w1.heap.size := HB1.out.size
  have HBX := Lib.hid ((Below.refl w1.heap.size w1).alloc (Nat.le_refl _) (.cells (intsA (List.replicate kn 0)) 3))
  have HCR := Lib.hid hcr
  clear hrow HB1 hmake hcr hg1
  go_loopw [7, 8] (fun a j wr => ∃ (m : Nat) (p : Int), m ≤ kn ∧ j = .int .i64 ((kn : Int) - 1 - m) ∧ a = .int .i64 p ∧ p = (k : Int) - 1 - ((St L k).take m).sum ∧
      Slab wr w1.heap.size (intsA (List.replicate (kn - m) 0 ++ (kidsRev L k m).reverse)) 3 ∧ Below w.heap.size w wr ∧ Below w1.heap.size w1 wr)
    (fun _ j _ => (intOf j + 1).toNat)
  case atStart => exact ⟨0, _, by omega, by simp, rfl, by simp, o1, HB2.out, HBX.out⟩
  case round =>
    clear o1 HB2 HBX
    obtain ⟨m, p, hm, rfl, rfl, hp, o, hB, hBX⟩ := hrel
    have HB := Lib.hid hB; clear hB
    have HBX := Lib.hid hBX; clear hBX
    have HP := Lib.hid hp; clear hp
    by_cases hlt2 : m < kn
    · obtain ⟨q1, q2, q3, q4, q5⟩ := HKID.out m (by have := HKNL.out; omega)
      have hq : p = ((kidAt L k m : Nat) : Int) := by have := HP.out; unfold kidAt; omega
      subst hq
      obtain ⟨y, hy⟩ : ∃ y, (St L k).getD m 0 = y := ⟨_, rfl⟩
      rw [hy] at q3 q5
      obtain ⟨q, hq⟩ : ∃ q, kidAt L k m = q := ⟨_, rfl⟩
      have hyb : y ≤ q + 1 := by have := HP.out; rw [hq] at this; omega
      rw [hq] at q3 q4 ⊢
      have HQ := Lib.hid hq
      have hqN : q < N := by omega
      have HQ5 := Lib.hid q5
      have hc5 : wr.cell? ⟨g1, q, none⟩ = some (.int .i64 (y : Int)) := by
        rw [← q3]
        exact (HBX.out.cell (p := ⟨g1, q, none⟩) hg1').trans (HCR.out q hqN)
      obtain ⟨r, hr⟩ : ∃ r, kn - m - 1 = r := ⟨_, rfl⟩
      have hr' : (kn : Int) - 1 - m = (r : Int) := by omega
      rw [hr']
      have hrk : r < kn := by omega
      have hlr : (List.replicate (kn - m) 0 ++ (kidsRev L k m).reverse).length = kn := by simp [kidsRev_length]; omega
      have hcw := (o.cell r).trans (ints_get _ (by rw [hlr]; exact hrk))
      obtain ⟨z, hz⟩ : ∃ z, (List.replicate (kn - m) 0 ++ (kidsRev L k m).reverse).getD r 0 = z := ⟨_, rfl⟩
      rw [hz] at hcw
      obtain ⟨c9, f9⟩ := o.facts
      have HR := Lib.hid hr
      have hne : ¬ w1.heap.size = g1 := by omega
      have hne2 : ¬ g1 = w1.heap.size := by omega
      clear q1 q2 q3 q5 hy hq hkn hlr hz c9 hr hr'
      go_wp2
      go_roundw
      case rel =>
        refine ⟨m + 1, _, by omega, ?_, rfl, ?_, ?_, ?_, ?_⟩
        · have := HR.out; congr 1; omega
        · have g1 := HP.out
          have g2 := HQ.out
          have g3 := HQ5.out
          rw [g2] at g1
          omega
        · have o2 := o.set r (.int .i64 (q : Int))
          rw [ints_put] at o2
          have e : (List.replicate (kn - m) 0 ++ (kidsRev L k m).reverse).set r q = List.replicate (kn - (m + 1)) 0 ++ (kidsRev L k (m + 1)).reverse := by
            have h := fill_back (kidsRev L k m).reverse (kn - m) q (by omega)
            rw [HR.out] at h
            rw [h, kidsRev_succ, List.reverse_append, HQ.out]
            have : kn - (m + 1) = r := by have := HR.out; omega
            rw [this]; rfl
          rw [e] at o2
          exact o2
        · exact below_set HB.out hgw _
        · exact below_set HBX.out (Nat.le_refl _) _
      case measure => simp [intOf]
    · have hmk : m = kn := by omega
      have d2 : decide ((0 : Int) ≤ (kn : Int) - 1 - (kn : Int)) = false := by simp; omega
      rw [hmk] at o ⊢
      rw [Nat.sub_self, List.replicate_zero, List.nil_append] at o
      have hrow := row_ints (base := w.heap.size) (n := kn) o hgw (by simp [kidsRev_length]) (by omega)
      clear o
      go_wp2
      go_ret
      exact ⟨_, _, rfl, hrow, HB.out⟩
end Go.Proofs.Ytgkfdjfoakbibaa
