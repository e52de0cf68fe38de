/- Walks of gimletref11: Size. -/
import Derived.Test.YtddokdjlmdoebaaProg
import Derived.WalkKit
import Derived.WalkSpells
import Derived.WalkLawsBesides
import Derived.Handy
import Derived.Lib.Hide
import Derived.Test.YtddokdjlmdoebaaMLoB
import Derived.Deep.RegionWith
set_option linter.unusedVariables false
set_option linter.unusedSimpArgs false
namespace Go.Proofs.Ytddokdjlmdoebaa
open Go.RowKit SetP AstP LowP ParP Go.Sort
abbrev intZA (l : List Int) : Array Value := (l.map fun x => Value.int .i64 x).toArray
theorem zA_zero (n : Nat) : intsA (List.replicate n 0) = intZA (List.replicate n 0) := by
  apply Array.toList_inj.1
  simp
theorem zA_get (l : List Int) {j : Nat} (h : j < l.length) : (intZA l)[j]? = some (.int .i64 (l.getD j 0)) := by
  rw [List.getD_eq_getElem?_getD, List.getElem?_eq_getElem h]
  simp [h]
theorem zA_put (l : List Int) (j : Nat) (v : Int) : (intZA l).setIfInBounds j (.int .i64 v) = intZA (l.set j v) := by
  apply Array.toList_inj.1
  simp [List.map_set]
/-- What stands, behind k nodes. -/
def fS (p : Sz → Int) (L : List Nd) (N k : Nat) : List Int := ((List.range k).map fun j => p (szAt L j)) ++ List.replicate (N - k) 0
theorem fS_len (p : Sz → Int) (L : List Nd) {N k : Nat} (h : k ≤ N) : (fS p L N k).length = N := by unfold fS; simp; omega
theorem fS_get (p : Sz → Int) (L : List Nd) {N k j : Nat} (h : j < k) : (fS p L N k).getD j 0 = p (szAt L j) := by
  unfold fS
  rw [List.getD_eq_getElem?_getD, List.getElem?_append_left (by simp; exact h), List.getElem?_map, List.getElem?_range h]; rfl
theorem fS_at (p : Sz → Int) (L : List Nd) {N k : Nat} (h : k < N) : (fS p L N k).getD k 0 = 0 := by
  unfold fS
  rw [List.getD_eq_getElem?_getD, List.getElem?_append_right (by simp)]
  simp [List.getElem?_replicate]
  split <;> rfl
theorem fS_put (p : Sz → Int) (L : List Nd) {N k : Nat} (h : k < N) : (fS p L N k).set k (p (szAt L k)) = fS p L N (k + 1) := by
  unfold fS
  obtain ⟨m, hm⟩ : ∃ m, N - k = m + 1 := ⟨N - k - 1, by omega⟩
  rw [List.set_append_right _ _ (by simp), hm, List.replicate_succ, List.range_succ, List.map_append, show N - (k + 1) = m by omega]
  simp
theorem Slab.fs {w : World} {g N k : Nat} {L : List Nd} {p : Sz → Int} {v : Int} (o : Slab w g (intZA (fS p L N k)) 3) (hk : k < N) (hv : v = p (szAt L k)) : Slab (w.setCell ⟨g, k, none⟩ (.int .i64 v)) g (intZA (fS p L N (k + 1))) 3 := by
  have := o.set k (.int .i64 v)
  rw [zA_put, hv, fS_put p L hk] at this
  rw [hv]; exact this
def p1 (s : Sz) : Int := s.1
def p2 (s : Sz) : Int := s.2
set_option maxRecDepth 100000 in
set_option maxHeartbeats 2000000 in
theorem rsize_any (A : Option Addr) (c : Nat) (L : List Nd) (hlen : L.length ≤ 1000000) (w : World) (hL : NodesAt w w.heap.size A L) :
    Calls Try.prog 21 #[.slice A L.length c] w fun e w' => e = .returned (.tuple #[.int .i64 (sizeF L).1, .int .i64 (sizeF L).2]) ∧ Below w.heap.size w w' := by
  have CN := rnull_any A c L w hL
  have HL := Lib.hid hL; clear hL
  cases hr : rightF L with
  | false =>
    have e : nullF L = [] := by unfold nullF; rw [hr]; rfl
    have e2 : sizeF L = (0, 0) := by unfold sizeF; rw [hr]; rfl
    rw [e] at CN
    rw [e2]
    clear hr e e2
    have hmake : ∀ w : World, (Instr.makeSlice 76 (.int .i64 0) (.int .i64 0)).run Try.prog w = .ok (.slice (some ⟨w.heap.size, 0, none⟩) 0 0) (w.alloc (.cells (intsA (List.replicate 0 0)) 3)) := make_int 0 (by omega)
    go_enter Try.func21, Try.ntmps21
    go_wp2_with fail
    refine CN.mono ?_
    rintro e1 w1 ⟨A1, c1, rfl, hown, hb1⟩
    have HB2 := Lib.hid (((hb1.alloc hb1.size (.cells (intsA (List.replicate 0 0)) 3)).alloc (by have := hb1.size; simp; omega) (.cells (intsA (List.replicate 0 0)) 3)).drew)
    clear hown CN hb1
    go_wp2_with fail
    go_region_with fail
    all_goals
      go_wp2_with fail
      go_loopw [7] (fun i wr => i = .int .i64 0 ∧ Below w.heap.size w wr) (fun _ _ => 0)
      case atStart => exact ⟨rfl, HB2.out⟩
      case round =>
        obtain ⟨rfl, hB⟩ := hrel
        go_wp2
        refine bodyPost_ret (v := .tuple #[.int .i64 0, .int .i64 0]) (by simp [results, Try.results21, go_sem]) rfl ⟨rfl, hB⟩
  | true =>
  obtain ⟨hF, hok, _⟩ := right_parts hr
  have e : nullF L = nullL L L.length := by unfold nullF; rw [hr]; rfl
  have e2 : sizeF L = szAt L (L.length - 1) := by unfold sizeF; rw [hr]; rfl
  have hpos := (root_size hF).1
  rw [e, nullL_length] at CN
  rw [e2]
  obtain ⟨N, hN⟩ : ∃ N, L.length = N := ⟨_, rfl⟩
  rw [hN] at hlen CN hpos ⊢
  have HN := Lib.hid hN
  have HF := Lib.hid hF
  have HOK := Lib.hid hok
  obtain ⟨⟨t1, t2⟩, hrs⟩ : ∃ p, szAt L (N - 1) = p := ⟨_, rfl⟩
  rw [hrs]
  have HRS := Lib.hid hrs
  clear hN hF hok hr e e2 hrs
  have hmake := make_int N (by omega)
  go_enter Try.func21, Try.ntmps21
  go_wp2_with fail
  refine CN.mono ?_
  rintro e1 w1 ⟨A1, c1, rfl, hown1, hb1⟩
  obtain ⟨gN, rfl, hgb, hgN, hcN, hcellN⟩ := row_cell hown1 hpos
  have HCN := Lib.hid hcellN
  have HB1 := Lib.hid hb1
  clear CN hown1 hcellN hb1
  go_wp2_with fail
  go_region_with fail
  all_goals
    have hsz1 : w.heap.size ≤ w1.heap.size := HB1.out.size
  · have oA : Slab ((w1.alloc (.cells (intsA (List.replicate N 0)) 3)).alloc (.cells (intsA (List.replicate N 0)) 3)).drew w1.heap.size (intZA (fS p1 L N 0)) 3 := by
      have : intZA (fS p1 L N 0) = intsA (List.replicate N 0) := by rw [zA_zero]; unfold fS; simp
      rw [this]; exact ((Slab.new _ _ _).alloc _).drew
    have oB : Slab ((w1.alloc (.cells (intsA (List.replicate N 0)) 3)).alloc (.cells (intsA (List.replicate N 0)) 3)).drew (w1.heap.size + 1) (intZA (fS p2 L N 0)) 3 := by
      have : intZA (fS p2 L N 0) = intsA (List.replicate N 0) := by rw [zA_zero]; unfold fS; simp
      rw [this]; exact (Slab.newAt _ _ _ (by simp)).drew
    have hb2 : Below w1.heap.size w1 ((w1.alloc (.cells (intsA (List.replicate N 0)) 3)).alloc (.cells (intsA (List.replicate N 0)) 3)).drew := (((Below.refl w1.heap.size w1).alloc (Nat.le_refl _) _).alloc (by simp) _).drew
    have HB2 := Lib.hid (HB1.out.trans (hb2.mono hsz1))
    have HX2 := Lib.hid hb2
    clear hb2 HB1 hmake
    go_wp2_with fail
    go_loopw [7] (fun i wr => ∃ k : Nat, k ≤ N ∧ i = .int .i64 k ∧ Slab wr (w1.heap.size) (intZA (fS p1 L N k)) 3 ∧ Slab wr (w1.heap.size + 1) (intZA (fS p2 L N k)) 3 ∧ Below w.heap.size w wr ∧ Below w1.heap.size w1 wr) (fun i _ => N - (intOf i).toNat)
    case atStart => exact ⟨0, Nat.zero_le _, rfl, oA, oB, HB2.out, HX2.out⟩
    case round =>
      clear oA oB HB2 HX2
      obtain ⟨k, hk, rfl, oA, oB, hB, hX⟩ := hrel
      have HB := Lib.hid hB
      have HX := Lib.hid hX
      clear hB hX
      by_cases hlt : k < N
      · have hltL : k < L.length := by rw [HN.out]; exact hlt
        have CK := rkids_any A c L k wr ((HL.out.below HB.out).more HB.out.size)
        rw [HN.out] at CK
        have hklt := fun j hj => kidsF_lt (L := L) (k := k) (j := j) HF.out hltL hj
        have HKLT := Lib.hid hklt
        have hkl := kidsF_length HF.out hltL
        have hat := formed_at HF.out hltL
        have hstl := St_len (L := L) (k := k) (by omega)
        have hKb : (kidsF L (k : Int)).length ≤ N := by omega
        have hsz := szAt_eq HF.out hltL
        have hal := (nodeOk_parts (HOK.out k hltL)).1
        unfold lastNull at hsz
        obtain ⟨K, hK⟩ : ∃ K, kidsF L (k : Int) = K := ⟨_, rfl⟩
        rw [hK] at CK hKb HKLT hsz hkl
        have HSZ := Lib.hid hsz
        have HAL := Lib.hid hal
        have HKL := Lib.hid hkl
        clear hklt hkl hat hstl hK hsz hal
        go_wp2_with fail
        refine CK.mono ?_
        rintro e3 w3 ⟨A3, c3, rfl, hrow, hb3⟩
        have HK := Lib.hid (row_at0 hrow (by omega))
        have oA3 := oA.call hb3
        have oB3 := oB.call hb3
        have HB3 := Lib.hid (below_then HB.out hb3)
        have HX3 := Lib.hid (below_then HX.out hb3)
        clear CK hrow hb3 oA oB HB HX
        obtain ⟨M, hM⟩ : ∃ M, K.length = M := ⟨_, rfl⟩
        rw [hM]
        rw [hM] at hKb
        have HM := Lib.hid hM
        clear hM
        have hbd : ∀ j, j < N → Bd (szAt L j) := fun j hj => szAt_bd HF.out HOK.out j (by rw [HN.out]; exact hj)
        have HBD := Lib.hid hbd
        clear hbd
        go_wp2_with fail
        go_loopw [9, 10, 11] (fun a b' j wr2 => ∃ m : Nat, m ≤ M ∧ j = .int .i64 m ∧ a = .int .i64 (sumS (szK L K m)).1 ∧ b' = .int .i64 (sumS (szK L K m)).2 ∧ wr2 = w3) (fun _ _ j _ => M - (intOf j).toNat)
        case atStart => exact ⟨0, Nat.zero_le _, rfl, rfl, rfl, rfl⟩
        case round =>
          obtain ⟨m, hm, rfl, rfl, rfl, hw3⟩ := hrel
          subst hw3
          have hsb : Bd (sumS (szK L K m)) := Bd.sum fun s hs => by
            unfold szK at hs
            obtain ⟨j, hj, rfl⟩ := List.mem_map.1 hs
            have := HKLT.out j (List.mem_of_mem_take hj)
            exact HBD.out j (by omega)
          by_cases hlt2 : m < M
          · have hmK : m < K.length := by rw [HM.out]; exact hlt2
            obtain ⟨b3, off3, rfl, hb3, hc3⟩ := HK.out.at_ (j := m) hmK
            have hkj := HKLT.out (K.getD m 0) (by rw [List.getD_eq_getElem?_getD, List.getElem?_eq_getElem hmK]; exact List.getElem_mem _)
            have E2 := szK_succ L hmK
            have d1 := (oA3.cell (K.getD m 0)).trans (zA_get _ (by rw [fS_len _ _ hk]; omega))
            have d2 := (oB3.cell (K.getD m 0)).trans (zA_get _ (by rw [fS_len _ _ hk]; omega))
            rw [fS_get _ _ hkj] at d1 d2
            have hjb := HBD.out (K.getD m 0) (by omega)
            have hjN : K.getD m 0 < N := by omega
            have hsum : sumS (szK L K (m + 1)) = addS (sumS (szK L K m)) (szAt L (K.getD m 0)) := by
              rw [E2]; unfold sumS; rw [List.foldl_append]; rfl
            unfold addS at hsum
            unfold p1 at d1
            unfold p2 at d2
            generalize K.getD m 0 = j at *
            generalize szAt L j = sz at *
            obtain ⟨s1, s2⟩ := sz
            obtain ⟨⟨u1, u2⟩, hu⟩ : ∃ p, sumS (szK L K m) = p := ⟨_, rfl⟩
            rw [hu] at hsum hsb ⊢
            unfold Bd at hjb hsb
            simp only at d1 d2 hjb hsb hsum ⊢
            have HSUM := Lib.hid hsum
            have y1 : IntKind.i64.wrap (u1 + s1) = u1 + s1 := IntWalk.i64_in _ (by omega)
            have y2 : IntKind.i64.wrap (u2 + s2) = u2 + s2 := IntWalk.i64_in _ (by omega)
            clear hsum hu E2
            go_wp2_with fail
            refine (cut_any _ _).mono ?_
            rintro e5 w5 ⟨rfl, rfl⟩
            go_wp2_with fail
            refine (cut_any _ _).mono ?_
            rintro e6 w6 ⟨rfl, rfl⟩
            go_wp2_with fail
            go_roundw
            case rel => exact ⟨m + 1, by omega, by go_num, by rw [HSUM.out], by rw [HSUM.out], by trivial⟩
            case measure => simp [intOf]; omega
          · obtain rfl : m = M := by omega
            have htk : K.take m = K := by rw [← HM.out, List.take_length]
            have e2 : szK L K m = K.map (szAt L) := by unfold szK; rw [htk]
            have hsz := HSZ.out
            rw [← e2] at hsz
            have hlenK : (szK L K m).length = m := szK_length L (by rw [HM.out]; omega)
            unfold rawS at hsz
            rw [hlenK] at hsz
            obtain ⟨⟨s1, s2⟩, hs⟩ : ∃ p, sumS (szK L K m) = p := ⟨_, rfl⟩
            rw [hs] at hsz hsb ⊢
            unfold Bd at hsb
            have HS := Lib.hid hs
            obtain ⟨b, off, rfl, hbb, hn8⟩ := (HL.out.below HB3.out).node hltL
            obtain ⟨lb, hlb⟩ : ∃ q, (K.map (nullAt L)).getLastD false = q := ⟨_, rfl⟩
            rw [hlb] at hsz
            have HLB := Lib.hid hlb
            have hkl := HKL.out
            rw [HM.out] at hkl
            have hni := nodeIs HAL.out
            obtain ⟨coA, foA⟩ := oA3.facts
            obtain ⟨coB, foB⟩ := oB3.facts
            have ckA := (oA3.cell k).trans (zA_get _ (by rw [fS_len _ _ hk]; exact hlt))
            have ckB := (oB3.cell k).trans (zA_get _ (by rw [fS_len _ _ hk]; exact hlt))
            have hglA := oA3.lt
            have hglB := oB3.lt
            generalize L.getD k ndEmpty = x at *
            obtain ⟨kd, kn, xn, xm, xf⟩ := x
            unfold Node8 at hn8
            simp only at hn8 hsz hkl hni hsb ⊢
            obtain ⟨n0, n1, n2, n3, n4, n5, n6, n7⟩ := hn8
            clear htk e2 hs hlb hlenK coA coB hlt2
            cases hni with
            | empty hk1 hn1 h1 =>
              simp only at hk1 hn1
              subst hk1 hn1
              have hm0 : m = 0 := by rw [hkl]; rfl
              have h00 : s2 = 0 := by
                have := HS.out
                rw [hm0] at this
                have e : sumS (szK L K 0) = (0, 0) := by unfold szK; simp [sumS]
                rw [e] at this
                cases this; rfl
              subst h00
              have HSZ2 : Hid (szAt L k = (capI 1, capI 0)) := Lib.hid hsz
              clear hsz h1
              go_wp2_with fail
              refine (cut_any _ _).mono ?_
              rintro e5 w5 ⟨rfl, rfl⟩
              go_wp2_with fail
              refine (cut_any _ _).mono ?_
              rintro e6 w6 ⟨rfl, rfl⟩
              go_wp2_with fail
              go_roundw
              case rel => exact ⟨k + 1, by omega, by go_num, (oA3.fs hlt (by rw [HSZ2.out]; rfl)).far (by omega) _, ((oB3.far (by omega) _).fs hlt (by rw [HSZ2.out]; rfl)), below_set (below_set HB3.out (by omega) _) (by omega) _, below_set (below_set HX3.out (by omega) _) (by omega) _⟩
              case measure => simp [intOf]; omega
            | set hk1 hn1 h1 =>
              simp only at hk1
              subst hk1
              have HSZ2 : Hid (szAt L k = (capI 1, capI 1)) := Lib.hid hsz
              clear hsz h1
              go_wp2_with fail
              refine (cut_any _ _).mono ?_
              rintro e5 w5 ⟨rfl, rfl⟩
              go_wp2_with fail
              refine (cut_any _ _).mono ?_
              rintro e6 w6 ⟨rfl, rfl⟩
              go_wp2_with fail
              go_roundw
              case rel => exact ⟨k + 1, by omega, by go_num, (oA3.fs hlt (by rw [HSZ2.out]; rfl)).far (by omega) _, ((oB3.far (by omega) _).fs hlt (by rw [HSZ2.out]; rfl)), below_set (below_set HB3.out (by omega) _) (by omega) _, below_set (below_set HX3.out (by omega) _) (by omega) _⟩
              case measure => simp [intOf]; omega
            | group hk1 hn1 h1 =>
              simp only at hk1
              subst hk1
              have HSZ2 : Hid (szAt L k = (capI (s1 + 1), capI s2)) := Lib.hid hsz
              clear hsz h1
              go_wp2_with fail
              refine (cut_any _ _).mono ?_
              rintro e5 w5 ⟨rfl, rfl⟩
              go_wp2_with fail
              refine (cut_any _ _).mono ?_
              rintro e6 w6 ⟨rfl, rfl⟩
              go_wp2_with fail
              go_roundw
              case rel => exact ⟨k + 1, by omega, by go_num, (oA3.fs hlt (by rw [HSZ2.out]; rfl)).far (by omega) _, ((oB3.far (by omega) _).fs hlt (by rw [HSZ2.out]; rfl)), below_set (below_set HB3.out (by omega) _) (by omega) _, below_set (below_set HX3.out (by omega) _) (by omega) _⟩
              case measure => simp [intOf]; omega
            | rep hk1 hn1 hr1 h1 =>
              simp only at hk1 hn1 hr1
              subst hk1 hn1
              have hm1 : m = 1 := by rw [hkl]; rfl
              obtain ⟨m0, m1, y0, y1, c0, c1'⟩ := cop_bd hr1 lb
              have hsz : szAt L k = (capI (repS (s1, s2) xn xm lb).1, capI (repS (s1, s2) xn xm lb).2) := hsz
              by_cases hxm : xm = 0
              · subst hxm
                have HSZ2 : Hid (szAt L k = (capI 1, capI 0)) := Lib.hid hsz
                clear hsz h1 hkl hr1
                go_wp2_with fail
                refine (cut_any _ _).mono ?_
                rintro e5 w5 ⟨rfl, rfl⟩
                go_wp2_with fail
                refine (cut_any _ _).mono ?_
                rintro e6 w6 ⟨rfl, rfl⟩
                go_wp2_with fail
                go_roundw
                case rel => exact ⟨k + 1, by omega, by go_num, (oA3.fs hlt (by rw [HSZ2.out]; rfl)).far (by omega) _, ((oB3.far (by omega) _).fs hlt (by rw [HSZ2.out]; rfl)), below_set (below_set HB3.out (by omega) _) (by omega) _, below_set (below_set HX3.out (by omega) _) (by omega) _⟩
                case measure => simp [intOf]; omega
              have hxm1 : (xm == 0) = false := beq_eq_false_iff_ne.2 hxm
              obtain ⟨j0, hj0⟩ := List.length_eq_one_iff.1 (HM.out.trans hm1)
              obtain ⟨b3, off3, rfl, hb3, hc3⟩ := HK.out.at_ (j := 0) (by rw [HM.out]; omega)
              have hjk := HKLT.out j0 (by rw [hj0]; simp)
              have hkc : K.getD 0 0 = j0 := by rw [hj0]; rfl
              have hlb2 : nullAt L j0 = lb := by have := HLB.out; rw [hj0] at this; exact this
              have hcn := (HX3.out.cell (p := ⟨gN, j0, none⟩) hgN).trans (HCN.out j0 (by omega))
              have hnl : ((nullL L N).map Value.bool)[j0]? = some (.bool lb) := by rw [List.getElem?_map, nullL_get L (by omega), ← hlb2]; rfl
              rw [hnl] at hcn
              rw [hkc] at hc3
              have hgNw : gN < wr.heap.size := Nat.lt_of_lt_of_le hgN HX3.out.size
              have hbw : b < wr.heap.size := Nat.lt_of_lt_of_le hbb HB3.out.size
              have hj0N : j0 < N := by omega
              have r0 : ∀ d os, (grow (redrawn wr d) os).cell? ⟨b, off + k * 8, none⟩ = _ := fun d os => ((below_regrown wr d os).cell (p := ⟨b, off + k * 8, none⟩) hbw).trans n0
              have r1 : ∀ d os, (grow (redrawn wr d) os).cell? ⟨b, off + k * 8 + 1, none⟩ = _ := fun d os => ((below_regrown wr d os).cell (p := ⟨b, off + k * 8 + 1, none⟩) hbw).trans n1
              have r2 : ∀ d os, (grow (redrawn wr d) os).cell? ⟨b, off + k * 8 + 2, none⟩ = _ := fun d os => ((below_regrown wr d os).cell (p := ⟨b, off + k * 8 + 2, none⟩) hbw).trans n2
              have r3 : ∀ d os, (grow (redrawn wr d) os).cell? ⟨b, off + k * 8 + 3, none⟩ = _ := fun d os => ((below_regrown wr d os).cell (p := ⟨b, off + k * 8 + 3, none⟩) hbw).trans n3
              have r4 : ∀ d os, (grow (redrawn wr d) os).cell? ⟨b, off + k * 8 + 4, none⟩ = _ := fun d os => ((below_regrown wr d os).cell (p := ⟨b, off + k * 8 + 4, none⟩) hbw).trans n4
              have r5 : ∀ d os, (grow (redrawn wr d) os).cell? ⟨b, off + k * 8 + 5, none⟩ = _ := fun d os => ((below_regrown wr d os).cell (p := ⟨b, off + k * 8 + 5, none⟩) hbw).trans n5
              have r6 : ∀ d os, (grow (redrawn wr d) os).cell? ⟨b, off + k * 8 + 6, none⟩ = _ := fun d os => ((below_regrown wr d os).cell (p := ⟨b, off + k * 8 + 6, none⟩) hbw).trans n6
              have r7 : ∀ d os, (grow (redrawn wr d) os).cell? ⟨b, off + k * 8 + 7, none⟩ = _ := fun d os => ((below_regrown wr d os).cell (p := ⟨b, off + k * 8 + 7, none⟩) hbw).trans n7
              have r8 : ∀ d os, (grow (redrawn wr d) os).cell? ⟨b3, off3, none⟩ = _ := fun d os => ((below_regrown wr d os).cell (p := ⟨b3, off3, none⟩) hb3).trans hc3
              have r9 : ∀ d os, (grow (redrawn wr d) os).cell? ⟨gN, j0, none⟩ = _ := fun d os => ((below_regrown wr d os).cell (p := ⟨gN, j0, none⟩) hgNw).trans hcn
              have C1 := rcopies_any ⟨4, 1, xn, xm, xf⟩ lb hr1
              unfold ndCells at C1
              simp only at C1
              clear hj0 hkc hnl hkl hlb2 h1
              subst hm1
              clear HSZ HAL HKL
              by_cases hneg : xm < 0
              · have hmo : moreN xn xm lb = -1 := by unfold moreN; rw [if_pos hneg]
                have hco : copN xn xm lb = mustN xn lb + 1 := by unfold copN; rw [if_pos hneg]
                have hmy : mayN xn xm lb = 0 := by unfold mayN; rw [if_pos hneg]
                have hrs : repS (s1, s2) xn xm lb = ((mustN xn lb + 1) * (s1 + 1) + (mustN xn lb + 1) - 1 + 0 + 1, (mustN xn lb + 1) * s2) := by unfold repS; rw [if_neg (by rw [hxm1]; decide), hco, hmy, if_pos hneg]
                rw [hmo] at C1
                rw [hco] at c0 c1'
                rw [hrs] at hsz
                clear hmo hco hmy hrs y0 y1 hr1
                generalize mustN xn lb = mu at *
                obtain ⟨P0, P1⟩ := mul_bd (a := s1 + 1) c0 c1' (by omega) (by omega)
                obtain ⟨Q0, Q1⟩ := mul_bd (a := s2) c0 c1' hsb.2.2.1 (by omega)
                obtain ⟨P, hP⟩ : ∃ P, (mu + 1) * (s1 + 1) = P := ⟨_, rfl⟩
                obtain ⟨Q, hQ⟩ : ∃ Q, (mu + 1) * s2 = Q := ⟨_, rfl⟩
                rw [hP] at P0 P1 hsz
                rw [hQ] at Q0 Q1 hsz
                have hsz : szAt L k = (capI (P + mu + 1), capI Q) := by rw [hsz]; exact Prod.ext (congrArg capI (by show P + (mu + 1) - 1 + 0 + 1 = P + mu + 1; omega)) rfl
                have HSZ2 := Lib.hid hsz
                have yP : IntKind.i64.wrap P = P := IntWalk.i64_in _ (by omega)
                have yQ : IntKind.i64.wrap Q = Q := IntWalk.i64_in _ (by omega)
                clear hsz
                go_wp2_with fail
                refine wp_region_quiet_below (by kernel_rfl) (by kernel_rfl) ?_
                repeat (first | go_big_quiet_step ((first | (go_at_call 52; exact Calls.regrown_of (C1 _)))) | quiet_step ((first | (go_at_call 52; exact Calls.regrown_of (C1 _)))))
                refine wpQuiet_nil ?_
                intro _ hw'
                obtain ⟨⟨qd, qos⟩, hw''⟩ := hw'
                subst hw''
                have hbW := below_regrown wr qd qos
                generalize grow (redrawn wr qd) qos = w9 at *
                have oA9 := oA3.call hbW
                have oB9 := oB3.call hbW
                have HB9 := Lib.hid (below_then HB3.out hbW)
                have HX9 := Lib.hid (below_then HX3.out hbW)
                clear hbW r0 r1 r2 r3 r4 r5 r6 r7 r8 r9 n0 n1 n2 n3 n4 n5 n6 n7 C1 oA3 oB3 HB3 HX3 foA foB ckA ckB hglA hglB HK hc3 hcn
                obtain ⟨coA, foA⟩ := oA9.facts
                obtain ⟨coB, foB⟩ := oB9.facts
                have ckA := (oA9.cell k).trans (zA_get _ (by rw [fS_len _ _ hk]; exact hlt))
                have ckB := (oB9.cell k).trans (zA_get _ (by rw [fS_len _ _ hk]; exact hlt))
                have hglA := oA9.lt
                have hglB := oB9.lt
                clear coA coB
                go_wp2_with fail
                refine (cut_any _ _).mono ?_
                rintro e5 w5 ⟨rfl, rfl⟩
                go_wp2_with fail
                refine (cut_any _ _).mono ?_
                rintro e6 w6 ⟨rfl, rfl⟩
                go_wp2_with fail
                go_roundw
                case rel => exact ⟨k + 1, by omega, by go_num, (oA9.fs hlt (by rw [HSZ2.out]; rfl)).far (by omega) _, ((oB9.far (by omega) _).fs hlt (by rw [HSZ2.out]; rfl)), below_set (below_set HB9.out (by omega) _) (by omega) _, below_set (below_set HX9.out (by omega) _) (by omega) _⟩
                case measure => simp [intOf]; omega
              · have hmo : moreN xn xm lb = mayN xn xm lb := by unfold moreN; rw [if_neg hneg]
                have hco : copN xn xm lb = mustN xn lb + mayN xn xm lb := by unfold copN; rw [if_neg hneg]
                have hrs : repS (s1, s2) xn xm lb = ((mustN xn lb + mayN xn xm lb) * (s1 + 1) + (mustN xn lb + mayN xn xm lb) - 1 + mayN xn xm lb + 0, (mustN xn lb + mayN xn xm lb) * s2) := by unfold repS; rw [if_neg (by rw [hxm1]; decide), hco, if_neg hneg]
                rw [hmo] at C1
                rw [hco] at c0 c1'
                rw [hrs] at hsz
                clear hmo hco hrs hr1
                generalize mustN xn lb = mu at *
                generalize mayN xn xm lb = my at *
                have hm9 : (my == -1) = false := beq_eq_false_iff_ne.2 (by omega)
                obtain ⟨P0, P1⟩ := mul_bd (a := s1 + 1) c0 c1' (by omega) (by omega)
                obtain ⟨Q0, Q1⟩ := mul_bd (a := s2) c0 c1' hsb.2.2.1 (by omega)
                obtain ⟨P, hP⟩ : ∃ P, (mu + my) * (s1 + 1) = P := ⟨_, rfl⟩
                obtain ⟨Q, hQ⟩ : ∃ Q, (mu + my) * s2 = Q := ⟨_, rfl⟩
                rw [hP] at P0 P1 hsz
                rw [hQ] at Q0 Q1 hsz
                have hsz : szAt L k = (capI (P + (mu + my - 1) + my), capI Q) := by rw [hsz]; exact Prod.ext (congrArg capI (by show P + (mu + my) - 1 + my + 0 = P + (mu + my - 1) + my; omega)) rfl
                have HSZ2 := Lib.hid hsz
                have yP : IntKind.i64.wrap P = P := IntWalk.i64_in _ (by omega)
                have yQ : IntKind.i64.wrap Q = Q := IntWalk.i64_in _ (by omega)
                clear hsz
                go_wp2_with fail
                refine wp_region_quiet_below (by kernel_rfl) (by kernel_rfl) ?_
                repeat (first | go_big_quiet_step ((first | (go_at_call 52; exact Calls.regrown_of (C1 _)))) | quiet_step ((first | (go_at_call 52; exact Calls.regrown_of (C1 _)))))
                refine wpQuiet_nil ?_
                intro _ hw'
                obtain ⟨⟨qd, qos⟩, hw''⟩ := hw'
                subst hw''
                have hbW := below_regrown wr qd qos
                generalize grow (redrawn wr qd) qos = w9 at *
                have oA9 := oA3.call hbW
                have oB9 := oB3.call hbW
                have HB9 := Lib.hid (below_then HB3.out hbW)
                have HX9 := Lib.hid (below_then HX3.out hbW)
                clear hbW r0 r1 r2 r3 r4 r5 r6 r7 r8 r9 n0 n1 n2 n3 n4 n5 n6 n7 C1 oA3 oB3 HB3 HX3 foA foB ckA ckB hglA hglB HK hc3 hcn
                obtain ⟨coA, foA⟩ := oA9.facts
                obtain ⟨coB, foB⟩ := oB9.facts
                have ckA := (oA9.cell k).trans (zA_get _ (by rw [fS_len _ _ hk]; exact hlt))
                have ckB := (oB9.cell k).trans (zA_get _ (by rw [fS_len _ _ hk]; exact hlt))
                have hglA := oA9.lt
                have hglB := oB9.lt
                clear coA coB
                go_wp2_with fail
                refine (cut_any _ _).mono ?_
                rintro e5 w5 ⟨rfl, rfl⟩
                go_wp2_with fail
                refine (cut_any _ _).mono ?_
                rintro e6 w6 ⟨rfl, rfl⟩
                go_wp2_with fail
                go_roundw
                case rel => exact ⟨k + 1, by omega, by go_num, (oA9.fs hlt (by rw [HSZ2.out]; rfl)).far (by omega) _, ((oB9.far (by omega) _).fs hlt (by rw [HSZ2.out]; rfl)), below_set (below_set HB9.out (by omega) _) (by omega) _, below_set (below_set HX9.out (by omega) _) (by omega) _⟩
                case measure => simp [intOf]; omega
            | cat hk1 m2 hn1 h2 h1 =>
              simp only at hk1
              subst hk1
              have HSZ2 : Hid (szAt L k = (capI (s1 + (m : Int) - 1), capI s2)) := Lib.hid (by rw [hsz]; show (capI (s1 + ((m : Int) - 1)), capI s2) = _; rw [show s1 + ((m : Int) - 1) = s1 + (m : Int) - 1 by omega])
              clear hsz h1 hkl hn1 h2
              go_wp2_with fail
              refine (cut_any _ _).mono ?_
              rintro e5 w5 ⟨rfl, rfl⟩
              go_wp2_with fail
              refine (cut_any _ _).mono ?_
              rintro e6 w6 ⟨rfl, rfl⟩
              go_wp2_with fail
              go_roundw
              case rel => exact ⟨k + 1, by omega, by go_num, (oA3.fs hlt (by rw [HSZ2.out]; rfl)).far (by omega) _, ((oB3.far (by omega) _).fs hlt (by rw [HSZ2.out]; rfl)), below_set (below_set HB3.out (by omega) _) (by omega) _, below_set (below_set HX3.out (by omega) _) (by omega) _⟩
              case measure => simp [intOf]; omega
            | alt hk1 m2 hn1 h2 h1 =>
              simp only at hk1
              subst hk1
              have HSZ2 : Hid (szAt L k = (capI (s1 + (m : Int) - 1), capI s2)) := Lib.hid (by rw [hsz]; show (capI (s1 + ((m : Int) - 1)), capI s2) = _; rw [show s1 + ((m : Int) - 1) = s1 + (m : Int) - 1 by omega])
              clear hsz h1 hkl hn1 h2
              go_wp2_with fail
              refine (cut_any _ _).mono ?_
              rintro e5 w5 ⟨rfl, rfl⟩
              go_wp2_with fail
              refine (cut_any _ _).mono ?_
              rintro e6 w6 ⟨rfl, rfl⟩
              go_wp2_with fail
              go_roundw
              case rel => exact ⟨k + 1, by omega, by go_num, (oA3.fs hlt (by rw [HSZ2.out]; rfl)).far (by omega) _, ((oB3.far (by omega) _).fs hlt (by rw [HSZ2.out]; rfl)), below_set (below_set HB3.out (by omega) _) (by omega) _, below_set (below_set HX3.out (by omega) _) (by omega) _⟩
              case measure => simp [intOf]; omega
      · obtain rfl : k = N := by omega
        obtain ⟨r, hr⟩ : ∃ r, k = r + 1 := ⟨k - 1, by omega⟩
        have hz := HRS.out
        rw [show k - 1 = r by omega] at hz
        have q1 := (oA.cell r).trans (zA_get _ (by rw [fS_len _ _ (Nat.le_refl _)]; omega))
        have q2 := (oB.cell r).trans (zA_get _ (by rw [fS_len _ _ (Nat.le_refl _)]; omega))
        rw [fS_get _ _ (by omega), hz] at q1 q2
        replace q1 : wr.cell? ⟨w1.heap.size, r, none⟩ = some (.int .i64 t1) := q1
        replace q2 : wr.cell? ⟨w1.heap.size + 1, r, none⟩ = some (.int .i64 t2) := q2
        have hn0 : ((k : Int) == 0) = false := beq_eq_false_iff_ne.2 (by omega)
        have hn1 : (k == 0) = false := beq_eq_false_iff_ne.2 (by omega)
        have x1 : (k : Int) - 1 = (r : Int) := by omega
        have x2 : IntKind.i64.wrap ((k : Int) - 1) = (r : Int) := by rw [x1]; exact IntWalk.i64_in _ (by omega)
        have x3 : IntKind.i64.wrap (r : Int) = (r : Int) := IntWalk.i64_in _ (by omega)
        have x4 : 1 ≤ (k : Int) := by omega
        have x5 : (0 : Int) ≤ (r : Int) := by omega
        have x6 : (r : Int) < (k : Int) := by omega
        have x7 : r < k := by omega
        clear hz hlt oA oB
        go_wp2_with fail
        go_quiet (fail)
        go_wp2
        refine bodyPost_ret (v := .tuple #[.int .i64 t1, .int .i64 t2]) (by simp [results, Try.results21, go_sem]) rfl ⟨rfl, ?_⟩
        first
          | exact HB.out
          | exact HB.out.drew
          | exact below_drewN HB.out _
  · have oB : Slab ((w1.alloc (.cells (intsA (List.replicate N 0)) 3)).alloc (.cells (intsA (List.replicate N 0)) 3)).drew w1.heap.size (intZA (fS p2 L N 0)) 3 := by
      have : intZA (fS p2 L N 0) = intsA (List.replicate N 0) := by rw [zA_zero]; unfold fS; simp
      rw [this]; exact ((Slab.new _ _ _).alloc _).drew
    have oA : Slab ((w1.alloc (.cells (intsA (List.replicate N 0)) 3)).alloc (.cells (intsA (List.replicate N 0)) 3)).drew (w1.heap.size + 1) (intZA (fS p1 L N 0)) 3 := by
      have : intZA (fS p1 L N 0) = intsA (List.replicate N 0) := by rw [zA_zero]; unfold fS; simp
      rw [this]; exact (Slab.newAt _ _ _ (by simp)).drew
    have hb2 : Below w1.heap.size w1 ((w1.alloc (.cells (intsA (List.replicate N 0)) 3)).alloc (.cells (intsA (List.replicate N 0)) 3)).drew := (((Below.refl w1.heap.size w1).alloc (Nat.le_refl _) _).alloc (by simp) _).drew
    have HB2 := Lib.hid (HB1.out.trans (hb2.mono hsz1))
    have HX2 := Lib.hid hb2
    clear hb2 HB1 hmake
    go_wp2_with fail
    go_loopw [7] (fun i wr => ∃ k : Nat, k ≤ N ∧ i = .int .i64 k ∧ Slab wr (w1.heap.size + 1) (intZA (fS p1 L N k)) 3 ∧ Slab wr (w1.heap.size) (intZA (fS p2 L N k)) 3 ∧ Below w.heap.size w wr ∧ Below w1.heap.size w1 wr) (fun i _ => N - (intOf i).toNat)
    case atStart => exact ⟨0, Nat.zero_le _, rfl, oA, oB, HB2.out, HX2.out⟩
    case round =>
      clear oA oB HB2 HX2
      obtain ⟨k, hk, rfl, oA, oB, hB, hX⟩ := hrel
      have HB := Lib.hid hB
      have HX := Lib.hid hX
      clear hB hX
      by_cases hlt : k < N
      · have hltL : k < L.length := by rw [HN.out]; exact hlt
        have CK := rkids_any A c L k wr ((HL.out.below HB.out).more HB.out.size)
        rw [HN.out] at CK
        have hklt := fun j hj => kidsF_lt (L := L) (k := k) (j := j) HF.out hltL hj
        have HKLT := Lib.hid hklt
        have hkl := kidsF_length HF.out hltL
        have hat := formed_at HF.out hltL
        have hstl := St_len (L := L) (k := k) (by omega)
        have hKb : (kidsF L (k : Int)).length ≤ N := by omega
        have hsz := szAt_eq HF.out hltL
        have hal := (nodeOk_parts (HOK.out k hltL)).1
        unfold lastNull at hsz
        obtain ⟨K, hK⟩ : ∃ K, kidsF L (k : Int) = K := ⟨_, rfl⟩
        rw [hK] at CK hKb HKLT hsz hkl
        have HSZ := Lib.hid hsz
        have HAL := Lib.hid hal
        have HKL := Lib.hid hkl
        clear hklt hkl hat hstl hK hsz hal
        go_wp2_with fail
        refine CK.mono ?_
        rintro e3 w3 ⟨A3, c3, rfl, hrow, hb3⟩
        have HK := Lib.hid (row_at0 hrow (by omega))
        have oA3 := oA.call hb3
        have oB3 := oB.call hb3
        have HB3 := Lib.hid (below_then HB.out hb3)
        have HX3 := Lib.hid (below_then HX.out hb3)
        clear CK hrow hb3 oA oB HB HX
        obtain ⟨M, hM⟩ : ∃ M, K.length = M := ⟨_, rfl⟩
        rw [hM]
        rw [hM] at hKb
        have HM := Lib.hid hM
        clear hM
        have hbd : ∀ j, j < N → Bd (szAt L j) := fun j hj => szAt_bd HF.out HOK.out j (by rw [HN.out]; exact hj)
        have HBD := Lib.hid hbd
        clear hbd
        go_wp2_with fail
        go_loopw [9, 10, 11] (fun a b' j wr2 => ∃ m : Nat, m ≤ M ∧ j = .int .i64 m ∧ a = .int .i64 (sumS (szK L K m)).1 ∧ b' = .int .i64 (sumS (szK L K m)).2 ∧ wr2 = w3) (fun _ _ j _ => M - (intOf j).toNat)
        case atStart => exact ⟨0, Nat.zero_le _, rfl, rfl, rfl, rfl⟩
        case round =>
          obtain ⟨m, hm, rfl, rfl, rfl, hw3⟩ := hrel
          subst hw3
          have hsb : Bd (sumS (szK L K m)) := Bd.sum fun s hs => by
            unfold szK at hs
            obtain ⟨j, hj, rfl⟩ := List.mem_map.1 hs
            have := HKLT.out j (List.mem_of_mem_take hj)
            exact HBD.out j (by omega)
          by_cases hlt2 : m < M
          · have hmK : m < K.length := by rw [HM.out]; exact hlt2
            obtain ⟨b3, off3, rfl, hb3, hc3⟩ := HK.out.at_ (j := m) hmK
            have hkj := HKLT.out (K.getD m 0) (by rw [List.getD_eq_getElem?_getD, List.getElem?_eq_getElem hmK]; exact List.getElem_mem _)
            have E2 := szK_succ L hmK
            have d1 := (oA3.cell (K.getD m 0)).trans (zA_get _ (by rw [fS_len _ _ hk]; omega))
            have d2 := (oB3.cell (K.getD m 0)).trans (zA_get _ (by rw [fS_len _ _ hk]; omega))
            rw [fS_get _ _ hkj] at d1 d2
            have hjb := HBD.out (K.getD m 0) (by omega)
            have hjN : K.getD m 0 < N := by omega
            have hsum : sumS (szK L K (m + 1)) = addS (sumS (szK L K m)) (szAt L (K.getD m 0)) := by
              rw [E2]; unfold sumS; rw [List.foldl_append]; rfl
            unfold addS at hsum
            unfold p1 at d1
            unfold p2 at d2
            generalize K.getD m 0 = j at *
            generalize szAt L j = sz at *
            obtain ⟨s1, s2⟩ := sz
            obtain ⟨⟨u1, u2⟩, hu⟩ : ∃ p, sumS (szK L K m) = p := ⟨_, rfl⟩
            rw [hu] at hsum hsb ⊢
            unfold Bd at hjb hsb
            simp only at d1 d2 hjb hsb hsum ⊢
            have HSUM := Lib.hid hsum
            have y1 : IntKind.i64.wrap (u1 + s1) = u1 + s1 := IntWalk.i64_in _ (by omega)
            have y2 : IntKind.i64.wrap (u2 + s2) = u2 + s2 := IntWalk.i64_in _ (by omega)
            clear hsum hu E2
            go_wp2_with fail
            refine (cut_any _ _).mono ?_
            rintro e5 w5 ⟨rfl, rfl⟩
            go_wp2_with fail
            refine (cut_any _ _).mono ?_
            rintro e6 w6 ⟨rfl, rfl⟩
            go_wp2_with fail
            go_roundw
            case rel => exact ⟨m + 1, by omega, by go_num, by rw [HSUM.out], by rw [HSUM.out], by trivial⟩
            case measure => simp [intOf]; omega
          · obtain rfl : m = M := by omega
            have htk : K.take m = K := by rw [← HM.out, List.take_length]
            have e2 : szK L K m = K.map (szAt L) := by unfold szK; rw [htk]
            have hsz := HSZ.out
            rw [← e2] at hsz
            have hlenK : (szK L K m).length = m := szK_length L (by rw [HM.out]; omega)
            unfold rawS at hsz
            rw [hlenK] at hsz
            obtain ⟨⟨s1, s2⟩, hs⟩ : ∃ p, sumS (szK L K m) = p := ⟨_, rfl⟩
            rw [hs] at hsz hsb ⊢
            unfold Bd at hsb
            have HS := Lib.hid hs
            obtain ⟨b, off, rfl, hbb, hn8⟩ := (HL.out.below HB3.out).node hltL
            obtain ⟨lb, hlb⟩ : ∃ q, (K.map (nullAt L)).getLastD false = q := ⟨_, rfl⟩
            rw [hlb] at hsz
            have HLB := Lib.hid hlb
            have hkl := HKL.out
            rw [HM.out] at hkl
            have hni := nodeIs HAL.out
            obtain ⟨coA, foA⟩ := oA3.facts
            obtain ⟨coB, foB⟩ := oB3.facts
            have ckA := (oA3.cell k).trans (zA_get _ (by rw [fS_len _ _ hk]; exact hlt))
            have ckB := (oB3.cell k).trans (zA_get _ (by rw [fS_len _ _ hk]; exact hlt))
            have hglA := oA3.lt
            have hglB := oB3.lt
            generalize L.getD k ndEmpty = x at *
            obtain ⟨kd, kn, xn, xm, xf⟩ := x
            unfold Node8 at hn8
            simp only at hn8 hsz hkl hni hsb ⊢
            obtain ⟨n0, n1, n2, n3, n4, n5, n6, n7⟩ := hn8
            clear htk e2 hs hlb hlenK coA coB hlt2
            cases hni with
            | empty hk1 hn1 h1 =>
              simp only at hk1 hn1
              subst hk1 hn1
              have hm0 : m = 0 := by rw [hkl]; rfl
              have h00 : s2 = 0 := by
                have := HS.out
                rw [hm0] at this
                have e : sumS (szK L K 0) = (0, 0) := by unfold szK; simp [sumS]
                rw [e] at this
                cases this; rfl
              subst h00
              have HSZ2 : Hid (szAt L k = (capI 1, capI 0)) := Lib.hid hsz
              clear hsz h1
              go_wp2_with fail
              refine (cut_any _ _).mono ?_
              rintro e5 w5 ⟨rfl, rfl⟩
              go_wp2_with fail
              refine (cut_any _ _).mono ?_
              rintro e6 w6 ⟨rfl, rfl⟩
              go_wp2_with fail
              go_roundw
              case rel => exact ⟨k + 1, by omega, by go_num, (oA3.fs hlt (by rw [HSZ2.out]; rfl)).far (by omega) _, ((oB3.far (by omega) _).fs hlt (by rw [HSZ2.out]; rfl)), below_set (below_set HB3.out (by omega) _) (by omega) _, below_set (below_set HX3.out (by omega) _) (by omega) _⟩
              case measure => simp [intOf]; omega
            | set hk1 hn1 h1 =>
              simp only at hk1
              subst hk1
              have HSZ2 : Hid (szAt L k = (capI 1, capI 1)) := Lib.hid hsz
              clear hsz h1
              go_wp2_with fail
              refine (cut_any _ _).mono ?_
              rintro e5 w5 ⟨rfl, rfl⟩
              go_wp2_with fail
              refine (cut_any _ _).mono ?_
              rintro e6 w6 ⟨rfl, rfl⟩
              go_wp2_with fail
              go_roundw
              case rel => exact ⟨k + 1, by omega, by go_num, (oA3.fs hlt (by rw [HSZ2.out]; rfl)).far (by omega) _, ((oB3.far (by omega) _).fs hlt (by rw [HSZ2.out]; rfl)), below_set (below_set HB3.out (by omega) _) (by omega) _, below_set (below_set HX3.out (by omega) _) (by omega) _⟩
              case measure => simp [intOf]; omega
            | group hk1 hn1 h1 =>
              simp only at hk1
              subst hk1
              have HSZ2 : Hid (szAt L k = (capI (s1 + 1), capI s2)) := Lib.hid hsz
              clear hsz h1
              go_wp2_with fail
              refine (cut_any _ _).mono ?_
              rintro e5 w5 ⟨rfl, rfl⟩
              go_wp2_with fail
              refine (cut_any _ _).mono ?_
              rintro e6 w6 ⟨rfl, rfl⟩
              go_wp2_with fail
              go_roundw
              case rel => exact ⟨k + 1, by omega, by go_num, (oA3.fs hlt (by rw [HSZ2.out]; rfl)).far (by omega) _, ((oB3.far (by omega) _).fs hlt (by rw [HSZ2.out]; rfl)), below_set (below_set HB3.out (by omega) _) (by omega) _, below_set (below_set HX3.out (by omega) _) (by omega) _⟩
              case measure => simp [intOf]; omega
            | rep hk1 hn1 hr1 h1 =>
              simp only at hk1 hn1 hr1
              subst hk1 hn1
              have hm1 : m = 1 := by rw [hkl]; rfl
              obtain ⟨m0, m1, y0, y1, c0, c1'⟩ := cop_bd hr1 lb
              have hsz : szAt L k = (capI (repS (s1, s2) xn xm lb).1, capI (repS (s1, s2) xn xm lb).2) := hsz
              by_cases hxm : xm = 0
              · subst hxm
                have HSZ2 : Hid (szAt L k = (capI 1, capI 0)) := Lib.hid hsz
                clear hsz h1 hkl hr1
                go_wp2_with fail
                refine (cut_any _ _).mono ?_
                rintro e5 w5 ⟨rfl, rfl⟩
                go_wp2_with fail
                refine (cut_any _ _).mono ?_
                rintro e6 w6 ⟨rfl, rfl⟩
                go_wp2_with fail
                go_roundw
                case rel => exact ⟨k + 1, by omega, by go_num, (oA3.fs hlt (by rw [HSZ2.out]; rfl)).far (by omega) _, ((oB3.far (by omega) _).fs hlt (by rw [HSZ2.out]; rfl)), below_set (below_set HB3.out (by omega) _) (by omega) _, below_set (below_set HX3.out (by omega) _) (by omega) _⟩
                case measure => simp [intOf]; omega
              have hxm1 : (xm == 0) = false := beq_eq_false_iff_ne.2 hxm
              obtain ⟨j0, hj0⟩ := List.length_eq_one_iff.1 (HM.out.trans hm1)
              obtain ⟨b3, off3, rfl, hb3, hc3⟩ := HK.out.at_ (j := 0) (by rw [HM.out]; omega)
              have hjk := HKLT.out j0 (by rw [hj0]; simp)
              have hkc : K.getD 0 0 = j0 := by rw [hj0]; rfl
              have hlb2 : nullAt L j0 = lb := by have := HLB.out; rw [hj0] at this; exact this
              have hcn := (HX3.out.cell (p := ⟨gN, j0, none⟩) hgN).trans (HCN.out j0 (by omega))
              have hnl : ((nullL L N).map Value.bool)[j0]? = some (.bool lb) := by rw [List.getElem?_map, nullL_get L (by omega), ← hlb2]; rfl
              rw [hnl] at hcn
              rw [hkc] at hc3
              have hgNw : gN < wr.heap.size := Nat.lt_of_lt_of_le hgN HX3.out.size
              have hbw : b < wr.heap.size := Nat.lt_of_lt_of_le hbb HB3.out.size
              have hj0N : j0 < N := by omega
              have r0 : ∀ d os, (grow (redrawn wr d) os).cell? ⟨b, off + k * 8, none⟩ = _ := fun d os => ((below_regrown wr d os).cell (p := ⟨b, off + k * 8, none⟩) hbw).trans n0
              have r1 : ∀ d os, (grow (redrawn wr d) os).cell? ⟨b, off + k * 8 + 1, none⟩ = _ := fun d os => ((below_regrown wr d os).cell (p := ⟨b, off + k * 8 + 1, none⟩) hbw).trans n1
              have r2 : ∀ d os, (grow (redrawn wr d) os).cell? ⟨b, off + k * 8 + 2, none⟩ = _ := fun d os => ((below_regrown wr d os).cell (p := ⟨b, off + k * 8 + 2, none⟩) hbw).trans n2
              have r3 : ∀ d os, (grow (redrawn wr d) os).cell? ⟨b, off + k * 8 + 3, none⟩ = _ := fun d os => ((below_regrown wr d os).cell (p := ⟨b, off + k * 8 + 3, none⟩) hbw).trans n3
              have r4 : ∀ d os, (grow (redrawn wr d) os).cell? ⟨b, off + k * 8 + 4, none⟩ = _ := fun d os => ((below_regrown wr d os).cell (p := ⟨b, off + k * 8 + 4, none⟩) hbw).trans n4
              have r5 : ∀ d os, (grow (redrawn wr d) os).cell? ⟨b, off + k * 8 + 5, none⟩ = _ := fun d os => ((below_regrown wr d os).cell (p := ⟨b, off + k * 8 + 5, none⟩) hbw).trans n5
              have r6 : ∀ d os, (grow (redrawn wr d) os).cell? ⟨b, off + k * 8 + 6, none⟩ = _ := fun d os => ((below_regrown wr d os).cell (p := ⟨b, off + k * 8 + 6, none⟩) hbw).trans n6
              have r7 : ∀ d os, (grow (redrawn wr d) os).cell? ⟨b, off + k * 8 + 7, none⟩ = _ := fun d os => ((below_regrown wr d os).cell (p := ⟨b, off + k * 8 + 7, none⟩) hbw).trans n7
              have r8 : ∀ d os, (grow (redrawn wr d) os).cell? ⟨b3, off3, none⟩ = _ := fun d os => ((below_regrown wr d os).cell (p := ⟨b3, off3, none⟩) hb3).trans hc3
              have r9 : ∀ d os, (grow (redrawn wr d) os).cell? ⟨gN, j0, none⟩ = _ := fun d os => ((below_regrown wr d os).cell (p := ⟨gN, j0, none⟩) hgNw).trans hcn
              have C1 := rcopies_any ⟨4, 1, xn, xm, xf⟩ lb hr1
              unfold ndCells at C1
              simp only at C1
              clear hj0 hkc hnl hkl hlb2 h1
              subst hm1
              clear HSZ HAL HKL
              by_cases hneg : xm < 0
              · have hmo : moreN xn xm lb = -1 := by unfold moreN; rw [if_pos hneg]
                have hco : copN xn xm lb = mustN xn lb + 1 := by unfold copN; rw [if_pos hneg]
                have hmy : mayN xn xm lb = 0 := by unfold mayN; rw [if_pos hneg]
                have hrs : repS (s1, s2) xn xm lb = ((mustN xn lb + 1) * (s1 + 1) + (mustN xn lb + 1) - 1 + 0 + 1, (mustN xn lb + 1) * s2) := by unfold repS; rw [if_neg (by rw [hxm1]; decide), hco, hmy, if_pos hneg]
                rw [hmo] at C1
                rw [hco] at c0 c1'
                rw [hrs] at hsz
                clear hmo hco hmy hrs y0 y1 hr1
                generalize mustN xn lb = mu at *
                obtain ⟨P0, P1⟩ := mul_bd (a := s1 + 1) c0 c1' (by omega) (by omega)
                obtain ⟨Q0, Q1⟩ := mul_bd (a := s2) c0 c1' hsb.2.2.1 (by omega)
                obtain ⟨P, hP⟩ : ∃ P, (mu + 1) * (s1 + 1) = P := ⟨_, rfl⟩
                obtain ⟨Q, hQ⟩ : ∃ Q, (mu + 1) * s2 = Q := ⟨_, rfl⟩
                rw [hP] at P0 P1 hsz
                rw [hQ] at Q0 Q1 hsz
                have hsz : szAt L k = (capI (P + mu + 1), capI Q) := by rw [hsz]; exact Prod.ext (congrArg capI (by show P + (mu + 1) - 1 + 0 + 1 = P + mu + 1; omega)) rfl
                have HSZ2 := Lib.hid hsz
                have yP : IntKind.i64.wrap P = P := IntWalk.i64_in _ (by omega)
                have yQ : IntKind.i64.wrap Q = Q := IntWalk.i64_in _ (by omega)
                clear hsz
                go_wp2_with fail
                refine wp_region_quiet_below (by kernel_rfl) (by kernel_rfl) ?_
                repeat (first | go_big_quiet_step ((first | (go_at_call 52; exact Calls.regrown_of (C1 _)))) | quiet_step ((first | (go_at_call 52; exact Calls.regrown_of (C1 _)))))
                refine wpQuiet_nil ?_
                intro _ hw'
                obtain ⟨⟨qd, qos⟩, hw''⟩ := hw'
                subst hw''
                have hbW := below_regrown wr qd qos
                generalize grow (redrawn wr qd) qos = w9 at *
                have oA9 := oA3.call hbW
                have oB9 := oB3.call hbW
                have HB9 := Lib.hid (below_then HB3.out hbW)
                have HX9 := Lib.hid (below_then HX3.out hbW)
                clear hbW r0 r1 r2 r3 r4 r5 r6 r7 r8 r9 n0 n1 n2 n3 n4 n5 n6 n7 C1 oA3 oB3 HB3 HX3 foA foB ckA ckB hglA hglB HK hc3 hcn
                obtain ⟨coA, foA⟩ := oA9.facts
                obtain ⟨coB, foB⟩ := oB9.facts
                have ckA := (oA9.cell k).trans (zA_get _ (by rw [fS_len _ _ hk]; exact hlt))
                have ckB := (oB9.cell k).trans (zA_get _ (by rw [fS_len _ _ hk]; exact hlt))
                have hglA := oA9.lt
                have hglB := oB9.lt
                clear coA coB
                go_wp2_with fail
                refine (cut_any _ _).mono ?_
                rintro e5 w5 ⟨rfl, rfl⟩
                go_wp2_with fail
                refine (cut_any _ _).mono ?_
                rintro e6 w6 ⟨rfl, rfl⟩
                go_wp2_with fail
                go_roundw
                case rel => exact ⟨k + 1, by omega, by go_num, (oA9.fs hlt (by rw [HSZ2.out]; rfl)).far (by omega) _, ((oB9.far (by omega) _).fs hlt (by rw [HSZ2.out]; rfl)), below_set (below_set HB9.out (by omega) _) (by omega) _, below_set (below_set HX9.out (by omega) _) (by omega) _⟩
                case measure => simp [intOf]; omega
              · have hmo : moreN xn xm lb = mayN xn xm lb := by unfold moreN; rw [if_neg hneg]
                have hco : copN xn xm lb = mustN xn lb + mayN xn xm lb := by unfold copN; rw [if_neg hneg]
                have hrs : repS (s1, s2) xn xm lb = ((mustN xn lb + mayN xn xm lb) * (s1 + 1) + (mustN xn lb + mayN xn xm lb) - 1 + mayN xn xm lb + 0, (mustN xn lb + mayN xn xm lb) * s2) := by unfold repS; rw [if_neg (by rw [hxm1]; decide), hco, if_neg hneg]
                rw [hmo] at C1
                rw [hco] at c0 c1'
                rw [hrs] at hsz
                clear hmo hco hrs hr1
                generalize mustN xn lb = mu at *
                generalize mayN xn xm lb = my at *
                have hm9 : (my == -1) = false := beq_eq_false_iff_ne.2 (by omega)
                obtain ⟨P0, P1⟩ := mul_bd (a := s1 + 1) c0 c1' (by omega) (by omega)
                obtain ⟨Q0, Q1⟩ := mul_bd (a := s2) c0 c1' hsb.2.2.1 (by omega)
                obtain ⟨P, hP⟩ : ∃ P, (mu + my) * (s1 + 1) = P := ⟨_, rfl⟩
                obtain ⟨Q, hQ⟩ : ∃ Q, (mu + my) * s2 = Q := ⟨_, rfl⟩
                rw [hP] at P0 P1 hsz
                rw [hQ] at Q0 Q1 hsz
                have hsz : szAt L k = (capI (P + (mu + my - 1) + my), capI Q) := by rw [hsz]; exact Prod.ext (congrArg capI (by show P + (mu + my) - 1 + my + 0 = P + (mu + my - 1) + my; omega)) rfl
                have HSZ2 := Lib.hid hsz
                have yP : IntKind.i64.wrap P = P := IntWalk.i64_in _ (by omega)
                have yQ : IntKind.i64.wrap Q = Q := IntWalk.i64_in _ (by omega)
                clear hsz
                go_wp2_with fail
                refine wp_region_quiet_below (by kernel_rfl) (by kernel_rfl) ?_
                repeat (first | go_big_quiet_step ((first | (go_at_call 52; exact Calls.regrown_of (C1 _)))) | quiet_step ((first | (go_at_call 52; exact Calls.regrown_of (C1 _)))))
                refine wpQuiet_nil ?_
                intro _ hw'
                obtain ⟨⟨qd, qos⟩, hw''⟩ := hw'
                subst hw''
                have hbW := below_regrown wr qd qos
                generalize grow (redrawn wr qd) qos = w9 at *
                have oA9 := oA3.call hbW
                have oB9 := oB3.call hbW
                have HB9 := Lib.hid (below_then HB3.out hbW)
                have HX9 := Lib.hid (below_then HX3.out hbW)
                clear hbW r0 r1 r2 r3 r4 r5 r6 r7 r8 r9 n0 n1 n2 n3 n4 n5 n6 n7 C1 oA3 oB3 HB3 HX3 foA foB ckA ckB hglA hglB HK hc3 hcn
                obtain ⟨coA, foA⟩ := oA9.facts
                obtain ⟨coB, foB⟩ := oB9.facts
                have ckA := (oA9.cell k).trans (zA_get _ (by rw [fS_len _ _ hk]; exact hlt))
                have ckB := (oB9.cell k).trans (zA_get _ (by rw [fS_len _ _ hk]; exact hlt))
                have hglA := oA9.lt
                have hglB := oB9.lt
                clear coA coB
                go_wp2_with fail
                refine (cut_any _ _).mono ?_
                rintro e5 w5 ⟨rfl, rfl⟩
                go_wp2_with fail
                refine (cut_any _ _).mono ?_
                rintro e6 w6 ⟨rfl, rfl⟩
                go_wp2_with fail
                go_roundw
                case rel => exact ⟨k + 1, by omega, by go_num, (oA9.fs hlt (by rw [HSZ2.out]; rfl)).far (by omega) _, ((oB9.far (by omega) _).fs hlt (by rw [HSZ2.out]; rfl)), below_set (below_set HB9.out (by omega) _) (by omega) _, below_set (below_set HX9.out (by omega) _) (by omega) _⟩
                case measure => simp [intOf]; omega
            | cat hk1 m2 hn1 h2 h1 =>
              simp only at hk1
              subst hk1
              have HSZ2 : Hid (szAt L k = (capI (s1 + (m : Int) - 1), capI s2)) := Lib.hid (by rw [hsz]; show (capI (s1 + ((m : Int) - 1)), capI s2) = _; rw [show s1 + ((m : Int) - 1) = s1 + (m : Int) - 1 by omega])
              clear hsz h1 hkl hn1 h2
              go_wp2_with fail
              refine (cut_any _ _).mono ?_
              rintro e5 w5 ⟨rfl, rfl⟩
              go_wp2_with fail
              refine (cut_any _ _).mono ?_
              rintro e6 w6 ⟨rfl, rfl⟩
              go_wp2_with fail
              go_roundw
              case rel => exact ⟨k + 1, by omega, by go_num, (oA3.fs hlt (by rw [HSZ2.out]; rfl)).far (by omega) _, ((oB3.far (by omega) _).fs hlt (by rw [HSZ2.out]; rfl)), below_set (below_set HB3.out (by omega) _) (by omega) _, below_set (below_set HX3.out (by omega) _) (by omega) _⟩
              case measure => simp [intOf]; omega
            | alt hk1 m2 hn1 h2 h1 =>
              simp only at hk1
              subst hk1
              have HSZ2 : Hid (szAt L k = (capI (s1 + (m : Int) - 1), capI s2)) := Lib.hid (by rw [hsz]; show (capI (s1 + ((m : Int) - 1)), capI s2) = _; rw [show s1 + ((m : Int) - 1) = s1 + (m : Int) - 1 by omega])
              clear hsz h1 hkl hn1 h2
              go_wp2_with fail
              refine (cut_any _ _).mono ?_
              rintro e5 w5 ⟨rfl, rfl⟩
              go_wp2_with fail
              refine (cut_any _ _).mono ?_
              rintro e6 w6 ⟨rfl, rfl⟩
              go_wp2_with fail
              go_roundw
              case rel => exact ⟨k + 1, by omega, by go_num, (oA3.fs hlt (by rw [HSZ2.out]; rfl)).far (by omega) _, ((oB3.far (by omega) _).fs hlt (by rw [HSZ2.out]; rfl)), below_set (below_set HB3.out (by omega) _) (by omega) _, below_set (below_set HX3.out (by omega) _) (by omega) _⟩
              case measure => simp [intOf]; omega
      · obtain rfl : k = N := by omega
        obtain ⟨r, hr⟩ : ∃ r, k = r + 1 := ⟨k - 1, by omega⟩
        have hz := HRS.out
        rw [show k - 1 = r by omega] at hz
        have q1 := (oA.cell r).trans (zA_get _ (by rw [fS_len _ _ (Nat.le_refl _)]; omega))
        have q2 := (oB.cell r).trans (zA_get _ (by rw [fS_len _ _ (Nat.le_refl _)]; omega))
        rw [fS_get _ _ (by omega), hz] at q1 q2
        replace q1 : wr.cell? ⟨w1.heap.size + 1, r, none⟩ = some (.int .i64 t1) := q1
        replace q2 : wr.cell? ⟨w1.heap.size, r, none⟩ = some (.int .i64 t2) := q2
        have hn0 : ((k : Int) == 0) = false := beq_eq_false_iff_ne.2 (by omega)
        have hn1 : (k == 0) = false := beq_eq_false_iff_ne.2 (by omega)
        have x1 : (k : Int) - 1 = (r : Int) := by omega
        have x2 : IntKind.i64.wrap ((k : Int) - 1) = (r : Int) := by rw [x1]; exact IntWalk.i64_in _ (by omega)
        have x3 : IntKind.i64.wrap (r : Int) = (r : Int) := IntWalk.i64_in _ (by omega)
        have x4 : 1 ≤ (k : Int) := by omega
        have x5 : (0 : Int) ≤ (r : Int) := by omega
        have x6 : (r : Int) < (k : Int) := by omega
        have x7 : r < k := by omega
        clear hz hlt oA oB
        go_wp2_with fail
        go_quiet (fail)
        go_wp2
        refine bodyPost_ret (v := .tuple #[.int .i64 t1, .int .i64 t2]) (by simp [results, Try.results21, go_sem]) rfl ⟨rfl, ?_⟩
        first
          | exact HB.out
          | exact HB.out.drew
          | exact below_drewN HB.out _
end Go.Proofs.Ytddokdjlmdoebaa
