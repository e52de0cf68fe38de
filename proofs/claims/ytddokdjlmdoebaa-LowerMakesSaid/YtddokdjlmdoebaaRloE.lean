/- Walks of gimletref11: least, Same, Lower. -/
import Derived.Test.YtddokdjlmdoebaaProg
import Derived.WalkKit
import Derived.WalkSpells
import Derived.WalkLawsBesides
import Derived.Handy
import Derived.Lib.Hide
import Derived.Test.YtddokdjlmdoebaaRloD
import Derived.Test.YtddokdjlmdoebaaLowZg
import Derived.Test.YtddokdjlmdoebaaLowH
import Derived.Test.YtddokdjlmdoebaaMAsk
import Derived.Deep.QuietTactic
import Derived.BigQuiet
set_option linter.unusedVariables false
set_option linter.unusedSimpArgs false
namespace Go.Proofs.Ytddokdjlmdoebaa
open Go.RowKit SetP AstP LowP ParP
set_option maxRecDepth 100000 in
set_option maxHeartbeats 2000000 in
theorem least_any (a b : Int) (w : World) : Calls Try.prog 55 #[.int .i64 a, .int .i64 b] w fun e w' => e = .returned (.int .i64 (min a b)) ∧ w' = w := by
  by_cases h : a < b
  · rw [show min a b = a by omega]
    go_enter Try.func55, Try.ntmps55
    go_wp2
    go_ret
    exact ⟨rfl, rfl⟩
  · rw [show min a b = b by omega]
    go_enter Try.func55, Try.ntmps55
    go_wp2
    go_ret
    exact ⟨rfl, rfl⟩
set_option maxRecDepth 100000 in
set_option maxHeartbeats 2000000 in
theorem run_eq4t (w : World) (a b c d : Int) :
    (Op.equalIn 9999 41 (.agg #[.int .u64 a, .int .u64 b, .int .u64 c, .int .u64 d]) (.agg #[.int .u64 a, .int .u64 b, .int .u64 c, .int .u64 d])).run Try.prog w = .ok true w := by
  obtain ⟨i0, hi, _⟩ := info_parts (show (Try.prog.info? 39).map (fun i => (i.zero, i.size, i.bytes)) = some (some (.int .u64 0), 1, 8) by kernel_rfl)
  have hC : Try.prog.cellsOf 39 = 1 := by kernel_rfl
  rw [show (9999 : Nat) = 9998 + 1 from rfl, run_equalIn_array w 9998 _ _ Try.underlying41 hi, hC]
  have hq : ∀ x y, (Op.equalIn 9998 39 (.int .u64 x) (.int .u64 y)).run Try.prog w = .ok (x == y) w := fun x y => run_equalIn_int w 9997 _ _ .u64 x y Try.underlying39
  simp only [Op.eqItems, List.range, List.range.loop, part, isAgg, Sem.run_bind, run_underlying Try.underlying39, Result.andThen_ok]
  simp [hq]
set_option maxRecDepth 100000 in
set_option maxHeartbeats 2000000 in
theorem run_eq_tm_same (w : World) (x : Tm) :
    (Op.equalIn 10000 47 (.agg (tmCells x)) (.agg (tmCells x))).run Try.prog w = .ok true w := by
  have hp : Try.prog.stoodInHeld 47 = false := by kernel_rfl
  rw [show (10000 : Nat) = 9999 + 1 from rfl, run_equalIn_struct w 9999 47 _ _ (by rw [Program.fieldsOf, Try.underlying47]) hp]
  rw [Program.fieldsOf, Try.underlying47]
  have hn : ∀ x, (Op.equalIn 9999 3 (.int .i64 x) (.int .i64 x)).run Try.prog w = .ok true w := fun x => by rw [run_equalIn_int w 9998 _ _ .i64 x x Try.underlying3]; simp
  have hs : ∀ f : Nat → Bool, (Op.equalIn 9999 41 (.agg #[.int .u64 (wd f 0), .int .u64 (wd f 1), .int .u64 (wd f 2), .int .u64 (wd f 3)]) (.agg #[.int .u64 (wd f 0), .int .u64 (wd f 1), .int .u64 (wd f 2), .int .u64 (wd f 3)])).run Try.prog w = .ok true w := fun f => run_eq4t w _ _ _ _
  obtain ⟨k, a, e, m, f⟩ := x
  simp [Op.eqFields, part, isAgg, run_underlying Try.underlying3, run_underlying Try.underlying41, hn, hs]
set_option maxRecDepth 100000 in
set_option maxHeartbeats 2000000 in
theorem tsame_any (A A' : Option Addr) (c c' : Nat) (L : List Tm) (w : World) (h : TermAt w w.heap.size A L) (h' : TermAt w w.heap.size A' L) :
    Calls Try.prog 24 #[.slice A L.length c, .slice A' L.length c'] w fun e w' => e = .returned (.bool true) ∧ Below w.heap.size w w' := by
  have hlen := h.1
  have H := Lib.hid h; have H' := Lib.hid h'
  clear h h'
  obtain ⟨N, hN⟩ : ∃ N, L.length = N := ⟨_, rfl⟩
  rw [hN] at hlen ⊢
  have HN := Lib.hid hN; clear hN
  go_enter Try.func24, Try.ntmps24
  go_wp2
  go_loopw [5] (fun i wr => ∃ k : Nat, k ≤ N ∧ i = .int .i64 k ∧ Below w.heap.size w wr) (fun i _ => N - (intOf i).toNat)
  case atStart => exact ⟨0, by omega, rfl, Below.refl _ _⟩
  case round =>
    obtain ⟨k, hk, rfl, hB⟩ := hrel
    have HB := Lib.hid hB; clear hB
    by_cases hlt : k < N
    · obtain ⟨b, off, rfl, hb, hn⟩ := (H.out.below HB.out).node (j := k) (by rw [HN.out]; exact hlt)
      obtain ⟨b', off', rfl, hb', hn'⟩ := (H'.out.below HB.out).node (j := k) (by rw [HN.out]; exact hlt)
      generalize L.getD k tmE = x at *
      obtain ⟨n0, n1, n2, n3, n4, n5, n6, n7⟩ := hn
      obtain ⟨m0, m1, m2, m3, m4, m5, m6, m7⟩ := hn'
      have E := fun w => run_eq_tm_same w x
      unfold tmCells at E
      go_wp2_with fail
      go_quiet (fail)
      go_wp2
      go_roundw
      case rel => exact ⟨k + 1, by omega, by go_num, below_drewN HB.out _⟩
      case measure => simp [intOf]; omega
    · go_wp2
      go_ret
      exact ⟨rfl, HB.out⟩
set_option maxRecDepth 100000 in
set_option maxHeartbeats 2000000 in
theorem rlower_not (A : Option Addr) (c : Nat) (L : List Nd) (hR : rightF L = false) (T P S : Int) (w : World) (hL : NodesAt w w.heap.size A L) :
    Calls Try.prog 23 #[.slice A L.length c, .agg #[.int .i64 T, .int .i64 P, .int .i64 S]] w fun e w' => e = .returned (.tuple #[.slice none 0 0, .int .i64 11]) ∧ Below w.heap.size w w' := by
  have hlen := hL.1
  have HB0 := Lib.hid ((Below.refl w.heap.size w).alloc (Nat.le_refl _) (.cells #[.int .i64 T, .int .i64 P, .int .i64 S] 30))
  have o0 : Slab (w.alloc (.cells #[.int .i64 T, .int .i64 P, .int .i64 S] 30)) w.heap.size #[.int .i64 T, .int .i64 P, .int .i64 S] 30 := Slab.new _ _ _
  have O0 := Lib.hid o0
  have CR := fun w1 (hb : Below w.heap.size w w1) => rright6_any A c L w1 ((hL.below hb).more hb.size)
  rw [hR] at CR
  have HCR := Lib.hid CR
  clear CR hL hR o0
  go_enter Try.func23, Try.ntmps23
  go_wp2_with fail
  refine (HCR.out _ HB0.out).mono ?_
  rintro e1 w1 ⟨rfl, hb1⟩
  have HB1 := Lib.hid (below_then HB0.out hb1)
  have O1 := Lib.hid (O0.out.call hb1)
  clear hb1 HCR
  go_wp2_with fail
  refine bodyPost_ret (v := .tuple #[.slice none 0 0, .int .i64 11]) (by simp [results, Try.results23, go_sem]) rfl ⟨rfl, HB1.out⟩
set_option maxRecDepth 100000 in
set_option maxHeartbeats 2000000 in
theorem rlower_big1 (A : Option Addr) (c : Nat) (L : List Nd) (hR : rightF L = true) (hlen : L.length ≤ 100000) (T P S n1 n2 : Int) (hs : sizeF L = (n1, n2)) (h1 : min T 400 < n1)
    (w : World) (hL : NodesAt w w.heap.size A L) :
    Calls Try.prog 23 #[.slice A L.length c, .agg #[.int .i64 T, .int .i64 P, .int .i64 S]] w fun e w' => e = .returned (.tuple #[.slice none 0 0, .int .i64 10]) ∧ Below w.heap.size w w' := by
  have HB0 := Lib.hid ((Below.refl w.heap.size w).alloc (Nat.le_refl _) (.cells #[.int .i64 T, .int .i64 P, .int .i64 S] 30))
  have o0 : Slab (w.alloc (.cells #[.int .i64 T, .int .i64 P, .int .i64 S] 30)) w.heap.size #[.int .i64 T, .int .i64 P, .int .i64 S] 30 := Slab.new _ _ _
  have O0 := Lib.hid o0
  have CR := fun w1 (hb : Below w.heap.size w w1) => rright6_any A c L w1 ((hL.below hb).more hb.size)
  have CS := fun w1 (hb : Below w.heap.size w w1) => rsize_any A c L (by omega) w1 ((hL.below hb).more hb.size)
  rw [hR] at CR
  rw [hs] at CS
  have HCR := Lib.hid CR
  have HCS := Lib.hid CS
  clear CR CS hL hR o0 hs
  have hm1 : decide (min T 400 < n1) = true := decide_eq_true h1
  go_enter Try.func23, Try.ntmps23
  go_wp2_with fail
  refine (HCR.out _ HB0.out).mono ?_
  rintro e1 w1 ⟨rfl, hb1⟩
  have HB1 := Lib.hid (below_then HB0.out hb1)
  have O1 := Lib.hid (O0.out.call hb1)
  clear hb1 HCR
  go_wp2_with fail
  refine (HCS.out _ HB1.out).mono ?_
  rintro e2 w2 ⟨rfl, hb2⟩
  have HB2 := Lib.hid (below_then HB1.out hb2)
  have O2 := Lib.hid (O1.out.call hb2)
  obtain ⟨c2, f2⟩ := O2.out.facts
  clear hb2 HCS
  go_wp2_with fail
  refine (least_any _ _ _).mono ?_
  rintro e3 w3 ⟨rfl, rfl⟩
  go_wp2_with fail
  refine bodyPost_ret (v := .tuple #[.slice none 0 0, .int .i64 10]) (by simp [results, Try.results23, go_sem]) rfl ⟨rfl, HB2.out⟩
set_option maxRecDepth 100000 in
set_option maxHeartbeats 2000000 in
theorem rlower_big2 (A : Option Addr) (c : Nat) (L : List Nd) (hR : rightF L = true) (hlen : L.length ≤ 100000) (T P S n1 n2 : Int) (hs : sizeF L = (n1, n2)) (h1 : ¬ min T 400 < n1) (h2 : min P 64 < n2) (h0 : 0 < n2)
    (w : World) (hL : NodesAt w w.heap.size A L) :
    Calls Try.prog 23 #[.slice A L.length c, .agg #[.int .i64 T, .int .i64 P, .int .i64 S]] w fun e w' => e = .returned (.tuple #[.slice none 0 0, .int .i64 10]) ∧ Below w.heap.size w w' := by
  have HB0 := Lib.hid ((Below.refl w.heap.size w).alloc (Nat.le_refl _) (.cells #[.int .i64 T, .int .i64 P, .int .i64 S] 30))
  have o0 : Slab (w.alloc (.cells #[.int .i64 T, .int .i64 P, .int .i64 S] 30)) w.heap.size #[.int .i64 T, .int .i64 P, .int .i64 S] 30 := Slab.new _ _ _
  have O0 := Lib.hid o0
  have CR := fun w1 (hb : Below w.heap.size w w1) => rright6_any A c L w1 ((hL.below hb).more hb.size)
  have CS := fun w1 (hb : Below w.heap.size w w1) => rsize_any A c L (by omega) w1 ((hL.below hb).more hb.size)
  rw [hR] at CR
  rw [hs] at CS
  have HCR := Lib.hid CR
  have HCS := Lib.hid CS
  clear CR CS hL hR o0 hs
  have hm1 : decide (min T 400 < n1) = false := decide_eq_false h1
  have hm2 : decide (min P 64 < n2) = true := decide_eq_true h2
  have hm3 : decide (0 < n2) = true := decide_eq_true h0
  clear h1 h2 h0
  go_enter Try.func23, Try.ntmps23
  go_wp2_with fail
  refine (HCR.out _ HB0.out).mono ?_
  rintro e1 w1 ⟨rfl, hb1⟩
  have HB1 := Lib.hid (below_then HB0.out hb1)
  have O1 := Lib.hid (O0.out.call hb1)
  clear hb1 HCR
  go_wp2_with fail
  refine (HCS.out _ HB1.out).mono ?_
  rintro e2 w2 ⟨rfl, hb2⟩
  have HB2 := Lib.hid (below_then HB1.out hb2)
  have O2 := Lib.hid (O1.out.call hb2)
  obtain ⟨c2, f2⟩ := O2.out.facts
  clear hb2 HCS
  go_wp2_with fail
  refine (least_any _ _ _).mono ?_
  rintro e3 w3 ⟨rfl, rfl⟩
  go_wp2_with fail
  refine (least_any _ _ _).mono ?_
  rintro e4 w4 ⟨rfl, rfl⟩
  go_wp2_with fail
  refine bodyPost_ret (v := .tuple #[.slice none 0 0, .int .i64 10]) (by simp [results, Try.results23, go_sem]) rfl ⟨rfl, HB2.out⟩
set_option maxRecDepth 100000 in
set_option maxHeartbeats 2000000 in
theorem rlower_ok (A : Option Addr) (c : Nat) (L : List Nd) (hR : rightF L = true) (hlen : L.length ≤ 100000) (T P S n1 n2 : Int) (hs : sizeF L = (n1, n2)) (h1 : ¬ min T 400 < n1) (h2 : min P 64 < n2 → n2 = 0) (h0 : 0 ≤ n2)
    (w : World) (hL : NodesAt w w.heap.size A L) :
    Calls Try.prog 23 #[.slice A L.length c, .agg #[.int .i64 T, .int .i64 P, .int .i64 S]] w (RetLow (termAt L (L.length - 1)) 0 w) := by
  obtain ⟨hF, hok, _⟩ := right_parts hR
  have hpos := (root_size hF).1
  have hsz := hs
  rw [sizeF_right hR] at hsz
  have hb := szAt_bd hF hok (L.length - 1) (by omega)
  have htl := termAt_length hF hok (L.length - 1) (by omega) (by rw [hsz]; show n1 < _; omega)
  rw [hsz] at hb htl
  unfold Bd at hb
  simp only at hb htl
  have hNW := fun gN cN AM cM => rnode_any hlen hF hok A c gN cN AM cM (L.length - 1) (by omega) (by omega)
  have HB0 := Lib.hid ((Below.refl w.heap.size w).alloc (Nat.le_refl _) (.cells #[.int .i64 T, .int .i64 P, .int .i64 S] 30))
  have o0 : Slab (w.alloc (.cells #[.int .i64 T, .int .i64 P, .int .i64 S] 30)) w.heap.size #[.int .i64 T, .int .i64 P, .int .i64 S] 30 := Slab.new _ _ _
  have O0 := Lib.hid o0
  have CR := fun w1 (hb : Below w.heap.size w w1) => rright6_any A c L w1 ((hL.below hb).more hb.size)
  have CS := fun w1 (hb : Below w.heap.size w w1) => rsize_any A c L (by omega) w1 ((hL.below hb).more hb.size)
  have CN := fun w1 (hb : Below w.heap.size w w1) => rnull_any A c L w1 ((hL.below hb).more hb.size)
  have CM := fun w1 (hb : Below w.heap.size w w1) => rnumbers_any A c L w1 ((hL.below hb).more hb.size)
  have HL := Lib.hid hL
  have e : nullF L = nullL L L.length := by unfold nullF; rw [hR]; rfl
  rw [e, nullL_length] at CN
  rw [numsF_length hF] at CM
  rw [hR] at CR
  rw [hs] at CS
  have HF := Lib.hid hF
  obtain ⟨N, hN⟩ : ∃ N, L.length = N := ⟨_, rfl⟩
  have HN := Lib.hid hN
  unfold NodeW at hNW
  rw [hN] at CR CS CN CM hNW hpos hlen ⊢
  have HCR := Lib.hid CR
  have HCS := Lib.hid CS
  have HCN := Lib.hid CN
  have HCM := Lib.hid CM
  have HNW := Lib.hid hNW
  clear CR CS CN CM hL hR o0 hs hsz hNW hF hok e hN htl
  generalize hXe : termAt L (N - 1) = X at *
  clear hXe
  have hm1 : decide (min T 400 < n1) = false := decide_eq_false h1
  have hr : (N : Int) - 1 = ((N - 1 : Nat) : Int) := by omega
  have HR := Lib.hid hr
  clear hr h1
  obtain ⟨t, ht⟩ : ∃ t, decide (min P 64 < n2) = t := ⟨_, rfl⟩
  have hm3 : t = true → decide (0 < n2) = false := fun e => by
    rw [e] at ht
    have := h2 (of_decide_eq_true ht)
    exact decide_eq_false (by omega)
  clear h2 h0 hb
  cases t
  case true =>
    have hm4 := hm3 rfl
    clear hm3
    go_enter Try.func23, Try.ntmps23
    go_wp2_with fail
    refine (HCR.out _ HB0.out).mono ?_
    rintro e1 w1 ⟨rfl, hb1⟩
    have HB1 := Lib.hid (below_then HB0.out hb1)
    have O1 := Lib.hid (O0.out.call hb1)
    clear hb1 HCR
    go_wp2_with fail
    refine (HCS.out _ HB1.out).mono ?_
    rintro e2 w2 ⟨rfl, hb2⟩
    have HB2 := Lib.hid (below_then HB1.out hb2)
    have O2 := Lib.hid (O1.out.call hb2)
    obtain ⟨c2, f2⟩ := O2.out.facts
    clear hb2 HCS
    go_wp2_with fail
    refine (least_any _ _ _).mono ?_
    rintro e3 w3 ⟨rfl, rfl⟩
    go_wp2_with fail
    refine (least_any _ _ _).mono ?_
    rintro e4 w4 ⟨rfl, rfl⟩
    go_wp2_with fail
    refine (HCN.out _ HB2.out).mono ?_
    rintro e5 w5 ⟨A5, c5, rfl, hrow5, hb5⟩
    have HB5 := Lib.hid (below_then HB2.out hb5)
    obtain ⟨gN, cur, rfl, hgN, hnc, hsl, hsz, htk⟩ := row_at hrow5 hpos
    have hcur : ∀ k, k < N → cur[k]? = some (.bool (nullAt L k)) := fun k hk => by
      have e : cur.toList[k]? = ((nullL L N).map Value.bool)[k]? := by rw [← htk, List.getElem?_take_of_lt (by omega)]
      rw [← Array.getElem?_toList, e, List.getElem?_map, nullL_get L hk]; rfl
    have HSL := Lib.hid hsl
    have HCU := Lib.hid hcur
    clear hrow5 hb5 hsl hsz htk hcur hnc c2 f2
    go_wp2_with fail
    refine (HCM.out _ HB5.out).mono ?_
    rintro e6 w6 ⟨A6, c6, rfl, hrow6, hb6⟩
    have HB6 := Lib.hid (below_then HB5.out hb6)
    have hnum := row_at0 hrow6 (by omega)
    rw [numsF_Nums HF.out] at hnum
    have hsl6 := HSL.out.call hb6
    have hT : TreeMem w6 w6.heap.size A L gN A6 := ⟨(HL.out.below HB6.out).more HB6.out.size, ⟨cur, hsl6, fun k hk => HCU.out k (by rw [← HN.out]; exact hk)⟩, hsl6.lt, hnum⟩
    have CX := HNW.out gN c5 A6 c6 w6 hT
    unfold RetT at CX
    clear hrow6 hb6 hnum hsl6 hT HNW HSL HCU HCN HCM
    go_wp2_with fail
    rw [HR.out]
    refine CX.mono ?_
    rintro e7 w7 ⟨A7, c7, rfl, hown7, hb7⟩
    have HB7 := Lib.hid (below_then HB6.out hb7)
    have H7 := Lib.hid (row_mono hown7 HB6.out.size)
    clear CX hown7 hb7
    go_wp2_with fail
    refine bodyPost_ret (v := .tuple #[.slice A7 X.length c7, .int .i64 0]) (by simp [results, Try.results23, go_sem]) rfl ⟨A7, c7, rfl, H7.out, HB7.out⟩
  case false =>
    clear hm3
    go_enter Try.func23, Try.ntmps23
    go_wp2_with fail
    refine (HCR.out _ HB0.out).mono ?_
    rintro e1 w1 ⟨rfl, hb1⟩
    have HB1 := Lib.hid (below_then HB0.out hb1)
    have O1 := Lib.hid (O0.out.call hb1)
    clear hb1 HCR
    go_wp2_with fail
    refine (HCS.out _ HB1.out).mono ?_
    rintro e2 w2 ⟨rfl, hb2⟩
    have HB2 := Lib.hid (below_then HB1.out hb2)
    have O2 := Lib.hid (O1.out.call hb2)
    obtain ⟨c2, f2⟩ := O2.out.facts
    clear hb2 HCS
    go_wp2_with fail
    refine (least_any _ _ _).mono ?_
    rintro e3 w3 ⟨rfl, rfl⟩
    go_wp2_with fail
    refine (least_any _ _ _).mono ?_
    rintro e4 w4 ⟨rfl, rfl⟩
    go_wp2_with fail
    refine (HCN.out _ HB2.out).mono ?_
    rintro e5 w5 ⟨A5, c5, rfl, hrow5, hb5⟩
    have HB5 := Lib.hid (below_then HB2.out hb5)
    obtain ⟨gN, cur, rfl, hgN, hnc, hsl, hsz, htk⟩ := row_at hrow5 hpos
    have hcur : ∀ k, k < N → cur[k]? = some (.bool (nullAt L k)) := fun k hk => by
      have e : cur.toList[k]? = ((nullL L N).map Value.bool)[k]? := by rw [← htk, List.getElem?_take_of_lt (by omega)]
      rw [← Array.getElem?_toList, e, List.getElem?_map, nullL_get L hk]; rfl
    have HSL := Lib.hid hsl
    have HCU := Lib.hid hcur
    clear hrow5 hb5 hsl hsz htk hcur hnc c2 f2
    go_wp2_with fail
    refine (HCM.out _ HB5.out).mono ?_
    rintro e6 w6 ⟨A6, c6, rfl, hrow6, hb6⟩
    have HB6 := Lib.hid (below_then HB5.out hb6)
    have hnum := row_at0 hrow6 (by omega)
    rw [numsF_Nums HF.out] at hnum
    have hsl6 := HSL.out.call hb6
    have hT : TreeMem w6 w6.heap.size A L gN A6 := ⟨(HL.out.below HB6.out).more HB6.out.size, ⟨cur, hsl6, fun k hk => HCU.out k (by rw [← HN.out]; exact hk)⟩, hsl6.lt, hnum⟩
    have CX := HNW.out gN c5 A6 c6 w6 hT
    unfold RetT at CX
    clear hrow6 hb6 hnum hsl6 hT HNW HSL HCU HCN HCM
    go_wp2_with fail
    rw [HR.out]
    refine CX.mono ?_
    rintro e7 w7 ⟨A7, c7, rfl, hown7, hb7⟩
    have HB7 := Lib.hid (below_then HB6.out hb7)
    have H7 := Lib.hid (row_mono hown7 HB6.out.size)
    clear CX hown7 hb7
    go_wp2_with fail
    refine bodyPost_ret (v := .tuple #[.slice A7 X.length c7, .int .i64 0]) (by simp [results, Try.results23, go_sem]) rfl ⟨A7, c7, rfl, H7.out, HB7.out⟩
set_option maxRecDepth 100000 in
theorem rlower_any (A : Option Addr) (c : Nat) (L : List Nd) (hlen : L.length ≤ 100000) (T P S : Int) (w : World) (hL : NodesAt w w.heap.size A L) :
    Calls Try.prog 23 #[.slice A L.length c, .agg #[.int .i64 T, .int .i64 P, .int .i64 S]] w (RetLow (lowTermF L T P).1 (lowTermF L T P).2 w) := by
  unfold lowTermF
  cases hR : rightF L with
  | false =>
    rw [if_neg (by decide)]
    exact (rlower_not A c L hR T P S w hL).mono fun _ _ h => retLow_none h
  | true =>
    rw [if_pos rfl]
    obtain ⟨⟨n1, n2⟩, hs⟩ : ∃ p, sizeF L = p := ⟨_, rfl⟩
    obtain ⟨hF, hok, _⟩ := right_parts hR
    have hpos := (root_size hF).1
    have hb := szAt_bd hF hok (L.length - 1) (by omega)
    have hs2 := hs
    rw [sizeF_right hR] at hs2
    rw [hs2] at hb
    unfold Bd at hb
    simp only at hb
    rw [hs]
    simp only
    by_cases h1 : min T 400 < n1
    · rw [if_pos (.inl h1)]
      exact (rlower_big1 A c L hR hlen T P S n1 n2 hs h1 w hL).mono fun _ _ h => retLow_none h
    · by_cases h2 : min (max P 0) 64 < n2
      · rw [if_pos (.inr h2)]
        exact (rlower_big2 A c L hR hlen T P S n1 n2 hs h1 (by omega) (by omega) w hL).mono fun _ _ h => retLow_none h
      · rw [if_neg (by omega)]
        exact rlower_ok A c L hR hlen T P S n1 n2 hs h1 (by omega) (by omega) w hL
end Go.Proofs.Ytddokdjlmdoebaa
