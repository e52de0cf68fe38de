/- Walks of the laws of layer 11: LowerTells. -/
import Derived.Test.YtddokdjlmdoebaaProg
import Derived.WalkKit
import Derived.WalkSpells
import Derived.WalkLawsBesides
import Derived.Handy
import Derived.Lib.Hide
import Derived.Test.YtddokdjlmdoebaaMLoZ
import Derived.Test.YtddokdjlmdoebaaLowH
import Derived.Test.YtddokdjlmdoebaaMLw6
import Derived.Deep.QuietTactic
import Derived.BigQuiet
set_option linter.unusedVariables false
set_option linter.unusedSimpArgs false
namespace Go.Proofs.Ytddokdjlmdoebaa
open Go.RowKit SetP AstP LowP ParP
set_option maxRecDepth 100000 in
set_option maxHeartbeats 2000000 in
theorem ltells_any (A : Option Addr) (c : Nat) (L : List Nd) (w : World) (hL : NodesAt w w.heap.size A L) : Calls Try.prog 3 #[.slice A L.length c] w fun e w' => e = .returned (.bool true) ∧ Below w.heap.size w w' := by
  by_cases h : 60 < (L.length : Int)
  · have hd : decide (60 < (L.length : Int)) = true := by simpa using h
    go_enter Try.func3, Try.ntmps3
    go_wp2_with fail
    refine (sure11_any _).mono ?_
    rintro e1 w1 ⟨rfl, hb1⟩
    go_wp2
    go_ret
    exact ⟨rfl, hb1⟩
  have hd : decide (60 < (L.length : Int)) = false := by simpa using h
  have hlen : L.length ≤ 60 := by omega
  have C1 := lnull_any A c L w hL
  have C2 := fun w1 (hb : Below w.heap.size w w1) => rnull_any A c L w1 ((hL.below hb).more hb.size)
  have C3 := fun w1 (hb : Below w.heap.size w w1) => lsize_any A c L (by omega) w1 ((hL.below hb).more hb.size)
  have C4 := fun w1 (hb : Below w.heap.size w w1) => rsize_any A c L (by omega) w1 ((hL.below hb).more hb.size)
  obtain ⟨⟨s1, s2⟩, hs⟩ : ∃ p, sizeF L = p := ⟨_, rfl⟩
  rw [hs] at C3 C4
  have HC1 := Lib.hid C1
  have HC2 := Lib.hid C2
  have HC3 := Lib.hid C3
  have HC4 := Lib.hid C4
  have hB : (nullF L).length ≤ 60 := by
    unfold nullF
    split
    · rw [nullL_length]; omega
    · simp
  generalize nullF L = B at *
  clear C1 C2 C3 C4 hs hL h
  generalize L.length = N at *
  go_enter Try.func3, Try.ntmps3
  go_wp2_with fail
  refine HC1.out.mono ?_
  rintro e1 w1 ⟨A1, c1, rfl, hown1, hb1⟩
  have HB1 := Lib.hid hb1
  clear hb1
  go_wp2_with fail
  refine (HC2.out _ HB1.out).mono ?_
  rintro e2 w2 ⟨A2, c2, rfl, hown2, hb2⟩
  have HB2 := Lib.hid (below_then HB1.out hb2)
  have hown1 := row_call hown1 hb2
  clear hb2
  go_wp2_with fail
  obtain ⟨M, hM⟩ : ∃ M, B.length = M := ⟨_, rfl⟩
  rw [hM] at hown1 hown2 hB ⊢
  have HM := Lib.hid hM
  have H1 := Lib.hid hown1
  have H2 := Lib.hid hown2
  clear hM hown1 hown2
  go_loopw [5] (fun i wr => ∃ k : Nat, k ≤ M ∧ i = .int .i64 k ∧ Below w2.heap.size w2 wr) (fun i _ => M - (intOf i).toNat)
  case atStart => exact ⟨0, Nat.zero_le _, rfl, Below.refl _ _⟩
  case round =>
    obtain ⟨k, hk, rfl, hX⟩ := hrel
    have HX := Lib.hid hX
    by_cases hlt : k < M
    · obtain ⟨g1, rfl, _, hg1, hc1, q1⟩ := row_cell (row_call H1.out hX) (by omega)
      obtain ⟨g2, rfl, _, hg2, hc2, q2⟩ := row_cell (row_call H2.out hX) (by omega)
      have r1 := q1 k (by omega)
      have r2 := q2 k (by omega)
      have hg : (B.map Value.bool)[k]? = some (.bool (B.getD k false)) := by
        rw [List.getElem?_map, List.getD_eq_getElem?_getD, List.getElem?_eq_getElem (by rw [HM.out]; exact hlt)]; rfl
      rw [hg] at r1 r2
      generalize B.getD k false = v at *
      clear hX q1 q2 hg
      cases v
      all_goals
        go_wp2_with fail
        go_quiet (fail)
        go_wp2_with fail
        go_roundw
        case rel => exact ⟨k + 1, by omega, by go_num, (by first | exact HX.out | exact HX.out.drew | exact below_drewN HX.out _)⟩
        case measure => simp [intOf]; omega
    · have hB3 := Lib.hid (HB2.out.trans (hX.mono HB2.out.size))
      clear hX
      go_wp2_with fail
      refine (HC3.out _ hB3.out).mono ?_
      rintro e3 w3 ⟨rfl, hb3⟩
      have HB4 := Lib.hid (below_then hB3.out hb3)
      clear hb3
      go_wp2_with fail
      refine (HC4.out _ HB4.out).mono ?_
      rintro e4 w4 ⟨rfl, hb4⟩
      have HB5 := Lib.hid (below_then HB4.out hb4)
      clear hb4
      go_wp2_with fail
      refine (sure11_any _).mono ?_
      rintro e5 w5 ⟨rfl, hb5⟩
      have HB6 := Lib.hid (below_then HB5.out hb5)
      clear hb5
      go_wp2_with fail
      go_ret
      exact ⟨rfl, HB6.out⟩
set_option maxRecDepth 100000 in
set_option maxHeartbeats 2000000 in
theorem lowertells_any (A : Option Addr) (c n : Nat) (w : World) (h : Came w A n) :
    Calls Try.prog 3 #[.slice A n c] w fun e w' => e = .returned (.bool true) ∧ Below w.heap.size w w' := by
  by_cases hn : n ≤ 60
  · obtain ⟨L, hl, hL⟩ := h hn
    subst hl
    exact ltells_any A c L w hL
  · have hd : decide (60 < (n : Int)) = true := decide_eq_true (by omega)
    go_enter Try.func3, Try.ntmps3
    go_wp2_with fail
    refine (sure11_any _).mono ?_
    rintro e1 w1 ⟨rfl, hb1⟩
    go_wp2
    go_ret
    exact ⟨rfl, hb1⟩
end Go.Proofs.Ytddokdjlmdoebaa
