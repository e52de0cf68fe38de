/- LexTells, LexAll, LexPrints, walked. -/
import Derived.Test.YtddokdjlmdoebaaProg
import Derived.WalkKit
import Derived.WalkSpells
import Derived.WalkLawsBesides
import Derived.Handy
import Derived.Lib.Hide
import Derived.Test.YtddokdjlmdoebaaLaw5
import Derived.Test.YtddokdjlmdoebaaLexF
import Derived.Test.YtddokdjlmdoebaaLexS
import Derived.Deep.QuietTactic
import Derived.BigQuiet
import Derived.Lib.QuietBelow
namespace Go.Proofs.Ytddokdjlmdoebaa
open Go.RowKit SetP BrkP LexP
attribute [local go_sem] run_eq_word_same
set_option maxRecDepth 100000 in
set_option maxHeartbeats 2000000 in
theorem tells5_any (s : ByteArray) (i : Int) (w : World) : Calls Try.prog 10 #[.string s, .int .i64 i] w fun e w' => e = .returned (.bool true) ∧ Below w.heap.size w w' := by
  by_cases h : 400 < (s.size : Int)
  · go_enter Try.func10, Try.ntmps10
    have e : decide (400 < (s.size : Int)) = true := by simpa using h
    go_wp2_with fail
    refine (sure5_any _).mono ?_
    rintro e1 w1 ⟨rfl, hb1⟩
    go_wp2
    go_ret
    exact ⟨rfl, hb1⟩
  have e : decide (400 < (s.size : Int)) = false := by simpa using h
  have C := lnext_any s i (by omega)
  have C' := rnext5_any s i (by omega)
  obtain ⟨r, hr⟩ : ∃ r, nextW s i = r := ⟨_, rfl⟩
  rw [hr] at C C'
  clear hr h
  obtain ⟨x, er, pl⟩ := r
  have E := fun w => run_eq_word_same w x
  unfold wdV at E
  go_enter Try.func10, Try.ntmps10
  go_wp2_with fail
  refine (C _).mono ?_
  rintro e1 w1 ⟨rfl, hb1⟩
  have o1 : Slab (w1.alloc (.cells (wdCells x) 57)) w1.heap.size (wdCells x) 57 := Slab.new _ _ _
  have HB1 := Lib.hid (hb1.alloc hb1.size (.cells (wdCells x) 57))
  clear C hb1
  go_wp2_with fail
  refine (C' _).mono ?_
  rintro e2 w2 ⟨rfl, hb2⟩
  have o2 := (o1.call hb2).alloc (.cells (wdCells x) 57)
  have hb2' := below_then HB1.out hb2
  have o2' : Slab (w2.alloc (.cells (wdCells x) 57)) w2.heap.size (wdCells x) 57 := Slab.new _ _ _
  have HB2 := Lib.hid (hb2'.alloc hb2'.size (.cells (wdCells x) 57))
  clear C' hb2 hb2' HB1 o1
  obtain ⟨c1, f1⟩ := o2.facts
  obtain ⟨c2, f2⟩ := o2'.facts
  clear o2 o2'
  go_wp2_with fail
  refine (sure5_any _).mono ?_
  rintro e9 w9 ⟨rfl, hb9⟩
  have HB9 := below_then HB2.out hb9
  clear hb9
  go_wp2
  go_ret
  exact ⟨rfl, HB9⟩
set_option maxRecDepth 100000 in
set_option maxHeartbeats 2000000 in
theorem all5_any (s : ByteArray) (w : World) : Calls Try.prog 11 #[.string s] w fun e w' => e = .returned (.bool true) ∧ Below w.heap.size w w' := by
  by_cases h : 400 < (s.size : Int)
  · go_enter Try.func11, Try.ntmps11
    have e : decide (400 < (s.size : Int)) = true := by simpa using h
    go_wp2_with fail
    refine (sure5_any _).mono ?_
    rintro e1 w1 ⟨rfl, hb1⟩
    go_wp2
    go_ret
    exact ⟨rfl, hb1⟩
  have e : decide (400 < (s.size : Int)) = false := by simpa using h
  have C := lall_any s (by omega)
  have C' := gall_any s (by omega)
  have hl : (allGo s 0 []).1.length ≤ 400 := by
    rcases all_cases s with ⟨L, h1, h2⟩ | ⟨e, k, _, h1⟩
    · rw [h1]; have := h2.le; simp only; omega
    · rw [h1]; simp
  obtain ⟨r, hr⟩ : ∃ r, allGo s 0 [] = r := ⟨_, rfl⟩
  rw [hr] at C C' hl
  clear hr h
  obtain ⟨L, er, pl⟩ := r
  simp only at hl
  have HL := Lib.hid hl; clear hl
  go_enter Try.func11, Try.ntmps11
  go_wp2_with fail
  refine (C _).mono ?_
  rintro e1 w1 ⟨A1, c1, rfl, hown1, hb1⟩
  have HA1 := Lib.hid (WordsAt.of_row hown1 rfl (by have := HL.out; simp only; omega))
  have HB1 := Lib.hid hb1
  clear C hb1 hown1
  go_wp2_with fail
  refine (C' _).mono ?_
  rintro e2 w2 ⟨A2, c2, rfl, hown2, hb2⟩
  have HA2 := Lib.hid (WordsAt.of_row hown2 rfl (by have := HL.out; simp only; omega))
  have HA1' := Lib.hid ((HA1.out.below hb2).more hb2.size)
  have HB2 := Lib.hid (below_then HB1.out hb2)
  clear C' hb2 hown2 HA1 HB1
  go_wp2_with fail
  refine (same5_any A1 A2 c1 c2 L _ HA1'.out HA2.out).mono ?_
  rintro e3 w3 ⟨rfl, hb3⟩
  have HB3 := Lib.hid (below_then HB2.out hb3)
  clear hb3 HB2
  go_wp2_with fail
  refine (sure5_any _).mono ?_
  rintro e9 w9 ⟨rfl, hb9⟩
  have HB9 := below_then HB3.out hb9
  clear hb9
  go_wp2
  go_ret
  exact ⟨rfl, HB9⟩
set_option maxRecDepth 100000 in
set_option maxHeartbeats 2000000 in
theorem prints5_any (x : Wd) (w : World) : Calls Try.prog 13 #[wdV x] w fun e w' => e = .returned (.bool true) ∧ Below w.heap.size w w' := by
  have o0 : Slab (w.alloc (.cells (wdCells x) 57)) w.heap.size (wdCells x) 57 := Slab.new _ _ _
  have HB0 := Lib.hid ((Below.refl w.heap.size w).alloc (Nat.le_refl _) (.cells (wdCells x) 57))
  have C1 := ltext_any x.set
  have C2 := gtext_any x.set
  have C3 := lprint_any x
  have C4 := gprint_any x
  obtain ⟨T, hT⟩ : ∃ T, strB (textW x.set) = T := ⟨_, rfl⟩
  obtain ⟨S, hS⟩ : ∃ S, strB (printW x) = S := ⟨_, rfl⟩
  rw [hT] at C1 C2
  rw [hS] at C3 C4
  clear hT hS
  go_enter Try.func13, Try.ntmps13
  go_wp2_with fail
  have hp : ∀ d os i, («Sort».grow (redrawn (w.alloc (.cells (wdCells x) 57)) d) os).cell? _ = _ := fun d os i => (o0.below (below_regrown _ d os) o0.lt).cell i
  clear o0
  refine wp_region_quiet_below (by kernel_rfl) (by kernel_rfl) ?_
  repeat (first | go_big_quiet_step ((first | (go_at_call 41; exact Calls.regrown_of (C1 _)) | (go_at_call 42; exact Calls.regrown_of (C2 _)) | (go_at_call 43; exact Calls.regrown_of (C3 _)) | (go_at_call 44; exact Calls.regrown_of (C4 _)) | (go_at_call 35; exact Calls.regrown_of (sure5_any _)))) | quiet_step ((first | (go_at_call 41; exact Calls.regrown_of (C1 _)) | (go_at_call 42; exact Calls.regrown_of (C2 _)) | (go_at_call 43; exact Calls.regrown_of (C3 _)) | (go_at_call 44; exact Calls.regrown_of (C4 _)) | (go_at_call 35; exact Calls.regrown_of (sure5_any _)))))
  refine wpQuiet_nil ?_
  intro _ hw'
  obtain ⟨⟨qd, qos⟩, hw''⟩ := hw'
  subst hw''
  have hb := below_then HB0.out (below_regrown _ qd qos)
  go_wp2
  go_ret
  exact ⟨rfl, hb⟩
end Go.Proofs.Ytddokdjlmdoebaa
