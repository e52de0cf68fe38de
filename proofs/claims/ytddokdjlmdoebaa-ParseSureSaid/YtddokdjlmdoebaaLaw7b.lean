/- ParseSure, walked. -/
import Derived.Test.YtddokdjlmdoebaaProg
import Derived.WalkKit
import Derived.WalkSpells
import Derived.WalkLawsBesides
import Derived.Handy
import Derived.Lib.Hide
import Derived.Test.YtddokdjlmdoebaaLaw7a
import Derived.Deep.QuietTactic
import Derived.BigQuiet
set_option linter.unusedVariables false
set_option linter.unusedSimpArgs false
namespace Go.Proofs.Ytddokdjlmdoebaa
open Go.RowKit SetP BrkP LexP AstP ParP
set_option maxRecDepth 100000 in
set_option maxHeartbeats 2000000 in
theorem psure_any (s more : ByteArray) (w : World) : Calls Try.prog 8 #[.string s, .string more] w fun e w' => e = .returned (.bool true) ∧ Below w.heap.size w w' := by
  by_cases h : 300 < (s.size : Int)
  · have e : decide (300 < (s.size : Int)) = true := by simpa using h
    go_enter Try.func8, Try.ntmps8
    go_wp2_with fail
    refine (sure7_any _).mono ?_
    rintro e1 w1 ⟨rfl, hb1⟩
    go_wp2
    go_ret
    exact ⟨rfl, hb1⟩
  have e : decide (300 < (s.size : Int)) = false := by simpa using h
  have hsz : s.size ≤ 300 := by omega
  clear h
  by_cases h : 100 < (more.size : Int)
  · have e2 : decide (100 < (more.size : Int)) = true := by simpa using h
    go_enter Try.func8, Try.ntmps8
    go_wp2_with fail
    refine (sure7_any _).mono ?_
    rintro e1 w1 ⟨rfl, hb1⟩
    go_wp2
    go_ret
    exact ⟨rfl, hb1⟩
  have e2 : decide (100 < (more.size : Int)) = false := by simpa using h
  have hmz : more.size ≤ 100 := by omega
  clear h
  have C1 := pparse_any s (by omega)
  have hP := parse_bad (s := s)
  obtain ⟨⟨L, er, p⟩, hR⟩ : ∃ R, parseF s = R := ⟨_, rfl⟩
  rw [hR] at C1 hP
  simp only at hP
  by_cases h0 : er = 0
  · subst h0
    clear hP hR
    go_enter Try.func8, Try.ntmps8
    go_wp2_with fail
    refine (C1 _).mono ?_
    rintro e1 w1 ⟨A1, c1, rfl, hown1, hb1⟩
    clear hown1
    have HB1 := Lib.hid hb1
    clear hb1
    go_wp2_with fail
    refine (sure7_any _).mono ?_
    rintro e2 w2 ⟨rfl, hb2⟩
    have HB2 := below_then HB1.out hb2
    go_wp2
    go_ret
    exact ⟨rfl, HB2⟩
  by_cases h2 : er = 2
  · subst h2
    clear hP hR
    go_enter Try.func8, Try.ntmps8
    go_wp2_with fail
    refine (C1 _).mono ?_
    rintro e1 w1 ⟨A1, c1, rfl, hown1, hb1⟩
    clear hown1
    have HB1 := Lib.hid hb1
    clear hb1
    go_wp2_with fail
    refine (sure7_any _).mono ?_
    rintro e2 w2 ⟨rfl, hb2⟩
    have HB2 := below_then HB1.out hb2
    go_wp2
    go_ret
    exact ⟨rfl, HB2⟩
  obtain ⟨k, hk, k0, kn, hA, hB⟩ := hP h0 h2
  obtain ⟨j, rfl⟩ : ∃ j, k = j + 1 := ⟨k - 1, by omega⟩
  have hA1 := hA _ (alike_cut s more (j + 1) kn)
  have hB1 := hB (s.extract 0 j) j (by omega) (by
    have := alike_ext s j (by omega); exact this) (by rw [ByteArray.size_extract]; omega)
  have C2 := pparse_any (s.extract 0 (j + 1) ++ more) (by rw [ByteArray.size_append', ByteArray.size_extract]; omega)
  have C3 := pparse_any (s.extract 0 j) (by rw [ByteArray.size_extract]; omega)
  clear hA hB hP
  obtain ⟨⟨L2, er2, p2⟩, hR2⟩ : ∃ R, parseF (s.extract 0 (j + 1) ++ more) = R := ⟨_, rfl⟩
  obtain ⟨⟨L3, er3, p3⟩, hR3⟩ : ∃ R, parseF (s.extract 0 j) = R := ⟨_, rfl⟩
  rw [hR2] at C2 hA1
  rw [hR3] at C3 hB1
  simp only [Prod.mk.injEq] at hA1 hB1
  obtain ⟨rfl, rfl⟩ := hA1
  subst hk
  clear hR hR2 hR3
  have t0 : (er2 == 0) = false := beq_eq_false_iff_ne.2 h0
  have t2 : (er2 == 2) = false := beq_eq_false_iff_ne.2 h2
  have t1 : (er2 == er2) = true := beq_self_eq_true _
  have d1 : decide (j + 1 ≤ s.size) = true := decide_eq_true kn
  have d2 : decide (s.size < j + 1) = false := decide_eq_false (by omega)
  clear h0 h2
  rcases hB1 with rfl | rfl
  · go_enter Try.func8, Try.ntmps8
    go_wp2_with fail
    refine (C1 _).mono ?_
    rintro e1 w1 ⟨A1, c1, rfl, hown1, hb1⟩
    clear hown1
    have HB1 := Lib.hid hb1
    clear hb1 C1
    go_wp2_with fail
    refine (C2 _).mono ?_
    rintro e2 w2 ⟨A2, c2, rfl, hown2, hb2⟩
    clear hown2
    have HB2 := Lib.hid (below_then HB1.out hb2)
    clear hb2 C2 HB1
    go_wp2_with fail
    refine (C3 _).mono ?_
    rintro e3 w3 ⟨A3, c3, rfl, hown3, hb3⟩
    clear hown3
    have HB3 := Lib.hid (below_then HB2.out hb3)
    clear hb3 C3 HB2
    go_wp2_with fail
    refine (sure7_any _).mono ?_
    rintro e4 w4 ⟨rfl, hb4⟩
    have HB4 := below_then HB3.out hb4
    go_wp2
    go_ret
    exact ⟨rfl, HB4⟩
  · go_enter Try.func8, Try.ntmps8
    go_wp2_with fail
    refine (C1 _).mono ?_
    rintro e1 w1 ⟨A1, c1, rfl, hown1, hb1⟩
    clear hown1
    have HB1 := Lib.hid hb1
    clear hb1 C1
    go_wp2_with fail
    refine (C2 _).mono ?_
    rintro e2 w2 ⟨A2, c2, rfl, hown2, hb2⟩
    clear hown2
    have HB2 := Lib.hid (below_then HB1.out hb2)
    clear hb2 C2 HB1
    go_wp2_with fail
    refine (C3 _).mono ?_
    rintro e3 w3 ⟨A3, c3, rfl, hown3, hb3⟩
    clear hown3
    have HB3 := Lib.hid (below_then HB2.out hb3)
    clear hb3 C3 HB2
    go_wp2_with fail
    refine (sure7_any _).mono ?_
    rintro e4 w4 ⟨rfl, hb4⟩
    have HB4 := below_then HB3.out hb4
    go_wp2
    go_ret
    exact ⟨rfl, HB4⟩
end Go.Proofs.Ytddokdjlmdoebaa
