/- LowerMakes, walked. -/
import Derived.Test.YtddokdjlmdoebaaProg
import Derived.WalkKit
import Derived.WalkSpells
import Derived.WalkLawsBesides
import Derived.Handy
import Derived.Lib.Hide
import Derived.Test.YtddokdjlmdoebaaMLoZ
import Derived.Test.YtddokdjlmdoebaaRloE
import Derived.Test.YtddokdjlmdoebaaMLw6
import Derived.Deep.QuietTactic
import Derived.BigQuiet
set_option linter.unusedVariables false
set_option linter.unusedSimpArgs false
namespace Go.Proofs.Ytddokdjlmdoebaa
open Go.RowKit SetP AstP LowP ParP
theorem lowTerm_le (L : List Nd) (T P : Int) : (lowTermF L T P).1.length ≤ 400 := by
  unfold lowTermF
  cases hR : rightF L with
  | false => rw [if_neg (by decide)]; decide
  | true =>
    rw [if_pos rfl]
    split
    · decide
    · rename_i h
      obtain ⟨hF, hok, _⟩ := right_parts hR
      have hpos := (root_size hF).1
      have h1 : (sizeF L).1 ≤ 400 := by omega
      rw [sizeF_right hR] at h1
      have := termAt_length hF hok (L.length - 1) (by omega) (by omega)
      show (termAt L (L.length - 1)).length ≤ 400
      omega
set_option maxRecDepth 100000 in
set_option maxHeartbeats 2000000 in
theorem lmakes_any (A : Option Addr) (c n : Nat) (T P S : Int) (w : World) (h : Came w A n) :
    Calls Try.prog 4 #[.slice A n c, .agg #[.int .i64 T, .int .i64 P, .int .i64 S]] w fun e w' => e = .returned (.bool true) ∧ Below w.heap.size w w' := by
  have HB0 := Lib.hid ((Below.refl w.heap.size w).alloc (Nat.le_refl _) (.cells #[.int .i64 T, .int .i64 P, .int .i64 S] 30))
  have o0 : Slab (w.alloc (.cells #[.int .i64 T, .int .i64 P, .int .i64 S] 30)) w.heap.size #[.int .i64 T, .int .i64 P, .int .i64 S] 30 := Slab.new _ _ _
  have O0 := Lib.hid o0
  obtain ⟨c0, f0⟩ := o0.facts
  by_cases hn : n ≤ 60
  case neg =>
    have hd : decide (60 < (n : Int)) = true := decide_eq_true (by omega)
    clear o0 h
    go_enter Try.func4, Try.ntmps4
    go_wp2_with fail
    refine (sure11_any _).mono ?_
    rintro e1 w1 ⟨rfl, hb1⟩
    have HB1 := Lib.hid (below_then HB0.out hb1)
    go_wp2
    go_ret
    exact ⟨rfl, HB1.out⟩
  have hd : decide (60 < (n : Int)) = false := decide_eq_false (by omega)
  obtain ⟨L, hl, hL⟩ := h hn
  have HL := Lib.hid hL
  have C1 := fun w1 (hb : Below w.heap.size w w1) => lower_any A c L (by omega) T P S w1 ((hL.below hb).more hb.size)
  have C2 := fun w1 (hb : Below w.heap.size w w1) => rlower_any A c L (by omega) T P S w1 ((hL.below hb).more hb.size)
  have hX := lowTerm_le L T P
  rw [hl] at C1 C2
  generalize lowTermF L T P = p at *
  obtain ⟨X, er⟩ := p
  simp only at C1 C2 hX
  unfold RetLow at C1 C2
  have C3 := fun A1 c1 A2 c2 w1 h1 h2 => tsame_any A1 A2 c1 c2 X w1 h1 h2
  obtain ⟨N, hN⟩ : ∃ N, X.length = N := ⟨_, rfl⟩
  have HN := Lib.hid hN
  rw [hN] at C1 C2 C3 hX
  have HC1 := Lib.hid C1
  have HC2 := Lib.hid C2
  have HC3 := Lib.hid C3
  have her : (er == er) = true := by simp
  clear C1 C2 C3 h hl hL o0 hN
  go_enter Try.func4, Try.ntmps4
  go_wp2_with fail
  refine (HC1.out _ HB0.out).mono ?_
  rintro e1 w1 ⟨A1, c1, rfl, hown1, hb1⟩
  have HB1 := Lib.hid (below_then HB0.out hb1)
  have O1 := Lib.hid (O0.out.call hb1)
  obtain ⟨c2, f2⟩ := O1.out.facts
  have H1 := Lib.hid hown1
  clear c0 f0 hb1 hown1 HC1
  go_wp2_with fail
  refine (HC2.out _ HB1.out).mono ?_
  rintro e2 w2 ⟨A2, c2', rfl, hown2, hb2⟩
  have HB2 := Lib.hid (below_then HB1.out hb2)
  have T1 := TermAt.of_row (row_call H1.out hb2) HN.out (by omega)
  have T2 := TermAt.of_row hown2 HN.out (by omega)
  have C3 := HC3.out A1 c1 A2 c2' w2 T1 T2
  clear hb2 hown2 HC2 HC3 T1 T2 c2 f2
  go_wp2_with fail
  refine C3.mono ?_
  rintro e3 w3 ⟨rfl, hb3⟩
  have HB3 := Lib.hid (below_then HB2.out hb3)
  clear hb3 C3
  go_wp2_with fail
  refine (sure11_any _).mono ?_
  rintro e4 w4 ⟨rfl, hb4⟩
  have HB4 := Lib.hid (below_then HB3.out hb4)
  clear hb4
  go_wp2_with fail
  go_ret
  exact ⟨rfl, HB4.out⟩
end Go.Proofs.Ytddokdjlmdoebaa
