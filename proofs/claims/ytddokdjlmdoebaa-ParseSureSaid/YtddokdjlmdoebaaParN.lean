/- Walks of the document's parser: the tree of a pattern; what is open. -/
import Derived.Test.YtddokdjlmdoebaaProg
import Derived.WalkKit
import Derived.WalkSpells
import Derived.WalkLawsBesides
import Derived.Handy
import Derived.Lib.Hide
import Derived.Test.YtddokdjlmdoebaaParM
import Derived.Deep.QuietTactic
set_option linter.unusedVariables false
set_option linter.unusedSimpArgs false
namespace Go.Proofs.Ytddokdjlmdoebaa
open Go.RowKit SetP BrkP LexP AstP ParP
set_option maxRecDepth 100000 in
set_option maxHeartbeats 2000000 in
theorem rparse_any (s : ByteArray) (hs : s.size ≤ 200000) (w : World) : Calls Try.prog 31 #[.string s] w (RetParse (parseF s) w) := by
  have C := rread7_any s hs w
  rcases read7 s with ⟨y, h, hb⟩ | ⟨er, p, h, h0⟩
  · have hp : parseF s = if 1 < y.lv.length then ([], 2, (s.size : Int)) else ((endRows y).out, 0, 0) := by unfold parseF; rw [h]; rfl
    rw [h] at C
    unfold RetR7 at C
    simp only at C
    clear h
    by_cases h1 : 1 < y.lv.length
    · rw [if_pos h1] at hp
      rw [hp]
      simp only [if_pos h1] at C
      clear hp h1 hb
      go_enter Try.func31, Try.ntmps31
      go_wp2_with fail
      refine C.mono ?_
      rintro e1 w1 ⟨rfl, hb1⟩
      clear C
      go_wp2
      refine bodyPost_ret (v := .tuple #[.slice none 0 0, .int .i64 2, .int .i64 (s.size : Int)]) (by simp [results, Try.results31, go_sem]) rfl ⟨none, 0, rfl, World.ownsRow_nil _ _ _ _, hb1.alloc hb1.size _⟩
    · rw [if_neg h1] at hp
      rw [hp]
      simp only [if_neg h1] at C
      generalize endRows y = z at *
      clear hp h1 hb
      go_enter Try.func31, Try.ntmps31
      go_wp2_with fail
      refine C.mono ?_
      rintro e1 w1 ⟨A1, k1, p1, q1, r1, s1, he1, hb1, hs1⟩
      have he2 : e1 = .returned (.tuple #[.agg #[.slice A1 z.out.length k1, .slice (some ⟨p1, 0, none⟩) z.lv.length q1, .slice (some ⟨r1, 0, none⟩) z.lv.length s1, .int .i64 (z.groups : Int)], .int .i64 0, .int .i64 0, .int .i64 0]) := he1
      clear he1
      subst he2
      have HS := Lib.hid hs1
      clear C hs1
      go_wp2
      refine bodyPost_ret (v := .tuple #[.slice A1 z.out.length k1, .int .i64 0, .int .i64 0]) (by simp [results, Try.results31, go_sem]) rfl ⟨A1, k1, rfl, row_call HS.out.out ((Below.refl _ _).alloc (Nat.le_refl _) _), hb1.alloc hb1.size _⟩
  · rw [(parse_bad7 h).1]
    rw [h] at C
    unfold RetR7 at C
    simp only at C
    clear h h0
    go_enter Try.func31, Try.ntmps31
    go_wp2_with fail
    refine C.mono ?_
    rintro e1 w1 ⟨rfl, hb1⟩
    clear C
    go_wp2
    refine bodyPost_ret (v := .tuple #[.slice none 0 0, .int .i64 er, .int .i64 p]) (by simp [results, Try.results31, go_sem]) rfl ⟨none, 0, rfl, World.ownsRow_nil _ _ _ _, hb1.alloc hb1.size _⟩
set_option maxRecDepth 100000 in
set_option maxHeartbeats 2000000 in
theorem ropen_any (s : ByteArray) (hs : s.size ≤ 200000) (w : World) : Calls Try.prog 34 #[.string s] w fun e w' => e = .returned (.int .i64 (openF s : Int)) ∧ Below w.heap.size w w' := by
  have C := rread7_any s hs w
  rcases read7 s with ⟨y, h, hb⟩ | ⟨er, p, h, h0⟩
  · have hp : openF s = y.lv.length - 1 := by unfold openF; rw [h]; rfl
    rw [h] at C
    unfold RetR7 at C
    simp only at C
    clear h
    by_cases h1 : 1 < y.lv.length
    · simp only [if_pos h1] at C
      rw [hp]
      clear hp h1 hb
      generalize y.lv.length - 1 = N at *
      go_enter Try.func34, Try.ntmps34
      go_wp2_with fail
      refine C.mono ?_
      rintro e1 w1 ⟨rfl, hb1⟩
      clear C
      go_wp2
      go_ret
      first | exact ⟨rfl, hb1⟩ | exact ⟨rfl, hb1.alloc hb1.size _⟩
    · simp only [if_neg h1] at C
      have hp0 : openF s = 0 := by omega
      rw [hp0]
      generalize endRows y = z at *
      clear hp h1 hb hp0
      go_enter Try.func34, Try.ntmps34
      go_wp2_with fail
      refine C.mono ?_
      rintro e1 w1 ⟨A1, k1, p1, q1, r1, s1, he1, hb1, hs1⟩
      have he2 : e1 = .returned (.tuple #[.agg #[.slice A1 z.out.length k1, .slice (some ⟨p1, 0, none⟩) z.lv.length q1, .slice (some ⟨r1, 0, none⟩) z.lv.length s1, .int .i64 (z.groups : Int)], .int .i64 0, .int .i64 0, .int .i64 0]) := he1
      clear he1
      subst he2
      clear C hs1
      go_wp2
      go_ret
      first | exact ⟨rfl, hb1⟩ | exact ⟨rfl, hb1.alloc hb1.size _⟩
  · rw [(parse_bad7 h).2]
    rw [h] at C
    unfold RetR7 at C
    simp only at C
    clear h h0
    go_enter Try.func34, Try.ntmps34
    go_wp2_with fail
    refine C.mono ?_
    rintro e1 w1 ⟨rfl, hb1⟩
    clear C
    go_wp2
    go_ret
    first | exact ⟨rfl, hb1⟩ | exact ⟨rfl, hb1.alloc hb1.size _⟩
end Go.Proofs.Ytddokdjlmdoebaa
