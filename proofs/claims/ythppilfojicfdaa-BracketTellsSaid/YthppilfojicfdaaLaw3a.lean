/- BracketTells, walked. -/
import Derived.Test.YthppilfojicfdaaProg
import Derived.WalkKit
import Derived.WalkSpells
import Derived.WalkLawsBesides
import Derived.Handy
import Derived.Lib.Hide
import Derived.Test.YthppilfojicfdaaLaw3
import Derived.Test.YthppilfojicfdaaBrkG
import Derived.Test.YthppilfojicfdaaEqA
namespace Go.Proofs.Ythppilfojicfdaa
open Go.RowKit SetP BrkP
attribute [local go_sem] run_eq_set
set_option maxRecDepth 100000 in
set_option maxHeartbeats 2000000 in
theorem tells3_any (s : ByteArray) (i : Int) (w : World) :
    Calls Try.prog 11 #[.string s, .int .i64 i] w fun e w' => e = .returned (.bool true) ∧ Below w.heap.size w w' := by
  cases h : decide (400 < (s.size : Int)) with
  | true =>
    go_enter Try.func11, Try.ntmps11
    go_wp2_with fail
    refine (sure3_any _).mono ?_
    rintro e1 w1 ⟨rfl, hb1⟩
    go_wp2
    go_ret
    exact ⟨rfl, hb1⟩
  | false =>
    have hs : s.size ≤ 4611686018427387000 := by simp at h; omega
    have C1 := bread_any s i hs
    have C2 := rread3_any s i hs
    generalize readB s i = r at *
    obtain ⟨f, n, e, p⟩ := r
    have hsame : same f f = true := same_iff.2 fun _ _ => rfl
    go_enter Try.func11, Try.ntmps11
    go_wp2_with fail
    refine (C1 _).mono ?_
    rintro e1 w1 ⟨rfl, hb1⟩
    have o1 : Slab (w1.alloc (.cells (cells4 f) 24)) w1.heap.size (cells4 f) 24 := Slab.new _ _ _
    have HB1 := Lib.hid (hb1.alloc hb1.size (.cells (cells4 f) 24))
    clear hb1
    go_wp2_with fail
    refine (C2 _).mono ?_
    rintro e2 w2 ⟨rfl, hb2⟩
    have o2 := (o1.call hb2).alloc (.cells (cells4 f) 24)
    have HB2' := below_then HB1.out hb2
    have HB2 := Lib.hid (HB2'.alloc HB2'.size (.cells (cells4 f) 24))
    clear HB1 hb2 HB2' o1 C1 C2
    obtain ⟨c2, f2⟩ := Slab.facts (o2)
    go_wp2_with fail
    refine (sure3_any _).mono ?_
    rintro e3 w3 ⟨rfl, hb3⟩
    have HB3 := below_then HB2.out hb3
    go_wp2
    go_ret
    exact ⟨rfl, HB3⟩
end Go.Proofs.Ythppilfojicfdaa
