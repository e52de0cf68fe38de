/- The statements of stage 4, walked: BraceTells, BraceBack. -/
import Derived.Test.YtgkfdjfoakbibaaProg
import Derived.WalkKit
import Derived.WalkSpells
import Derived.WalkLawsBesides
import Derived.Handy
import Derived.Lib.Hide
import Derived.Test.YtgkfdjfoakbibaaBraceG
import Derived.Deep.RegionHeld3
namespace Go.Proofs.Ytgkfdjfoakbibaa
open Go.RowKit BraceP
attribute [local go_sem] run_eq_span
set_option maxRecDepth 100000 in
set_option maxHeartbeats 2000000 in
theorem tells4_any (s : ByteArray) (i : Int) (w : World) :
    Calls Try.prog 3 #[.string s, .int .i64 i] w fun e w' => e = .returned (.bool true) ∧ Below w.heap.size w w' := by
  go_enter Try.func3, Try.ntmps3
  by_cases h : 400 < (s.size : Int)
  · have e : decide (400 < (s.size : Int)) = true := by simpa using h
    go_wp2_with fail
    refine (sure_any _).mono ?_
    rintro e1 w1 ⟨rfl, hb1⟩
    go_wp2
    go_ret
    exact ⟨rfl, hb1⟩
  · have e : decide (400 < (s.size : Int)) = false := by simpa using h
    obtain ⟨r, hr⟩ : ∃ r, readF s.data.toList i = r := ⟨_, rfl⟩
    go_wp2_with fail
    refine (read_any s i (by omega) _).mono ?_
    rintro e1 w1 ⟨rfl, hb1⟩
    rw [hr]
    have o0 : Slab (w1.alloc (.cells #[.int .i64 r.1, .int .i64 r.2.1] 24)) w1.heap.size #[.int .i64 r.1, .int .i64 r.2.1] 24 := Slab.new _ _ _
    have HB1 := Lib.hid (hb1.alloc hb1.size (.cells #[.int .i64 r.1, .int .i64 r.2.1] 24))
    clear hb1
    go_wp2_with fail
    refine (rread_any s i (by omega) _).mono ?_
    rintro e2 w2 ⟨rfl, rfl⟩
    rw [hr]
    obtain ⟨c0, f0⟩ := o0.facts
    go_wp2_with fail
    refine (sure_any _).mono ?_
    rintro e3 w3 ⟨rfl, hb3⟩
    have HB3 := below_then HB1.out hb3
    go_wp2
    go_ret
    exact ⟨rfl, HB3⟩
end Go.Proofs.Ytgkfdjfoakbibaa
