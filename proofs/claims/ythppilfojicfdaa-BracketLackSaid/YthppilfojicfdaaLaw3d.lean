/- BracketLack, walked. -/
import Derived.Test.YthppilfojicfdaaProg
import Derived.WalkKit
import Derived.WalkSpells
import Derived.WalkLawsBesides
import Derived.Handy
import Derived.Lib.Hide
import Derived.Test.YthppilfojicfdaaLaw3
import Derived.Test.YthppilfojicfdaaBrkS
namespace Go.Proofs.Ythppilfojicfdaa
open Go.RowKit SetP BrkP
theorem toList_ne {S : ByteArray} (h : 0 < S.size) : S.toList ≠ [] := by
  rw [ByteArray.toList_eq]; intro e
  have h2 : S.data.toList.length = S.size := by simp
  rw [e] at h2
  have h3 : S.size = 0 := h2.symm
  omega
set_option maxRecDepth 100000 in
set_option maxHeartbeats 2000000 in
theorem lack3_any (s : ByteArray) (i : Int) (w : World) :
    Calls Try.prog 14 #[.string s, .int .i64 i] w fun e w' => e = .returned (.bool true) ∧ Below w.heap.size w w' := by
  cases h : decide (400 < (s.size : Int)) with
  | true =>
    go_enter Try.func14, Try.ntmps14
    go_wp2_with fail
    refine (sure3_any _).mono ?_
    rintro e1 w1 ⟨rfl, hb1⟩
    go_wp2
    go_ret
    exact ⟨rfl, hb1⟩
  | false =>
  have hs : s.size ≤ 400 := by simp at h; omega
  have C0 := black_any s i (by omega)
  have C1 := bread_any s i (by omega)
  by_cases h2 : (readB s i).err = 2
  · obtain ⟨hz0, hz2, h5, h6⟩ := lackB_some h2
    generalize lackB s i = c at *
    have C2 := bread_any (s ++ c) i (by rw [ByteArray.size_append']; omega)
    have e0 : c.toList ≠ [] := toList_ne hz0
    have e3 : (c.toList == []) = false := by simpa using e0
    have e4 : c.toList.isEmpty = false := by simpa using e0
    generalize readB (s ++ c) i = q at *
    generalize readB s i = r at *
    obtain ⟨qf, qt, qe, qk⟩ := q
    obtain ⟨f, t, e, k⟩ := r
    simp only at h5 h6 h2
    subst h5 h6 h2
    go_enter Try.func14, Try.ntmps14
    go_wp2_with fail
    refine (C0 _).mono ?_
    rintro e1 w1 ⟨rfl, hb1⟩
    have HB1 := Lib.hid hb1
    go_wp2_with fail
    refine (C1 _).mono ?_
    rintro e2 w2 ⟨rfl, hb2⟩
    have HB2' := below_then HB1.out hb2
    have HB2 := Lib.hid (HB2'.alloc HB2'.size (.cells (cells4 f) 24))
    clear hb1 hb2 HB2' C1
    go_wp2_with fail
    refine (C2 _).mono ?_
    rintro e3 w3 ⟨rfl, hb3⟩
    have HB3' := below_then HB2.out hb3
    have HB3 := Lib.hid (HB3'.alloc HB3'.size (.cells (cells4 qf) 24))
    clear hb3 HB3' C2
    go_wp2_with fail
    refine (sure3_any _).mono ?_
    rintro e4 w4 ⟨rfl, hb4⟩
    have HB4 := below_then HB3.out hb4
    go_wp2
    go_ret
    exact ⟨rfl, HB4⟩
  · rw [lackB_none h2] at C0
    generalize readB s i = r at *
    obtain ⟨f, t, e, k⟩ := r
    simp only at h2
    have e2 : (e != 2) = true := by simpa using h2
    clear h2
    go_enter Try.func14, Try.ntmps14
    go_wp2_with fail
    refine (C0 _).mono ?_
    rintro e1 w1 ⟨rfl, hb1⟩
    have HB1 := Lib.hid hb1
    go_wp2_with fail
    refine (C1 _).mono ?_
    rintro e2 w2 ⟨rfl, hb2⟩
    have HB2' := below_then HB1.out hb2
    have HB2 := Lib.hid (HB2'.alloc HB2'.size (.cells (cells4 f) 24))
    clear hb1 hb2 HB2' C1
    go_wp2_with fail
    refine (sure3_any _).mono ?_
    rintro e3 w3 ⟨rfl, hb3⟩
    have HB3 := below_then HB2.out hb3
    go_wp2
    go_ret
    exact ⟨rfl, HB3⟩
end Go.Proofs.Ythppilfojicfdaa
