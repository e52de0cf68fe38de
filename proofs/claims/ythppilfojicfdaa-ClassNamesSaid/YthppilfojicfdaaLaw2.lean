/- The statements of stage 2, walked: what must come whatever the input is; ClassTells, ClassFinds. -/
import Derived.Test.YthppilfojicfdaaProg
import Derived.WalkKit
import Derived.WalkSpells
import Derived.WalkLawsBesides
import Derived.Handy
import Derived.Lib.Hide
import Derived.Test.YthppilfojicfdaaClassC
import Derived.Test.YthppilfojicfdaaBsetC
import Derived.Lib.QuietBelow
namespace Go.Proofs.Ythppilfojicfdaa
open Go.RowKit SetP Go.Sort
attribute [local go_sem] run_eq_set run_eq_set0

theorem s2_count : (bytesF blankF).length = 2 := by kernel_rfl
theorem s2_has : blankF 9 = true := by kernel_rfl
theorem s2_sp : beginsF ⟨#[115, 112]⟩ = true := by kernel_rfl
theorem s2_sq : beginsF ⟨#[115, 113]⟩ = false := by kernel_rfl
theorem s2_any : (bytesF (rangeF 0 255)).length = 256 := by kernel_rfl
theorem s2_find : findF blankF = ⟨#[98, 108, 97, 110, 107]⟩ := by kernel_rfl
theorem s2_word : ofV ⟨#[119, 111, 114, 100]⟩ = .tuple #[.agg #[.int .u64 0, .int .u64 0, .int .u64 0, .int .u64 0], .bool false] := ofV_none (by unfold hit; simp only [ByteArray.toList_eq]; decide)
theorem of2_any (w : World) : Calls Try.prog 37 #[.string (nm 2)] w fun e w' => e = .returned (.tuple #[setV (cls 2), .bool true]) ∧ Below w.heap.size w w' := by
  have h := of_any (nm 2) w
  rw [ofV_nm 2 (by decide)] at h
  exact h
theorem ofword_any (w : World) : Calls Try.prog 37 #[.string ⟨#[119, 111, 114, 100]⟩] w fun e w' => e = .returned (.tuple #[.agg #[.int .u64 0, .int .u64 0, .int .u64 0, .int .u64 0], .bool false]) ∧ Below w.heap.size w w' := by
  have h := of_any ⟨#[119, 111, 114, 100]⟩ w
  rw [s2_word] at h
  exact h
theorem names_len (w : World) : Calls Try.prog 43 #[] w fun e w' => ∃ A c, e = .returned (.slice A 12 c) ∧ Below w.heap.size w w' :=
  (names_any w).mono fun _ _ ⟨A, c, he, _, hb⟩ => ⟨A, c, he, hb⟩
set_option maxRecDepth 100000 in
set_option maxHeartbeats 2000000 in
theorem sure2_any (w : World) : Calls Try.prog 36 #[] w fun e w' => e = .returned (.bool true) ∧ Below w.heap.size w w' := by
  go_enter Try.func36, Try.ntmps36
  go_wp2_with fail
  refine (of2_any _).mono ?_
  rintro e1 w1 ⟨rfl, hb1⟩
  have o1 : Slab (w1.alloc (.cells (cells4 (cls 2)) 24)) w1.heap.size (cells4 (cls 2)) 24 := Slab.new _ _ _
  have HB1 := Lib.hid (hb1.alloc hb1.size (.cells (cells4 (cls 2)) 24))
  clear hb1
  go_wp2_with fail
  refine (ofword_any _).mono ?_
  rintro e2 w2 ⟨rfl, hb2⟩
  have HB2' := below_then HB1.out hb2
  have HB2 := Lib.hid (HB2'.alloc HB2'.size (.cells zero4 24))
  have o2 := (o1.call hb2).alloc (.cells zero4 24)
  obtain ⟨c2, f2⟩ := o2.facts
  clear HB1 hb2 HB2' o1
  generalize w1.heap.size = g at *
  go_wp2_with fail
  refine (count_any (cls 2) _).mono ?_
  rintro e3 w3 ⟨rfl, hb3⟩
  have o3 := o2.call hb3
  obtain ⟨c3, f3⟩ := o3.facts
  have HB3 := Lib.hid (below_then HB2.out hb3)
  clear o2 c2 f2 HB2 hb3
  rw [show (bytesF (cls 2)).length = 2 from s2_count]
  go_wp2_with fail
  refine (has_any (cls 2) 9 (by omega) (by omega) _).mono ?_
  rintro e4 w4 ⟨rfl, hb4⟩
  have o4 := o3.call hb4
  obtain ⟨c4, f4⟩ := o4.facts
  have HB4 := Lib.hid (below_then HB3.out hb4)
  clear o3 c3 f3 HB3 hb4
  rw [show cls 2 (Int.toNat 9) = true from s2_has]
  go_wp2_with fail
  refine (begins_any ⟨#[115, 112]⟩ (by decide) _).mono ?_
  rintro e5 w5 ⟨rfl, hb5⟩
  have o5 := o4.call hb5
  obtain ⟨c5, f5⟩ := o5.facts
  have HB5 := Lib.hid (below_then HB4.out hb5)
  clear o4 c4 f4 HB4 hb5
  rw [s2_sp]
  go_wp2_with fail
  refine (begins_any ⟨#[115, 113]⟩ (by decide) _).mono ?_
  rintro e6 w6 ⟨rfl, hb6⟩
  have o6 := o5.call hb6
  obtain ⟨c6, f6⟩ := o6.facts
  have HB6 := Lib.hid (below_then HB5.out hb6)
  clear o5 c5 f5 HB5 hb6
  rw [s2_sq]
  go_wp2_with fail
  refine (names_len _).mono ?_
  rintro e7 w7 ⟨A, c, rfl, hb7⟩
  have o7 := o6.call hb7
  obtain ⟨c7, f7⟩ := o7.facts
  have HB7 := Lib.hid (below_then HB6.out hb7)
  clear o6 c6 f6 HB6 hb7
  go_wp2_with fail
  refine (anyset_any _).mono ?_
  rintro e8 w8 ⟨rfl, hb8⟩
  have o8 := o7.call hb8
  obtain ⟨c8, f8⟩ := o8.facts
  have HB8 := Lib.hid (below_then HB7.out hb8)
  clear o7 c7 f7 HB7 hb8
  go_wp2_with fail
  refine (count_any (rangeF 0 255) _).mono ?_
  rintro e9 w9 ⟨rfl, hb9⟩
  have o9 := o8.call hb9
  obtain ⟨c9, f9⟩ := o9.facts
  have HB9 := Lib.hid (below_then HB8.out hb9)
  clear o8 c8 f8 HB8 hb9
  rw [s2_any]
  go_wp2_with fail
  refine (find_any (cls 2) _).mono ?_
  rintro e10 w10 ⟨rfl, hb10⟩
  have o10 := o9.call hb10
  obtain ⟨c10, f10⟩ := o10.facts
  have HB10 := Lib.hid (below_then HB9.out hb10)
  clear o9 c9 f9 HB9 hb10
  rw [show findF (cls 2) = ⟨#[98, 108, 97, 110, 107]⟩ from s2_find]
  go_wp2
  go_ret
  exact ⟨by first | rfl | decide, HB10.out⟩

set_option maxRecDepth 100000 in
set_option maxHeartbeats 2000000 in
theorem finds_any (f : Nat → Bool) (w : World) : Calls Try.prog 8 #[setV f] w fun e w' => e = .returned (.bool true) ∧ Below w.heap.size w w' := by
  go_enter Try.func8, Try.ntmps8
  go_wp2_with fail
  have o0 : Slab (w.alloc (.cells (cells4 f) 24)) w.heap.size (cells4 f) 24 := Slab.new _ _ _
  have hB : Below w.heap.size w (w.alloc (.cells (cells4 f) 24)) := by (repeat' (first | (with_reducible exact Below.refl _ _) | (with_reducible assumption) | (with_reducible refine Below.alloc ?_ ?_ _) | (with_reducible refine Below.drew ?_) | (with_reducible refine below_set ?_ ?_ _) | (with_reducible refine below_call ?_ ?_ (by assumption)) | (with_reducible exact Below.size (by assumption)) | omega | go_size))
  have HB := Lib.hid hB; clear hB
  have hq : ∀ d os i, (grow (redrawn (w.alloc (.cells (cells4 f) 24)) d) os).cell? ⟨w.heap.size, i, none⟩ = (cells4 f)[i]? := fun d os i => (o0.below (below_regrown _ d os) o0.lt).cell i
  clear o0
  refine wp_region_quiet_below (by kernel_rfl) (by kernel_rfl) ?_
  repeat (first | go_big_quiet_step ((first | (go_at_call 41; exact Calls.regrown_of (find_any _ _)) | (go_at_call 42; exact Calls.regrown_of (rfind_any _ _)) | (go_at_call 36; exact Calls.regrown_of (sure2_any _)))) | quiet_step ((first | (go_at_call 41; exact Calls.regrown_of (find_any _ _)) | (go_at_call 42; exact Calls.regrown_of (rfind_any _ _)) | (go_at_call 36; exact Calls.regrown_of (sure2_any _)))))
  refine wpQuiet_nil ?_
  intro _ hw'
  obtain ⟨⟨qd, qos⟩, hw''⟩ := hw'
  subst hw''
  have hb := below_then HB.out (below_regrown _ qd qos)
  go_wp2
  go_ret
  exact ⟨by first | rfl | simp, hb⟩

set_option maxRecDepth 100000 in
set_option maxHeartbeats 2000000 in
theorem tells2_any (s : ByteArray) (w : World) : Calls Try.prog 7 #[.string s] w fun e w' => e = .returned (.bool true) ∧ Below w.heap.size w w' := by
  obtain ⟨g, b, hg⟩ : ∃ g b, ofV s = .tuple #[setV g, .bool b] := by
    unfold ofV
    split
    · exact ⟨_, _, rfl⟩
    · exact ⟨fun _ => false, false, by simp only [setV, wd_zero]⟩
  have C1 := of_any s
  have C2 := rof2_any s
  rw [hg] at C1 C2
  clear hg
  have hsame : same g g = true := same_iff.2 fun _ _ => rfl
  go_enter Try.func7, Try.ntmps7
  by_cases h : 300 < (s.size : Int)
  · have e : decide (300 < (s.size : Int)) = true := by simpa using h
    go_wp2_with fail
    refine (sure2_any _).mono ?_
    rintro e1 w1 ⟨rfl, hb1⟩
    go_wp2
    go_ret
    exact ⟨rfl, hb1⟩
  · have e : decide (300 < (s.size : Int)) = false := by simpa using h
    have hs : s.size ≤ 4611686018427387904 := by omega
    go_wp2_with fail
    refine (C1 _).mono ?_
    rintro e1 w1 ⟨rfl, hb1⟩
    have o1 : Slab (w1.alloc (.cells (cells4 g) 24)) w1.heap.size (cells4 g) 24 := Slab.new _ _ _
    have HB1 := Lib.hid (hb1.alloc hb1.size (.cells (cells4 g) 24))
    clear hb1
    go_wp2_with fail
    refine (C2 _).mono ?_
    rintro e2 w2 ⟨rfl, hb2⟩
    have o2 := (o1.call hb2).alloc (.cells (cells4 g) 24)
    have HB2' := below_then HB1.out hb2
    have HB2 := Lib.hid (HB2'.alloc HB2'.size (.cells (cells4 g) 24))
    clear HB1 hb2 HB2' o1 C1 C2
    obtain ⟨c2, f2⟩ := Slab.facts (o2)
    go_wp2_with fail
    refine (begins_any s hs _).mono ?_
    rintro e3 w3 ⟨rfl, hb3⟩
    have HB3 := Lib.hid (below_then HB2.out hb3)
    clear hb3
    go_wp2_with fail
    refine (rbegins_any s hs _).mono ?_
    rintro e4 w4 ⟨rfl, hb4⟩
    have HB4 := Lib.hid (below_then HB3.out hb4)
    clear hb4
    go_wp2_with fail
    refine (sure2_any _).mono ?_
    rintro e5 w5 ⟨rfl, hb5⟩
    have HB5 := Lib.hid (below_then HB4.out hb5)
    clear hb5
    go_wp2
    go_ret
    exact ⟨rfl, HB5.out⟩
end Go.Proofs.Ythppilfojicfdaa
