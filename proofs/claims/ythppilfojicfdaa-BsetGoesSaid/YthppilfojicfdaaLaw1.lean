/- The statement's own check of layer 1, walked. -/
import Derived.Test.YthppilfojicfdaaProg
import Derived.WalkKit
import Derived.WalkSpells
import Derived.WalkLawsBesides
import Derived.Handy
import Derived.Lib.Hide
import Derived.Test.YthppilfojicfdaaRefC
import Derived.Test.YthppilfojicfdaaEqA
namespace Go.Proofs.Ythppilfojicfdaa
open Go.RowKit SetP
attribute [local go_sem] run_eq_set run_eq2

def sure1F : Nat → Bool := addB (rangeF 97 99) 120
theorem sure1_runs : runsF sure1F = [(97, 99), (120, 120)] := by kernel_rfl
theorem sure1_count : (bytesF sure1F).length = 4 := by kernel_rfl
theorem sure1_next : nextF sure1F 100 = 120 := by kernel_rfl
theorem sure1_none : nextF sure1F 121 = -1 := by kernel_rfl
theorem sure1_98 : sure1F 98 = true := by kernel_rfl
theorem sure1_100 : sure1F 100 = false := by kernel_rfl

theorem sure1_runs_any (w : World) : Calls Try.prog 18 #[setV sure1F] w fun e w' => ∃ q c, e = .returned (.slice (some ⟨q, 0, none⟩) 2 c) ∧ w'.cell? ⟨q, 2, none⟩ = some (.int .u8 120) ∧ w'.cell? ⟨q, 3, none⟩ = some (.int .u8 120) ∧ q < w'.heap.size ∧ 2 ≤ c ∧ Below w.heap.size w w' :=
  (runs_any sure1F w).mono fun e w' ⟨A, c, he, hown, hb⟩ => by
    rw [sure1_runs] at he hown
    obtain ⟨q, rfl, _, hqw, hqc, hcell⟩ := row_cell hown (by simp)
    exact ⟨q, c, he, hcell 2 (by simp), hcell 3 (by simp), hqw, hqc, hb⟩

set_option maxRecDepth 100000 in
set_option maxHeartbeats 2000000 in
theorem sure1_any (w : World) : Calls Try.prog 23 #[] w fun e w' => e = .returned (.bool true) ∧ Below w.heap.size w w' := by
  go_enter Try.func23, Try.ntmps23
  go_wp2_with fail
  refine (range_any 97 99 (by omega) (by omega) (by omega) (by omega) _).mono ?_
  rintro e1 w1 ⟨rfl, hb1⟩
  go_wp2_with fail
  refine (with_one (rangeF 97 99) 120 (by omega) (by omega) _ _ _ (World.cell?_alloc_new _ _ _ _) (by simp)).mono ?_
  rintro e2 w2 ⟨rfl, hb2⟩
  rw [show addB (rangeF 97 99) (Int.toNat 120) = sure1F from rfl]
  go_wp2_with fail
  have o0 : Slab (w2.alloc (.cells (cells4 sure1F) 24)) w2.heap.size (cells4 sure1F) 24 := Slab.new _ _ _
  refine (sure1_runs_any _).mono ?_
  rintro e3 w3 ⟨q, c, rfl, p3, r3, q3, hqc, hb3⟩
  have o3 := o0.call hb3
  obtain ⟨c3, f3⟩ := o3.facts
  have HB1 := hb1
  have HB2 := below_then (HB1.alloc HB1.size _) hb2
  have HB3 := Lib.hid (below_then (HB2.alloc HB2.size _) hb3)
  clear hb1 HB1 hb2 HB2 hb3 o0
  generalize w2.heap.size = g at *
  go_wp2_with fail
  refine (has_any sure1F 98 (by omega) (by omega) _).mono ?_
  rintro e4 w4 ⟨rfl, hb4⟩
  have o4 := o3.call hb4
  obtain ⟨c4, f4⟩ := o4.facts
  have HB4 := Lib.hid (below_then HB3.out hb4)
  have p4 := (hb4.cell (p := ⟨q, 2, none⟩) q3).trans p3
  have r4 := (hb4.cell (p := ⟨q, 3, none⟩) q3).trans r3
  have q4 : q < w4.heap.size := Nat.lt_of_lt_of_le q3 hb4.size
  clear o3 c3 f3 HB3 hb4 p3 r3 q3
  rw [show sure1F (Int.toNat 98) = true from sure1_98]
  go_wp2_with fail
  refine (has_any sure1F 100 (by omega) (by omega) _).mono ?_
  rintro e5 w5 ⟨rfl, hb5⟩
  have o5 := o4.call hb5
  obtain ⟨c5, f5⟩ := o5.facts
  have HB5 := Lib.hid (below_then HB4.out hb5)
  have p5 := (hb5.cell (p := ⟨q, 2, none⟩) q4).trans p4
  have r5 := (hb5.cell (p := ⟨q, 3, none⟩) q4).trans r4
  have q5 : q < w5.heap.size := Nat.lt_of_lt_of_le q4 hb5.size
  clear o4 c4 f4 HB4 hb5 p4 r4 q4
  rw [show sure1F (Int.toNat 100) = false from sure1_100]
  go_wp2_with fail
  refine (count_any sure1F _).mono ?_
  rintro e6 w6 ⟨rfl, hb6⟩
  have o6 := o5.call hb6
  obtain ⟨c6, f6⟩ := o6.facts
  have HB6 := Lib.hid (below_then HB5.out hb6)
  have p6 := (hb6.cell (p := ⟨q, 2, none⟩) q5).trans p5
  have r6 := (hb6.cell (p := ⟨q, 3, none⟩) q5).trans r5
  have q6 : q < w6.heap.size := Nat.lt_of_lt_of_le q5 hb6.size
  clear o5 c5 f5 HB5 hb6 p5 r5 q5
  rw [sure1_count]
  go_wp2_with fail
  refine (next_any sure1F 100 (by omega) (by omega) _).mono ?_
  rintro e7 w7 ⟨rfl, hb7⟩
  have o7 := o6.call hb7
  obtain ⟨c7, f7⟩ := o7.facts
  have HB7 := Lib.hid (below_then HB6.out hb7)
  have p7 := (hb7.cell (p := ⟨q, 2, none⟩) q6).trans p6
  have r7 := (hb7.cell (p := ⟨q, 3, none⟩) q6).trans r6
  have q7 : q < w7.heap.size := Nat.lt_of_lt_of_le q6 hb7.size
  clear o6 c6 f6 HB6 hb7 p6 r6 q6
  rw [sure1_next]
  go_wp2_with fail
  refine (next_any sure1F 121 (by omega) (by omega) _).mono ?_
  rintro e8 w8 ⟨rfl, hb8⟩
  have o8 := o7.call hb8
  obtain ⟨c8, f8⟩ := o8.facts
  have HB8 := Lib.hid (below_then HB7.out hb8)
  have p8 := (hb8.cell (p := ⟨q, 2, none⟩) q7).trans p7
  have r8 := (hb8.cell (p := ⟨q, 3, none⟩) q7).trans r7
  have q8 : q < w8.heap.size := Nat.lt_of_lt_of_le q7 hb8.size
  clear o7 c7 f7 HB7 hb8 p7 r7 q7
  rw [sure1_none]
  go_wp2
  go_ret
  exact ⟨rfl, HB8.out⟩
end Go.Proofs.Ythppilfojicfdaa
