/- The statements of stage 3, walked: what must come whatever the input is. -/
import Derived.Test.YthppilfojicfdaaProg
import Derived.WalkKit
import Derived.WalkSpells
import Derived.WalkLawsBesides
import Derived.Handy
import Derived.Lib.Hide
import Derived.Test.YthppilfojicfdaaBrkC
import Derived.Test.YthppilfojicfdaaBsetC
namespace Go.Proofs.Ythppilfojicfdaa
open Go.RowKit SetP BrkP
def t1 : ByteArray := ⟨#[120, 91, 97, 45, 99, 91, 58, 100, 105, 103, 105, 116, 58, 93, 93]⟩
def t2 : ByteArray := ⟨#[91, 122, 45, 97, 93]⟩
def t3 : ByteArray := ⟨#[91, 91, 58, 102, 111, 111]⟩
theorem t1_stop : (readB t1 1).stop = 15 := by decide +kernel
theorem t1_err : (readB t1 1).err = 0 := by decide +kernel
theorem t1_place : (readB t1 1).place = 0 := by decide +kernel
theorem t1_count : (bytesF (readB t1 1).set).length = 13 := by decide +kernel
theorem t2_err : (readB t2 0).err = 4 := by decide +kernel
theorem t2_place : (readB t2 0).place = 4 := by decide +kernel
theorem t3_err : (readB t3 0).err = 5 := by decide +kernel
theorem t3_place : (readB t3 0).place = 4 := by decide +kernel
def s13 : Nat → Bool := (readB t1 1).set
theorem c1_any (w : World) : Calls Try.prog 47 #[.string ⟨#[120, 91, 97, 45, 99, 91, 58, 100, 105, 103, 105, 116, 58, 93, 93]⟩, .int .i64 1] w fun e w' => e = .returned (.tuple #[setV s13, .int .i64 15, .int .i64 0, .int .i64 0]) ∧ Below w.heap.size w w' := by
  have h := bread_any t1 1 (by decide) w
  unfold bresV at h
  rw [t1_stop, t1_err, t1_place] at h
  exact h
theorem c2_any (w : World) : Calls Try.prog 47 #[.string ⟨#[91, 122, 45, 97, 93]⟩, .int .i64 0] w fun e w' => ∃ f n, e = .returned (.tuple #[setV f, .int .i64 n, .int .i64 4, .int .i64 4]) ∧ Below w.heap.size w w' := by
  have h := bread_any t2 0 (by decide) w
  unfold bresV at h
  rw [t2_err, t2_place] at h
  exact h.mono fun _ _ ⟨he, hb⟩ => ⟨_, _, he, hb⟩
theorem c3_any (w : World) : Calls Try.prog 47 #[.string ⟨#[91, 91, 58, 102, 111, 111]⟩, .int .i64 0] w fun e w' => ∃ f n, e = .returned (.tuple #[setV f, .int .i64 n, .int .i64 5, .int .i64 4]) ∧ Below w.heap.size w w' := by
  have h := bread_any t3 0 (by decide) w
  unfold bresV at h
  rw [t3_err, t3_place] at h
  exact h.mono fun _ _ ⟨he, hb⟩ => ⟨_, _, he, hb⟩
set_option maxRecDepth 100000 in
set_option maxHeartbeats 2000000 in
theorem sure3_any (w : World) : Calls Try.prog 46 #[] w fun e w' => e = .returned (.bool true) ∧ Below w.heap.size w w' := by
  go_enter Try.func46, Try.ntmps46
  go_wp2_with fail
  refine (c1_any _).mono ?_
  rintro e1 w1 ⟨rfl, hb1⟩
  have o1 : Slab (w1.alloc (.cells (cells4 s13) 24)) w1.heap.size (cells4 s13) 24 := Slab.new _ _ _
  have HB1 := Lib.hid (hb1.alloc hb1.size (.cells (cells4 s13) 24))
  clear hb1
  go_wp2_with fail
  refine (c2_any _).mono ?_
  rintro e2 w2 ⟨f2, n2, rfl, hb2⟩
  have o2 := (o1.call hb2).alloc (.cells (cells4 f2) 24)
  have HB2' := below_then HB1.out hb2
  have HB2 := Lib.hid (HB2'.alloc HB2'.size (.cells (cells4 f2) 24))
  clear hb2 HB1 HB2' o1
  go_wp2_with fail
  refine (c3_any _).mono ?_
  rintro e3 w3 ⟨f3, n3, rfl, hb3⟩
  have o3 := (o2.call hb3).alloc (.cells (cells4 f3) 24)
  have HB3' := below_then HB2.out hb3
  have HB3 := Lib.hid (HB3'.alloc HB3'.size (.cells (cells4 f3) 24))
  clear hb3 HB2 HB3' o2
  obtain ⟨c3, f3⟩ := Slab.facts (o3)
  go_wp2_with fail
  refine (count_any s13 _).mono ?_
  rintro e4 w4 ⟨rfl, hb4⟩
  rw [show (bytesF s13).length = 13 from t1_count]
  have HB4 := below_then HB3.out hb4
  go_wp2
  go_ret
  exact ⟨rfl, HB4⟩
end Go.Proofs.Ythppilfojicfdaa
