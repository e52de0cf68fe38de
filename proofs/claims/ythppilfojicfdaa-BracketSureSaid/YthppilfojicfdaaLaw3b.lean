/- BracketSure, walked. -/
import Derived.Test.YthppilfojicfdaaProg
import Derived.WalkKit
import Derived.WalkSpells
import Derived.WalkLawsBesides
import Derived.Handy
import Derived.Lib.Hide
import Derived.Test.YthppilfojicfdaaLaw3
import Derived.Test.YthppilfojicfdaaBrkQ
import Derived.Test.YthppilfojicfdaaEqA
import Derived.Deep.QuietTactic
import Derived.BigQuiet
namespace Go.Proofs.Ythppilfojicfdaa
open Go.RowKit SetP BrkP
attribute [local go_sem] run_eq_set
set_option maxRecDepth 100000 in
set_option maxHeartbeats 2000000 in
theorem surek_any (s : ByteArray) (i : Int) (more : ByteArray) (w : World) :
    Calls Try.prog 12 #[.string s, .int .i64 i, .string more] w fun e w' => e = .returned (.bool true) ∧ Below w.heap.size w w' := by
  cases h : decide (400 < (s.size : Int)) with
  | true =>
    go_enter Try.func12, Try.ntmps12
    go_wp2_with fail
    refine (sure3_any _).mono ?_
    rintro e1 w1 ⟨rfl, hb1⟩
    go_wp2
    go_ret
    exact ⟨rfl, hb1⟩
  | false =>
  cases h2 : decide (100 < (more.size : Int)) with
  | true =>
    go_enter Try.func12, Try.ntmps12
    go_wp2_with fail
    refine (sure3_any _).mono ?_
    rintro e1 w1 ⟨rfl, hb1⟩
    go_wp2
    go_ret
    exact ⟨rfl, hb1⟩
  | false =>
  have hs : s.size ≤ 400 := by simp at h; omega
  have hm : more.size ≤ 100 := by simp at h2; omega
  have C1 := bread_any s i (by omega)
  rcases readB_cases s i with ⟨f, t, hr, hlo, ht, hi0⟩ | ⟨hr, hpos⟩ | ⟨er, t, he, hr, hlo, ht, hi0⟩ | hr
  · have hsame : same f f = true := same_iff.2 fun _ _ => rfl
    have hU : readB (s.extract 0 t ++ more) i = ⟨f, (t : Int), 0, 0⟩ := by
      have h := readB_alike (alike_cut s more t ht) i hi0 hlo (by rw [hr]; simp <;> omega)
      rw [h, hr]
    have C2 := bread_any (s.extract 0 t ++ more) i (by rw [ByteArray.size_append']; simp; omega)
    rw [hU] at C2
    rw [hr] at C1
    clear hU hr
    have d1 : decide ((t : Int) ≤ i) = false := by simpa using hlo
    have d2 : decide (s.size < t) = false := by simpa using ht
    go_enter Try.func12, Try.ntmps12
    go_wp2_with fail
    refine (C1 _).mono ?_
    rintro e1 w1 ⟨rfl, hb1⟩
    have o1 : Slab (w1.alloc (.cells (cells4 (f)) 24)) w1.heap.size (cells4 (f)) 24 := Slab.new _ _ _
    have HB1 := Lib.hid (hb1.alloc hb1.size (.cells (cells4 (f)) 24))
    clear hb1
    obtain ⟨c1, f1⟩ := Slab.facts (o1)
    go_wp2_with fail
    refine (C2 _).mono ?_
    rintro e3 w3 ⟨rfl, hb3⟩
    have o3 := (o1.call hb3).alloc (.cells (cells4 (f)) 24)
    have HB3' := below_then HB1.out hb3
    have HB3 := Lib.hid (HB3'.alloc HB3'.size (.cells (cells4 (f)) 24))
    clear hb3 o1 HB1 c1 f1 HB3'
    obtain ⟨c3, f3⟩ := Slab.facts (o3)
    go_wp2_with fail
    refine (sure3_any _).mono ?_
    rintro e4 w4 ⟨rfl, hb4⟩
    have HB4 := below_then HB3.out hb4
    go_wp2
    go_ret
    exact ⟨rfl, HB4⟩
  · have d1 : ((s.size : Int) == 0) = false := beq_eq_false_iff_ne.2 (by omega)
    have d3 : (s.size == 0) = false := beq_eq_false_iff_ne.2 (by omega)
    go_enter Try.func12, Try.ntmps12
    rw [hr] at C1
    clear hr
    go_wp2_with fail
    refine (C1 _).mono ?_
    rintro e1 w1 ⟨rfl, hb1⟩
    have HB1 := Lib.hid (hb1.alloc hb1.size (.cells (cells4 fun _ => false) 24))
    clear hb1
    go_wp2_with fail
    refine (sure3_any _).mono ?_
    rintro e4 w4 ⟨rfl, hb4⟩
    have HB4 := below_then HB1.out hb4
    go_wp2
    go_ret
    exact ⟨rfl, HB4⟩
  · have hsame : same (fun _ => false) (fun _ => false) = true := same_iff.2 fun _ _ => rfl
    have hU : readB (s.extract 0 t ++ more) i = ⟨fun _ => false, 0, er, (t : Int)⟩ := by
      have h := readB_alike (alike_cut s more t ht) i hi0 hlo (by rw [hr]; simp <;> omega)
      rw [h, hr]
    have C2 := bread_any (s.extract 0 t ++ more) i (by rw [ByteArray.size_append']; simp; omega)
    rw [hU] at C2
    rw [hr] at C1
    clear hU hr
    have d1 : decide ((t : Int) < 0) = false := by simp
    have d2 : decide (s.size < t) = false := by simpa using ht
    rcases he with rfl | rfl | rfl
    · go_enter Try.func12, Try.ntmps12
      go_wp2_with fail
      refine (C1 _).mono ?_
      rintro e1 w1 ⟨rfl, hb1⟩
      have o1 : Slab (w1.alloc (.cells (cells4 (fun _ => false)) 24)) w1.heap.size (cells4 (fun _ => false)) 24 := Slab.new _ _ _
      have HB1 := Lib.hid (hb1.alloc hb1.size (.cells (cells4 (fun _ => false)) 24))
      clear hb1
      obtain ⟨c1, f1⟩ := Slab.facts (o1)
      go_wp2_with fail
      refine (C2 _).mono ?_
      rintro e3 w3 ⟨rfl, hb3⟩
      have o3 := (o1.call hb3).alloc (.cells (cells4 (fun _ => false)) 24)
      have HB3' := below_then HB1.out hb3
      have HB3 := Lib.hid (HB3'.alloc HB3'.size (.cells (cells4 (fun _ => false)) 24))
      clear hb3 o1 HB1 c1 f1 HB3'
      obtain ⟨c3, f3⟩ := Slab.facts (o3)
      go_wp2_with fail
      refine (sure3_any _).mono ?_
      rintro e4 w4 ⟨rfl, hb4⟩
      have HB4 := below_then HB3.out hb4
      go_wp2
      go_ret
      exact ⟨rfl, HB4⟩
    · go_enter Try.func12, Try.ntmps12
      go_wp2_with fail
      refine (C1 _).mono ?_
      rintro e1 w1 ⟨rfl, hb1⟩
      have o1 : Slab (w1.alloc (.cells (cells4 (fun _ => false)) 24)) w1.heap.size (cells4 (fun _ => false)) 24 := Slab.new _ _ _
      have HB1 := Lib.hid (hb1.alloc hb1.size (.cells (cells4 (fun _ => false)) 24))
      clear hb1
      obtain ⟨c1, f1⟩ := Slab.facts (o1)
      go_wp2_with fail
      refine (C2 _).mono ?_
      rintro e3 w3 ⟨rfl, hb3⟩
      have o3 := (o1.call hb3).alloc (.cells (cells4 (fun _ => false)) 24)
      have HB3' := below_then HB1.out hb3
      have HB3 := Lib.hid (HB3'.alloc HB3'.size (.cells (cells4 (fun _ => false)) 24))
      clear hb3 o1 HB1 c1 f1 HB3'
      obtain ⟨c3, f3⟩ := Slab.facts (o3)
      go_wp2_with fail
      refine (sure3_any _).mono ?_
      rintro e4 w4 ⟨rfl, hb4⟩
      have HB4 := below_then HB3.out hb4
      go_wp2
      go_ret
      exact ⟨rfl, HB4⟩
    · go_enter Try.func12, Try.ntmps12
      go_wp2_with fail
      refine (C1 _).mono ?_
      rintro e1 w1 ⟨rfl, hb1⟩
      have o1 : Slab (w1.alloc (.cells (cells4 (fun _ => false)) 24)) w1.heap.size (cells4 (fun _ => false)) 24 := Slab.new _ _ _
      have HB1 := Lib.hid (hb1.alloc hb1.size (.cells (cells4 (fun _ => false)) 24))
      clear hb1
      obtain ⟨c1, f1⟩ := Slab.facts (o1)
      go_wp2_with fail
      refine (C2 _).mono ?_
      rintro e3 w3 ⟨rfl, hb3⟩
      have o3 := (o1.call hb3).alloc (.cells (cells4 (fun _ => false)) 24)
      have HB3' := below_then HB1.out hb3
      have HB3 := Lib.hid (HB3'.alloc HB3'.size (.cells (cells4 (fun _ => false)) 24))
      clear hb3 o1 HB1 c1 f1 HB3'
      obtain ⟨c3, f3⟩ := Slab.facts (o3)
      go_wp2_with fail
      refine (sure3_any _).mono ?_
      rintro e4 w4 ⟨rfl, hb4⟩
      have HB4 := below_then HB3.out hb4
      go_wp2
      go_ret
      exact ⟨rfl, HB4⟩
  · have hs' := Lib.hid hs
    have hm' := Lib.hid hm
    clear hs hm
    go_enter Try.func12, Try.ntmps12
    rw [hr] at C1
    clear hr
    go_wp2_with fail
    refine (C1 _).mono ?_
    rintro e1 w1 ⟨rfl, hb1⟩
    have HB1 := Lib.hid (hb1.alloc hb1.size (.cells (cells4 fun _ => false) 24))
    clear hb1
    go_wp2_with fail
    refine (sure3_any _).mono ?_
    rintro e4 w4 ⟨rfl, hb4⟩
    have HB4 := below_then HB1.out hb4
    go_wp2
    go_ret
    exact ⟨rfl, HB4⟩
end Go.Proofs.Ythppilfojicfdaa
