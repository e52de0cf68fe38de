/- ClassWithin, walked. -/
import Derived.Test.YthppilfojicfdaaProg
import Derived.WalkKit
import Derived.WalkSpells
import Derived.WalkLawsBesides
import Derived.Handy
import Derived.Lib.Hide
import Derived.Test.YthppilfojicfdaaLaw2
namespace Go.Proofs.Ythppilfojicfdaa
open Go.RowKit SetP Go.Sort
attribute [local go_sem] run_eq_set run_eq_set0

set_option maxRecDepth 100000 in
set_option maxHeartbeats 2000000 in
theorem lis_any (k : Nat) (hk : k < 12) (b : Int) (hb0 : 0 ≤ b) (hb1 : b < 256) (w : World) :
    Calls Try.prog 45 #[.string (nm k), .int .u8 b] w fun e w' => e = .returned (.bool (cls k b.toNat)) ∧ Below w.heap.size w w' := by
  have C := of_any (nm k)
  rw [ofV_nm k hk] at C
  go_enter Try.func45, Try.ntmps45
  go_wp2_with fail
  refine (C _).mono ?_
  rintro e1 w1 ⟨rfl, hb1⟩
  have o1 : Slab (w1.alloc (.cells (cells4 (cls k)) 24)) w1.heap.size (cells4 (cls k)) 24 := Slab.new _ _ _
  have HB1 := Lib.hid (hb1.alloc hb1.size (.cells (cells4 (cls k)) 24))
  clear hb1
  obtain ⟨c1, f1⟩ := Slab.facts (o1)
  go_wp2_with fail
  refine (has_any (cls k) b hb0 (by assumption) _).mono ?_
  rintro e2 w2 ⟨rfl, hb2⟩
  have HB2 := below_then HB1.out hb2
  go_wp2
  go_ret
  exact ⟨rfl, HB2⟩
/-- What the classes say of a byte. -/
def vec (n : Nat) : List Bool := [alnumF n, alphaF n, blankF n, cntrlF n, digitF n, graphF n, lowerF n, printF n, spaceF n, upperF n, xdigitF n, decide (n = 32)]
def combos : List (List Bool) :=
  [[true, true, false, false, false, true, true, true, false, false, true, false], [true, true, false, false, false, true, true, true, false, false, false, false],
   [true, true, false, false, false, true, false, true, false, true, true, false], [true, true, false, false, false, true, false, true, false, true, false, false],
   [true, false, false, false, true, true, false, true, false, false, true, false], [false, false, false, false, false, true, false, true, false, false, false, false],
   [false, false, true, false, false, false, false, true, true, false, false, true], [false, false, true, true, false, false, false, false, true, false, false, false],
   [false, false, false, true, false, false, false, false, true, false, false, false], [false, false, false, true, false, false, false, false, false, false, false, false],
   [false, false, false, false, false, false, false, false, false, false, false, false]]
theorem vec_in (n : Nat) (h : n < 256) : vec n ∈ combos := by
  have H : ∀ n, n < 256 → (combos.contains (vec n)) = true := by decide +kernel
  have := H n h
  simpa using this
theorem lis_v (k : Nat) (hk : k < 12) (b : Int) (hb0 : 0 ≤ b) (hb1 : b < 256) (v : Bool) (hv : Hid (cls k b.toNat = v)) (w : World) :
    Calls Try.prog 45 #[.string (nm k), .int .u8 b] w fun e w' => e = .returned (.bool v) ∧ Below w.heap.size w w' := by
  rw [← hv.out]; exact lis_any k hk b hb0 hb1 w
theorem has255 (b : Int) (hb0 : 0 ≤ b) (hb1 : b < 256) (w : World) : Calls Try.prog 26 #[setV (rangeF 0 255), .int .u8 b] w fun e w' => e = .returned (.bool true) ∧ Below w.heap.size w w' := by
  have hany : rangeF 0 255 b.toNat = true := by unfold rangeF; simp; omega
  have := has_any (rangeF 0 255) b hb0 hb1 w
  rwa [hany] at this
theorem lis_0 (b : Int) (hb0 : 0 ≤ b) (hb1 : b < 256) (v : Bool) (hv : Hid (cls 0 b.toNat = v)) (w : World) :
    Calls Try.prog 45 #[.string ⟨#[97, 108, 110, 117, 109]⟩, .int .u8 b] w fun e w' => e = .returned (.bool v) ∧ Below w.heap.size w w' := lis_v 0 (by decide) b hb0 hb1 v hv w
theorem lis_1 (b : Int) (hb0 : 0 ≤ b) (hb1 : b < 256) (v : Bool) (hv : Hid (cls 1 b.toNat = v)) (w : World) :
    Calls Try.prog 45 #[.string ⟨#[97, 108, 112, 104, 97]⟩, .int .u8 b] w fun e w' => e = .returned (.bool v) ∧ Below w.heap.size w w' := lis_v 1 (by decide) b hb0 hb1 v hv w
theorem lis_2 (b : Int) (hb0 : 0 ≤ b) (hb1 : b < 256) (v : Bool) (hv : Hid (cls 2 b.toNat = v)) (w : World) :
    Calls Try.prog 45 #[.string ⟨#[98, 108, 97, 110, 107]⟩, .int .u8 b] w fun e w' => e = .returned (.bool v) ∧ Below w.heap.size w w' := lis_v 2 (by decide) b hb0 hb1 v hv w
theorem lis_3 (b : Int) (hb0 : 0 ≤ b) (hb1 : b < 256) (v : Bool) (hv : Hid (cls 3 b.toNat = v)) (w : World) :
    Calls Try.prog 45 #[.string ⟨#[99, 110, 116, 114, 108]⟩, .int .u8 b] w fun e w' => e = .returned (.bool v) ∧ Below w.heap.size w w' := lis_v 3 (by decide) b hb0 hb1 v hv w
theorem lis_4 (b : Int) (hb0 : 0 ≤ b) (hb1 : b < 256) (v : Bool) (hv : Hid (cls 4 b.toNat = v)) (w : World) :
    Calls Try.prog 45 #[.string ⟨#[100, 105, 103, 105, 116]⟩, .int .u8 b] w fun e w' => e = .returned (.bool v) ∧ Below w.heap.size w w' := lis_v 4 (by decide) b hb0 hb1 v hv w
theorem lis_5 (b : Int) (hb0 : 0 ≤ b) (hb1 : b < 256) (v : Bool) (hv : Hid (cls 5 b.toNat = v)) (w : World) :
    Calls Try.prog 45 #[.string ⟨#[103, 114, 97, 112, 104]⟩, .int .u8 b] w fun e w' => e = .returned (.bool v) ∧ Below w.heap.size w w' := lis_v 5 (by decide) b hb0 hb1 v hv w
theorem lis_6 (b : Int) (hb0 : 0 ≤ b) (hb1 : b < 256) (v : Bool) (hv : Hid (cls 6 b.toNat = v)) (w : World) :
    Calls Try.prog 45 #[.string ⟨#[108, 111, 119, 101, 114]⟩, .int .u8 b] w fun e w' => e = .returned (.bool v) ∧ Below w.heap.size w w' := lis_v 6 (by decide) b hb0 hb1 v hv w
theorem lis_7 (b : Int) (hb0 : 0 ≤ b) (hb1 : b < 256) (v : Bool) (hv : Hid (cls 7 b.toNat = v)) (w : World) :
    Calls Try.prog 45 #[.string ⟨#[112, 114, 105, 110, 116]⟩, .int .u8 b] w fun e w' => e = .returned (.bool v) ∧ Below w.heap.size w w' := lis_v 7 (by decide) b hb0 hb1 v hv w
theorem lis_9 (b : Int) (hb0 : 0 ≤ b) (hb1 : b < 256) (v : Bool) (hv : Hid (cls 9 b.toNat = v)) (w : World) :
    Calls Try.prog 45 #[.string ⟨#[115, 112, 97, 99, 101]⟩, .int .u8 b] w fun e w' => e = .returned (.bool v) ∧ Below w.heap.size w w' := lis_v 9 (by decide) b hb0 hb1 v hv w
theorem lis_10 (b : Int) (hb0 : 0 ≤ b) (hb1 : b < 256) (v : Bool) (hv : Hid (cls 10 b.toNat = v)) (w : World) :
    Calls Try.prog 45 #[.string ⟨#[117, 112, 112, 101, 114]⟩, .int .u8 b] w fun e w' => e = .returned (.bool v) ∧ Below w.heap.size w w' := lis_v 10 (by decide) b hb0 hb1 v hv w
theorem lis_11 (b : Int) (hb0 : 0 ≤ b) (hb1 : b < 256) (v : Bool) (hv : Hid (cls 11 b.toNat = v)) (w : World) :
    Calls Try.prog 45 #[.string ⟨#[120, 100, 105, 103, 105, 116]⟩, .int .u8 b] w fun e w' => e = .returned (.bool v) ∧ Below w.heap.size w w' := lis_v 11 (by decide) b hb0 hb1 v hv w
set_option maxRecDepth 100000 in
set_option maxHeartbeats 800000 in
theorem within_0 (b : Int) (hb0 : 0 ≤ b) (hb1 : b < 256) (h : vec b.toNat = [true, true, false, false, false, true, true, true, false, false, true, false]) (w : World) :
    Calls Try.prog 10 #[.int .u8 b] w fun e w' => e = .returned (.bool true) ∧ Below w.heap.size w w' := by
  simp only [vec, List.cons.injEq, and_true] at h
  obtain ⟨e0, e1, e2, e3, e4, e5, e6, e7, e9, e10, e11, e12⟩ := h
  have E0 : Hid (cls 0 b.toNat = _) := e0; clear e0
  have E1 : Hid (cls 1 b.toNat = _) := e1; clear e1
  have E2 : Hid (cls 2 b.toNat = _) := e2; clear e2
  have E3 : Hid (cls 3 b.toNat = _) := e3; clear e3
  have E4 : Hid (cls 4 b.toNat = _) := e4; clear e4
  have E5 : Hid (cls 5 b.toNat = _) := e5; clear e5
  have E6 : Hid (cls 6 b.toNat = _) := e6; clear e6
  have E7 : Hid (cls 7 b.toNat = _) := e7; clear e7
  have E9 : Hid (cls 9 b.toNat = _) := e9; clear e9
  have E10 : Hid (cls 10 b.toNat = _) := e10; clear e10
  have E11 : Hid (cls 11 b.toNat = _) := e11; clear e11
  have e13 : (b == 32) = false := by simp at e12 ⊢; omega
  clear e12
  have HB := Lib.hid (Below.refl w.heap.size w)
  go_enter Try.func10, Try.ntmps10
  go_wp2_with (first | (go_at_call 45; (first | (with_reducible refine (lis_0 b hb0 hb1 true E0 _).mono ?_) | (with_reducible refine (lis_1 b hb0 hb1 true E1 _).mono ?_) | (with_reducible refine (lis_2 b hb0 hb1 false E2 _).mono ?_) | (with_reducible refine (lis_3 b hb0 hb1 false E3 _).mono ?_) | (with_reducible refine (lis_4 b hb0 hb1 false E4 _).mono ?_) | (with_reducible refine (lis_5 b hb0 hb1 true E5 _).mono ?_) | (with_reducible refine (lis_6 b hb0 hb1 true E6 _).mono ?_) | (with_reducible refine (lis_7 b hb0 hb1 true E7 _).mono ?_) | (with_reducible refine (lis_9 b hb0 hb1 false E9 _).mono ?_) | (with_reducible refine (lis_10 b hb0 hb1 false E10 _).mono ?_) | (with_reducible refine (lis_11 b hb0 hb1 true E11 _).mono ?_)); rintro e1 w1 ⟨rfl, hb1⟩; replace HB := Lib.hid (below_then (by first | exact HB.out | exact HB.out.drew | exact below_drewN HB.out _) hb1); clear hb1) | (go_at_call 44; refine (anyset_any _).mono ?_; rintro e1 w1 ⟨rfl, hb1⟩; replace HB := Lib.hid (below_then (by first | exact HB.out | exact HB.out.drew | exact below_drewN HB.out _) hb1); clear hb1) | (go_at_call 26; refine (has255 b hb0 hb1 _).mono ?_; rintro e1 w1 ⟨rfl, hb1⟩; replace HB := Lib.hid (below_then (by first | exact HB.out | exact HB.out.drew | exact below_drewN HB.out _) hb1); clear hb1) | (go_at_call 36; refine (sure2_any _).mono ?_; rintro e1 w1 ⟨rfl, hb1⟩; replace HB := Lib.hid (below_then (by first | exact HB.out | exact HB.out.drew | exact below_drewN HB.out _) hb1); clear hb1))
  go_ret
  exact ⟨rfl, (by first | exact HB.out | exact HB.out.drew | exact below_drewN HB.out _)⟩
set_option maxRecDepth 100000 in
set_option maxHeartbeats 800000 in
theorem within_1 (b : Int) (hb0 : 0 ≤ b) (hb1 : b < 256) (h : vec b.toNat = [true, true, false, false, false, true, true, true, false, false, false, false]) (w : World) :
    Calls Try.prog 10 #[.int .u8 b] w fun e w' => e = .returned (.bool true) ∧ Below w.heap.size w w' := by
  simp only [vec, List.cons.injEq, and_true] at h
  obtain ⟨e0, e1, e2, e3, e4, e5, e6, e7, e9, e10, e11, e12⟩ := h
  have E0 : Hid (cls 0 b.toNat = _) := e0; clear e0
  have E1 : Hid (cls 1 b.toNat = _) := e1; clear e1
  have E2 : Hid (cls 2 b.toNat = _) := e2; clear e2
  have E3 : Hid (cls 3 b.toNat = _) := e3; clear e3
  have E4 : Hid (cls 4 b.toNat = _) := e4; clear e4
  have E5 : Hid (cls 5 b.toNat = _) := e5; clear e5
  have E6 : Hid (cls 6 b.toNat = _) := e6; clear e6
  have E7 : Hid (cls 7 b.toNat = _) := e7; clear e7
  have E9 : Hid (cls 9 b.toNat = _) := e9; clear e9
  have E10 : Hid (cls 10 b.toNat = _) := e10; clear e10
  have E11 : Hid (cls 11 b.toNat = _) := e11; clear e11
  have e13 : (b == 32) = false := by simp at e12 ⊢; omega
  clear e12
  have HB := Lib.hid (Below.refl w.heap.size w)
  go_enter Try.func10, Try.ntmps10
  go_wp2_with (first | (go_at_call 45; (first | (with_reducible refine (lis_0 b hb0 hb1 true E0 _).mono ?_) | (with_reducible refine (lis_1 b hb0 hb1 true E1 _).mono ?_) | (with_reducible refine (lis_2 b hb0 hb1 false E2 _).mono ?_) | (with_reducible refine (lis_3 b hb0 hb1 false E3 _).mono ?_) | (with_reducible refine (lis_4 b hb0 hb1 false E4 _).mono ?_) | (with_reducible refine (lis_5 b hb0 hb1 true E5 _).mono ?_) | (with_reducible refine (lis_6 b hb0 hb1 true E6 _).mono ?_) | (with_reducible refine (lis_7 b hb0 hb1 true E7 _).mono ?_) | (with_reducible refine (lis_9 b hb0 hb1 false E9 _).mono ?_) | (with_reducible refine (lis_10 b hb0 hb1 false E10 _).mono ?_) | (with_reducible refine (lis_11 b hb0 hb1 false E11 _).mono ?_)); rintro e1 w1 ⟨rfl, hb1⟩; replace HB := Lib.hid (below_then (by first | exact HB.out | exact HB.out.drew | exact below_drewN HB.out _) hb1); clear hb1) | (go_at_call 44; refine (anyset_any _).mono ?_; rintro e1 w1 ⟨rfl, hb1⟩; replace HB := Lib.hid (below_then (by first | exact HB.out | exact HB.out.drew | exact below_drewN HB.out _) hb1); clear hb1) | (go_at_call 26; refine (has255 b hb0 hb1 _).mono ?_; rintro e1 w1 ⟨rfl, hb1⟩; replace HB := Lib.hid (below_then (by first | exact HB.out | exact HB.out.drew | exact below_drewN HB.out _) hb1); clear hb1) | (go_at_call 36; refine (sure2_any _).mono ?_; rintro e1 w1 ⟨rfl, hb1⟩; replace HB := Lib.hid (below_then (by first | exact HB.out | exact HB.out.drew | exact below_drewN HB.out _) hb1); clear hb1))
  go_ret
  exact ⟨rfl, (by first | exact HB.out | exact HB.out.drew | exact below_drewN HB.out _)⟩
set_option maxRecDepth 100000 in
set_option maxHeartbeats 800000 in
theorem within_2 (b : Int) (hb0 : 0 ≤ b) (hb1 : b < 256) (h : vec b.toNat = [true, true, false, false, false, true, false, true, false, true, true, false]) (w : World) :
    Calls Try.prog 10 #[.int .u8 b] w fun e w' => e = .returned (.bool true) ∧ Below w.heap.size w w' := by
  simp only [vec, List.cons.injEq, and_true] at h
  obtain ⟨e0, e1, e2, e3, e4, e5, e6, e7, e9, e10, e11, e12⟩ := h
  have E0 : Hid (cls 0 b.toNat = _) := e0; clear e0
  have E1 : Hid (cls 1 b.toNat = _) := e1; clear e1
  have E2 : Hid (cls 2 b.toNat = _) := e2; clear e2
  have E3 : Hid (cls 3 b.toNat = _) := e3; clear e3
  have E4 : Hid (cls 4 b.toNat = _) := e4; clear e4
  have E5 : Hid (cls 5 b.toNat = _) := e5; clear e5
  have E6 : Hid (cls 6 b.toNat = _) := e6; clear e6
  have E7 : Hid (cls 7 b.toNat = _) := e7; clear e7
  have E9 : Hid (cls 9 b.toNat = _) := e9; clear e9
  have E10 : Hid (cls 10 b.toNat = _) := e10; clear e10
  have E11 : Hid (cls 11 b.toNat = _) := e11; clear e11
  have e13 : (b == 32) = false := by simp at e12 ⊢; omega
  clear e12
  have HB := Lib.hid (Below.refl w.heap.size w)
  go_enter Try.func10, Try.ntmps10
  go_wp2_with (first | (go_at_call 45; (first | (with_reducible refine (lis_0 b hb0 hb1 true E0 _).mono ?_) | (with_reducible refine (lis_1 b hb0 hb1 true E1 _).mono ?_) | (with_reducible refine (lis_2 b hb0 hb1 false E2 _).mono ?_) | (with_reducible refine (lis_3 b hb0 hb1 false E3 _).mono ?_) | (with_reducible refine (lis_4 b hb0 hb1 false E4 _).mono ?_) | (with_reducible refine (lis_5 b hb0 hb1 true E5 _).mono ?_) | (with_reducible refine (lis_6 b hb0 hb1 false E6 _).mono ?_) | (with_reducible refine (lis_7 b hb0 hb1 true E7 _).mono ?_) | (with_reducible refine (lis_9 b hb0 hb1 false E9 _).mono ?_) | (with_reducible refine (lis_10 b hb0 hb1 true E10 _).mono ?_) | (with_reducible refine (lis_11 b hb0 hb1 true E11 _).mono ?_)); rintro e1 w1 ⟨rfl, hb1⟩; replace HB := Lib.hid (below_then (by first | exact HB.out | exact HB.out.drew | exact below_drewN HB.out _) hb1); clear hb1) | (go_at_call 44; refine (anyset_any _).mono ?_; rintro e1 w1 ⟨rfl, hb1⟩; replace HB := Lib.hid (below_then (by first | exact HB.out | exact HB.out.drew | exact below_drewN HB.out _) hb1); clear hb1) | (go_at_call 26; refine (has255 b hb0 hb1 _).mono ?_; rintro e1 w1 ⟨rfl, hb1⟩; replace HB := Lib.hid (below_then (by first | exact HB.out | exact HB.out.drew | exact below_drewN HB.out _) hb1); clear hb1) | (go_at_call 36; refine (sure2_any _).mono ?_; rintro e1 w1 ⟨rfl, hb1⟩; replace HB := Lib.hid (below_then (by first | exact HB.out | exact HB.out.drew | exact below_drewN HB.out _) hb1); clear hb1))
  go_ret
  exact ⟨rfl, (by first | exact HB.out | exact HB.out.drew | exact below_drewN HB.out _)⟩
set_option maxRecDepth 100000 in
set_option maxHeartbeats 800000 in
theorem within_3 (b : Int) (hb0 : 0 ≤ b) (hb1 : b < 256) (h : vec b.toNat = [true, true, false, false, false, true, false, true, false, true, false, false]) (w : World) :
    Calls Try.prog 10 #[.int .u8 b] w fun e w' => e = .returned (.bool true) ∧ Below w.heap.size w w' := by
  simp only [vec, List.cons.injEq, and_true] at h
  obtain ⟨e0, e1, e2, e3, e4, e5, e6, e7, e9, e10, e11, e12⟩ := h
  have E0 : Hid (cls 0 b.toNat = _) := e0; clear e0
  have E1 : Hid (cls 1 b.toNat = _) := e1; clear e1
  have E2 : Hid (cls 2 b.toNat = _) := e2; clear e2
  have E3 : Hid (cls 3 b.toNat = _) := e3; clear e3
  have E4 : Hid (cls 4 b.toNat = _) := e4; clear e4
  have E5 : Hid (cls 5 b.toNat = _) := e5; clear e5
  have E6 : Hid (cls 6 b.toNat = _) := e6; clear e6
  have E7 : Hid (cls 7 b.toNat = _) := e7; clear e7
  have E9 : Hid (cls 9 b.toNat = _) := e9; clear e9
  have E10 : Hid (cls 10 b.toNat = _) := e10; clear e10
  have E11 : Hid (cls 11 b.toNat = _) := e11; clear e11
  have e13 : (b == 32) = false := by simp at e12 ⊢; omega
  clear e12
  have HB := Lib.hid (Below.refl w.heap.size w)
  go_enter Try.func10, Try.ntmps10
  go_wp2_with (first | (go_at_call 45; (first | (with_reducible refine (lis_0 b hb0 hb1 true E0 _).mono ?_) | (with_reducible refine (lis_1 b hb0 hb1 true E1 _).mono ?_) | (with_reducible refine (lis_2 b hb0 hb1 false E2 _).mono ?_) | (with_reducible refine (lis_3 b hb0 hb1 false E3 _).mono ?_) | (with_reducible refine (lis_4 b hb0 hb1 false E4 _).mono ?_) | (with_reducible refine (lis_5 b hb0 hb1 true E5 _).mono ?_) | (with_reducible refine (lis_6 b hb0 hb1 false E6 _).mono ?_) | (with_reducible refine (lis_7 b hb0 hb1 true E7 _).mono ?_) | (with_reducible refine (lis_9 b hb0 hb1 false E9 _).mono ?_) | (with_reducible refine (lis_10 b hb0 hb1 true E10 _).mono ?_) | (with_reducible refine (lis_11 b hb0 hb1 false E11 _).mono ?_)); rintro e1 w1 ⟨rfl, hb1⟩; replace HB := Lib.hid (below_then (by first | exact HB.out | exact HB.out.drew | exact below_drewN HB.out _) hb1); clear hb1) | (go_at_call 44; refine (anyset_any _).mono ?_; rintro e1 w1 ⟨rfl, hb1⟩; replace HB := Lib.hid (below_then (by first | exact HB.out | exact HB.out.drew | exact below_drewN HB.out _) hb1); clear hb1) | (go_at_call 26; refine (has255 b hb0 hb1 _).mono ?_; rintro e1 w1 ⟨rfl, hb1⟩; replace HB := Lib.hid (below_then (by first | exact HB.out | exact HB.out.drew | exact below_drewN HB.out _) hb1); clear hb1) | (go_at_call 36; refine (sure2_any _).mono ?_; rintro e1 w1 ⟨rfl, hb1⟩; replace HB := Lib.hid (below_then (by first | exact HB.out | exact HB.out.drew | exact below_drewN HB.out _) hb1); clear hb1))
  go_ret
  exact ⟨rfl, (by first | exact HB.out | exact HB.out.drew | exact below_drewN HB.out _)⟩
set_option maxRecDepth 100000 in
set_option maxHeartbeats 800000 in
theorem within_4 (b : Int) (hb0 : 0 ≤ b) (hb1 : b < 256) (h : vec b.toNat = [true, false, false, false, true, true, false, true, false, false, true, false]) (w : World) :
    Calls Try.prog 10 #[.int .u8 b] w fun e w' => e = .returned (.bool true) ∧ Below w.heap.size w w' := by
  simp only [vec, List.cons.injEq, and_true] at h
  obtain ⟨e0, e1, e2, e3, e4, e5, e6, e7, e9, e10, e11, e12⟩ := h
  have E0 : Hid (cls 0 b.toNat = _) := e0; clear e0
  have E1 : Hid (cls 1 b.toNat = _) := e1; clear e1
  have E2 : Hid (cls 2 b.toNat = _) := e2; clear e2
  have E3 : Hid (cls 3 b.toNat = _) := e3; clear e3
  have E4 : Hid (cls 4 b.toNat = _) := e4; clear e4
  have E5 : Hid (cls 5 b.toNat = _) := e5; clear e5
  have E6 : Hid (cls 6 b.toNat = _) := e6; clear e6
  have E7 : Hid (cls 7 b.toNat = _) := e7; clear e7
  have E9 : Hid (cls 9 b.toNat = _) := e9; clear e9
  have E10 : Hid (cls 10 b.toNat = _) := e10; clear e10
  have E11 : Hid (cls 11 b.toNat = _) := e11; clear e11
  have e13 : (b == 32) = false := by simp at e12 ⊢; omega
  clear e12
  have HB := Lib.hid (Below.refl w.heap.size w)
  go_enter Try.func10, Try.ntmps10
  go_wp2_with (first | (go_at_call 45; (first | (with_reducible refine (lis_0 b hb0 hb1 true E0 _).mono ?_) | (with_reducible refine (lis_1 b hb0 hb1 false E1 _).mono ?_) | (with_reducible refine (lis_2 b hb0 hb1 false E2 _).mono ?_) | (with_reducible refine (lis_3 b hb0 hb1 false E3 _).mono ?_) | (with_reducible refine (lis_4 b hb0 hb1 true E4 _).mono ?_) | (with_reducible refine (lis_5 b hb0 hb1 true E5 _).mono ?_) | (with_reducible refine (lis_6 b hb0 hb1 false E6 _).mono ?_) | (with_reducible refine (lis_7 b hb0 hb1 true E7 _).mono ?_) | (with_reducible refine (lis_9 b hb0 hb1 false E9 _).mono ?_) | (with_reducible refine (lis_10 b hb0 hb1 false E10 _).mono ?_) | (with_reducible refine (lis_11 b hb0 hb1 true E11 _).mono ?_)); rintro e1 w1 ⟨rfl, hb1⟩; replace HB := Lib.hid (below_then (by first | exact HB.out | exact HB.out.drew | exact below_drewN HB.out _) hb1); clear hb1) | (go_at_call 44; refine (anyset_any _).mono ?_; rintro e1 w1 ⟨rfl, hb1⟩; replace HB := Lib.hid (below_then (by first | exact HB.out | exact HB.out.drew | exact below_drewN HB.out _) hb1); clear hb1) | (go_at_call 26; refine (has255 b hb0 hb1 _).mono ?_; rintro e1 w1 ⟨rfl, hb1⟩; replace HB := Lib.hid (below_then (by first | exact HB.out | exact HB.out.drew | exact below_drewN HB.out _) hb1); clear hb1) | (go_at_call 36; refine (sure2_any _).mono ?_; rintro e1 w1 ⟨rfl, hb1⟩; replace HB := Lib.hid (below_then (by first | exact HB.out | exact HB.out.drew | exact below_drewN HB.out _) hb1); clear hb1))
  go_ret
  exact ⟨rfl, (by first | exact HB.out | exact HB.out.drew | exact below_drewN HB.out _)⟩
set_option maxRecDepth 100000 in
set_option maxHeartbeats 800000 in
theorem within_5 (b : Int) (hb0 : 0 ≤ b) (hb1 : b < 256) (h : vec b.toNat = [false, false, false, false, false, true, false, true, false, false, false, false]) (w : World) :
    Calls Try.prog 10 #[.int .u8 b] w fun e w' => e = .returned (.bool true) ∧ Below w.heap.size w w' := by
  simp only [vec, List.cons.injEq, and_true] at h
  obtain ⟨e0, e1, e2, e3, e4, e5, e6, e7, e9, e10, e11, e12⟩ := h
  have E0 : Hid (cls 0 b.toNat = _) := e0; clear e0
  have E1 : Hid (cls 1 b.toNat = _) := e1; clear e1
  have E2 : Hid (cls 2 b.toNat = _) := e2; clear e2
  have E3 : Hid (cls 3 b.toNat = _) := e3; clear e3
  have E4 : Hid (cls 4 b.toNat = _) := e4; clear e4
  have E5 : Hid (cls 5 b.toNat = _) := e5; clear e5
  have E6 : Hid (cls 6 b.toNat = _) := e6; clear e6
  have E7 : Hid (cls 7 b.toNat = _) := e7; clear e7
  have E9 : Hid (cls 9 b.toNat = _) := e9; clear e9
  have E10 : Hid (cls 10 b.toNat = _) := e10; clear e10
  have E11 : Hid (cls 11 b.toNat = _) := e11; clear e11
  have e13 : (b == 32) = false := by simp at e12 ⊢; omega
  clear e12
  have HB := Lib.hid (Below.refl w.heap.size w)
  go_enter Try.func10, Try.ntmps10
  go_wp2_with (first | (go_at_call 45; (first | (with_reducible refine (lis_0 b hb0 hb1 false E0 _).mono ?_) | (with_reducible refine (lis_1 b hb0 hb1 false E1 _).mono ?_) | (with_reducible refine (lis_2 b hb0 hb1 false E2 _).mono ?_) | (with_reducible refine (lis_3 b hb0 hb1 false E3 _).mono ?_) | (with_reducible refine (lis_4 b hb0 hb1 false E4 _).mono ?_) | (with_reducible refine (lis_5 b hb0 hb1 true E5 _).mono ?_) | (with_reducible refine (lis_6 b hb0 hb1 false E6 _).mono ?_) | (with_reducible refine (lis_7 b hb0 hb1 true E7 _).mono ?_) | (with_reducible refine (lis_9 b hb0 hb1 false E9 _).mono ?_) | (with_reducible refine (lis_10 b hb0 hb1 false E10 _).mono ?_) | (with_reducible refine (lis_11 b hb0 hb1 false E11 _).mono ?_)); rintro e1 w1 ⟨rfl, hb1⟩; replace HB := Lib.hid (below_then (by first | exact HB.out | exact HB.out.drew | exact below_drewN HB.out _) hb1); clear hb1) | (go_at_call 44; refine (anyset_any _).mono ?_; rintro e1 w1 ⟨rfl, hb1⟩; replace HB := Lib.hid (below_then (by first | exact HB.out | exact HB.out.drew | exact below_drewN HB.out _) hb1); clear hb1) | (go_at_call 26; refine (has255 b hb0 hb1 _).mono ?_; rintro e1 w1 ⟨rfl, hb1⟩; replace HB := Lib.hid (below_then (by first | exact HB.out | exact HB.out.drew | exact below_drewN HB.out _) hb1); clear hb1) | (go_at_call 36; refine (sure2_any _).mono ?_; rintro e1 w1 ⟨rfl, hb1⟩; replace HB := Lib.hid (below_then (by first | exact HB.out | exact HB.out.drew | exact below_drewN HB.out _) hb1); clear hb1))
  go_ret
  exact ⟨rfl, (by first | exact HB.out | exact HB.out.drew | exact below_drewN HB.out _)⟩
set_option maxRecDepth 100000 in
set_option maxHeartbeats 800000 in
theorem within_6 (b : Int) (hb0 : 0 ≤ b) (hb1 : b < 256) (h : vec b.toNat = [false, false, true, false, false, false, false, true, true, false, false, true]) (w : World) :
    Calls Try.prog 10 #[.int .u8 b] w fun e w' => e = .returned (.bool true) ∧ Below w.heap.size w w' := by
  simp only [vec, List.cons.injEq, and_true] at h
  obtain ⟨e0, e1, e2, e3, e4, e5, e6, e7, e9, e10, e11, e12⟩ := h
  have E0 : Hid (cls 0 b.toNat = _) := e0; clear e0
  have E1 : Hid (cls 1 b.toNat = _) := e1; clear e1
  have E2 : Hid (cls 2 b.toNat = _) := e2; clear e2
  have E3 : Hid (cls 3 b.toNat = _) := e3; clear e3
  have E4 : Hid (cls 4 b.toNat = _) := e4; clear e4
  have E5 : Hid (cls 5 b.toNat = _) := e5; clear e5
  have E6 : Hid (cls 6 b.toNat = _) := e6; clear e6
  have E7 : Hid (cls 7 b.toNat = _) := e7; clear e7
  have E9 : Hid (cls 9 b.toNat = _) := e9; clear e9
  have E10 : Hid (cls 10 b.toNat = _) := e10; clear e10
  have E11 : Hid (cls 11 b.toNat = _) := e11; clear e11
  obtain rfl : b = 32 := by simp at e12; omega
  clear e12
  have HB := Lib.hid (Below.refl w.heap.size w)
  go_enter Try.func10, Try.ntmps10
  go_wp2_with (first | (go_at_call 45; (first | (with_reducible refine (lis_0 32 hb0 hb1 false E0 _).mono ?_) | (with_reducible refine (lis_1 32 hb0 hb1 false E1 _).mono ?_) | (with_reducible refine (lis_2 32 hb0 hb1 true E2 _).mono ?_) | (with_reducible refine (lis_3 32 hb0 hb1 false E3 _).mono ?_) | (with_reducible refine (lis_4 32 hb0 hb1 false E4 _).mono ?_) | (with_reducible refine (lis_5 32 hb0 hb1 false E5 _).mono ?_) | (with_reducible refine (lis_6 32 hb0 hb1 false E6 _).mono ?_) | (with_reducible refine (lis_7 32 hb0 hb1 true E7 _).mono ?_) | (with_reducible refine (lis_9 32 hb0 hb1 true E9 _).mono ?_) | (with_reducible refine (lis_10 32 hb0 hb1 false E10 _).mono ?_) | (with_reducible refine (lis_11 32 hb0 hb1 false E11 _).mono ?_)); rintro e1 w1 ⟨rfl, hb1⟩; replace HB := Lib.hid (below_then (by first | exact HB.out | exact HB.out.drew | exact below_drewN HB.out _) hb1); clear hb1) | (go_at_call 44; refine (anyset_any _).mono ?_; rintro e1 w1 ⟨rfl, hb1⟩; replace HB := Lib.hid (below_then (by first | exact HB.out | exact HB.out.drew | exact below_drewN HB.out _) hb1); clear hb1) | (go_at_call 26; refine (has255 32 hb0 hb1 _).mono ?_; rintro e1 w1 ⟨rfl, hb1⟩; replace HB := Lib.hid (below_then (by first | exact HB.out | exact HB.out.drew | exact below_drewN HB.out _) hb1); clear hb1) | (go_at_call 36; refine (sure2_any _).mono ?_; rintro e1 w1 ⟨rfl, hb1⟩; replace HB := Lib.hid (below_then (by first | exact HB.out | exact HB.out.drew | exact below_drewN HB.out _) hb1); clear hb1))
  go_ret
  exact ⟨rfl, (by first | exact HB.out | exact HB.out.drew | exact below_drewN HB.out _)⟩
set_option maxRecDepth 100000 in
set_option maxHeartbeats 800000 in
theorem within_7 (b : Int) (hb0 : 0 ≤ b) (hb1 : b < 256) (h : vec b.toNat = [false, false, true, true, false, false, false, false, true, false, false, false]) (w : World) :
    Calls Try.prog 10 #[.int .u8 b] w fun e w' => e = .returned (.bool true) ∧ Below w.heap.size w w' := by
  simp only [vec, List.cons.injEq, and_true] at h
  obtain ⟨e0, e1, e2, e3, e4, e5, e6, e7, e9, e10, e11, e12⟩ := h
  have E0 : Hid (cls 0 b.toNat = _) := e0; clear e0
  have E1 : Hid (cls 1 b.toNat = _) := e1; clear e1
  have E2 : Hid (cls 2 b.toNat = _) := e2; clear e2
  have E3 : Hid (cls 3 b.toNat = _) := e3; clear e3
  have E4 : Hid (cls 4 b.toNat = _) := e4; clear e4
  have E5 : Hid (cls 5 b.toNat = _) := e5; clear e5
  have E6 : Hid (cls 6 b.toNat = _) := e6; clear e6
  have E7 : Hid (cls 7 b.toNat = _) := e7; clear e7
  have E9 : Hid (cls 9 b.toNat = _) := e9; clear e9
  have E10 : Hid (cls 10 b.toNat = _) := e10; clear e10
  have E11 : Hid (cls 11 b.toNat = _) := e11; clear e11
  have e13 : (b == 32) = false := by simp at e12 ⊢; omega
  clear e12
  have HB := Lib.hid (Below.refl w.heap.size w)
  go_enter Try.func10, Try.ntmps10
  go_wp2_with (first | (go_at_call 45; (first | (with_reducible refine (lis_0 b hb0 hb1 false E0 _).mono ?_) | (with_reducible refine (lis_1 b hb0 hb1 false E1 _).mono ?_) | (with_reducible refine (lis_2 b hb0 hb1 true E2 _).mono ?_) | (with_reducible refine (lis_3 b hb0 hb1 true E3 _).mono ?_) | (with_reducible refine (lis_4 b hb0 hb1 false E4 _).mono ?_) | (with_reducible refine (lis_5 b hb0 hb1 false E5 _).mono ?_) | (with_reducible refine (lis_6 b hb0 hb1 false E6 _).mono ?_) | (with_reducible refine (lis_7 b hb0 hb1 false E7 _).mono ?_) | (with_reducible refine (lis_9 b hb0 hb1 true E9 _).mono ?_) | (with_reducible refine (lis_10 b hb0 hb1 false E10 _).mono ?_) | (with_reducible refine (lis_11 b hb0 hb1 false E11 _).mono ?_)); rintro e1 w1 ⟨rfl, hb1⟩; replace HB := Lib.hid (below_then (by first | exact HB.out | exact HB.out.drew | exact below_drewN HB.out _) hb1); clear hb1) | (go_at_call 44; refine (anyset_any _).mono ?_; rintro e1 w1 ⟨rfl, hb1⟩; replace HB := Lib.hid (below_then (by first | exact HB.out | exact HB.out.drew | exact below_drewN HB.out _) hb1); clear hb1) | (go_at_call 26; refine (has255 b hb0 hb1 _).mono ?_; rintro e1 w1 ⟨rfl, hb1⟩; replace HB := Lib.hid (below_then (by first | exact HB.out | exact HB.out.drew | exact below_drewN HB.out _) hb1); clear hb1) | (go_at_call 36; refine (sure2_any _).mono ?_; rintro e1 w1 ⟨rfl, hb1⟩; replace HB := Lib.hid (below_then (by first | exact HB.out | exact HB.out.drew | exact below_drewN HB.out _) hb1); clear hb1))
  go_ret
  exact ⟨rfl, (by first | exact HB.out | exact HB.out.drew | exact below_drewN HB.out _)⟩
set_option maxRecDepth 100000 in
set_option maxHeartbeats 800000 in
theorem within_8 (b : Int) (hb0 : 0 ≤ b) (hb1 : b < 256) (h : vec b.toNat = [false, false, false, true, false, false, false, false, true, false, false, false]) (w : World) :
    Calls Try.prog 10 #[.int .u8 b] w fun e w' => e = .returned (.bool true) ∧ Below w.heap.size w w' := by
  simp only [vec, List.cons.injEq, and_true] at h
  obtain ⟨e0, e1, e2, e3, e4, e5, e6, e7, e9, e10, e11, e12⟩ := h
  have E0 : Hid (cls 0 b.toNat = _) := e0; clear e0
  have E1 : Hid (cls 1 b.toNat = _) := e1; clear e1
  have E2 : Hid (cls 2 b.toNat = _) := e2; clear e2
  have E3 : Hid (cls 3 b.toNat = _) := e3; clear e3
  have E4 : Hid (cls 4 b.toNat = _) := e4; clear e4
  have E5 : Hid (cls 5 b.toNat = _) := e5; clear e5
  have E6 : Hid (cls 6 b.toNat = _) := e6; clear e6
  have E7 : Hid (cls 7 b.toNat = _) := e7; clear e7
  have E9 : Hid (cls 9 b.toNat = _) := e9; clear e9
  have E10 : Hid (cls 10 b.toNat = _) := e10; clear e10
  have E11 : Hid (cls 11 b.toNat = _) := e11; clear e11
  have e13 : (b == 32) = false := by simp at e12 ⊢; omega
  clear e12
  have HB := Lib.hid (Below.refl w.heap.size w)
  go_enter Try.func10, Try.ntmps10
  go_wp2_with (first | (go_at_call 45; (first | (with_reducible refine (lis_0 b hb0 hb1 false E0 _).mono ?_) | (with_reducible refine (lis_1 b hb0 hb1 false E1 _).mono ?_) | (with_reducible refine (lis_2 b hb0 hb1 false E2 _).mono ?_) | (with_reducible refine (lis_3 b hb0 hb1 true E3 _).mono ?_) | (with_reducible refine (lis_4 b hb0 hb1 false E4 _).mono ?_) | (with_reducible refine (lis_5 b hb0 hb1 false E5 _).mono ?_) | (with_reducible refine (lis_6 b hb0 hb1 false E6 _).mono ?_) | (with_reducible refine (lis_7 b hb0 hb1 false E7 _).mono ?_) | (with_reducible refine (lis_9 b hb0 hb1 true E9 _).mono ?_) | (with_reducible refine (lis_10 b hb0 hb1 false E10 _).mono ?_) | (with_reducible refine (lis_11 b hb0 hb1 false E11 _).mono ?_)); rintro e1 w1 ⟨rfl, hb1⟩; replace HB := Lib.hid (below_then (by first | exact HB.out | exact HB.out.drew | exact below_drewN HB.out _) hb1); clear hb1) | (go_at_call 44; refine (anyset_any _).mono ?_; rintro e1 w1 ⟨rfl, hb1⟩; replace HB := Lib.hid (below_then (by first | exact HB.out | exact HB.out.drew | exact below_drewN HB.out _) hb1); clear hb1) | (go_at_call 26; refine (has255 b hb0 hb1 _).mono ?_; rintro e1 w1 ⟨rfl, hb1⟩; replace HB := Lib.hid (below_then (by first | exact HB.out | exact HB.out.drew | exact below_drewN HB.out _) hb1); clear hb1) | (go_at_call 36; refine (sure2_any _).mono ?_; rintro e1 w1 ⟨rfl, hb1⟩; replace HB := Lib.hid (below_then (by first | exact HB.out | exact HB.out.drew | exact below_drewN HB.out _) hb1); clear hb1))
  go_ret
  exact ⟨rfl, (by first | exact HB.out | exact HB.out.drew | exact below_drewN HB.out _)⟩
set_option maxRecDepth 100000 in
set_option maxHeartbeats 800000 in
theorem within_9 (b : Int) (hb0 : 0 ≤ b) (hb1 : b < 256) (h : vec b.toNat = [false, false, false, true, false, false, false, false, false, false, false, false]) (w : World) :
    Calls Try.prog 10 #[.int .u8 b] w fun e w' => e = .returned (.bool true) ∧ Below w.heap.size w w' := by
  simp only [vec, List.cons.injEq, and_true] at h
  obtain ⟨e0, e1, e2, e3, e4, e5, e6, e7, e9, e10, e11, e12⟩ := h
  have E0 : Hid (cls 0 b.toNat = _) := e0; clear e0
  have E1 : Hid (cls 1 b.toNat = _) := e1; clear e1
  have E2 : Hid (cls 2 b.toNat = _) := e2; clear e2
  have E3 : Hid (cls 3 b.toNat = _) := e3; clear e3
  have E4 : Hid (cls 4 b.toNat = _) := e4; clear e4
  have E5 : Hid (cls 5 b.toNat = _) := e5; clear e5
  have E6 : Hid (cls 6 b.toNat = _) := e6; clear e6
  have E7 : Hid (cls 7 b.toNat = _) := e7; clear e7
  have E9 : Hid (cls 9 b.toNat = _) := e9; clear e9
  have E10 : Hid (cls 10 b.toNat = _) := e10; clear e10
  have E11 : Hid (cls 11 b.toNat = _) := e11; clear e11
  have e13 : (b == 32) = false := by simp at e12 ⊢; omega
  clear e12
  have HB := Lib.hid (Below.refl w.heap.size w)
  go_enter Try.func10, Try.ntmps10
  go_wp2_with (first | (go_at_call 45; (first | (with_reducible refine (lis_0 b hb0 hb1 false E0 _).mono ?_) | (with_reducible refine (lis_1 b hb0 hb1 false E1 _).mono ?_) | (with_reducible refine (lis_2 b hb0 hb1 false E2 _).mono ?_) | (with_reducible refine (lis_3 b hb0 hb1 true E3 _).mono ?_) | (with_reducible refine (lis_4 b hb0 hb1 false E4 _).mono ?_) | (with_reducible refine (lis_5 b hb0 hb1 false E5 _).mono ?_) | (with_reducible refine (lis_6 b hb0 hb1 false E6 _).mono ?_) | (with_reducible refine (lis_7 b hb0 hb1 false E7 _).mono ?_) | (with_reducible refine (lis_9 b hb0 hb1 false E9 _).mono ?_) | (with_reducible refine (lis_10 b hb0 hb1 false E10 _).mono ?_) | (with_reducible refine (lis_11 b hb0 hb1 false E11 _).mono ?_)); rintro e1 w1 ⟨rfl, hb1⟩; replace HB := Lib.hid (below_then (by first | exact HB.out | exact HB.out.drew | exact below_drewN HB.out _) hb1); clear hb1) | (go_at_call 44; refine (anyset_any _).mono ?_; rintro e1 w1 ⟨rfl, hb1⟩; replace HB := Lib.hid (below_then (by first | exact HB.out | exact HB.out.drew | exact below_drewN HB.out _) hb1); clear hb1) | (go_at_call 26; refine (has255 b hb0 hb1 _).mono ?_; rintro e1 w1 ⟨rfl, hb1⟩; replace HB := Lib.hid (below_then (by first | exact HB.out | exact HB.out.drew | exact below_drewN HB.out _) hb1); clear hb1) | (go_at_call 36; refine (sure2_any _).mono ?_; rintro e1 w1 ⟨rfl, hb1⟩; replace HB := Lib.hid (below_then (by first | exact HB.out | exact HB.out.drew | exact below_drewN HB.out _) hb1); clear hb1))
  go_ret
  exact ⟨rfl, (by first | exact HB.out | exact HB.out.drew | exact below_drewN HB.out _)⟩
set_option maxRecDepth 100000 in
set_option maxHeartbeats 800000 in
theorem within_10 (b : Int) (hb0 : 0 ≤ b) (hb1 : b < 256) (h : vec b.toNat = [false, false, false, false, false, false, false, false, false, false, false, false]) (w : World) :
    Calls Try.prog 10 #[.int .u8 b] w fun e w' => e = .returned (.bool true) ∧ Below w.heap.size w w' := by
  simp only [vec, List.cons.injEq, and_true] at h
  obtain ⟨e0, e1, e2, e3, e4, e5, e6, e7, e9, e10, e11, e12⟩ := h
  have E0 : Hid (cls 0 b.toNat = _) := e0; clear e0
  have E1 : Hid (cls 1 b.toNat = _) := e1; clear e1
  have E2 : Hid (cls 2 b.toNat = _) := e2; clear e2
  have E3 : Hid (cls 3 b.toNat = _) := e3; clear e3
  have E4 : Hid (cls 4 b.toNat = _) := e4; clear e4
  have E5 : Hid (cls 5 b.toNat = _) := e5; clear e5
  have E6 : Hid (cls 6 b.toNat = _) := e6; clear e6
  have E7 : Hid (cls 7 b.toNat = _) := e7; clear e7
  have E9 : Hid (cls 9 b.toNat = _) := e9; clear e9
  have E10 : Hid (cls 10 b.toNat = _) := e10; clear e10
  have E11 : Hid (cls 11 b.toNat = _) := e11; clear e11
  have e13 : (b == 32) = false := by simp at e12 ⊢; omega
  clear e12
  have HB := Lib.hid (Below.refl w.heap.size w)
  go_enter Try.func10, Try.ntmps10
  go_wp2_with (first | (go_at_call 45; (first | (with_reducible refine (lis_0 b hb0 hb1 false E0 _).mono ?_) | (with_reducible refine (lis_1 b hb0 hb1 false E1 _).mono ?_) | (with_reducible refine (lis_2 b hb0 hb1 false E2 _).mono ?_) | (with_reducible refine (lis_3 b hb0 hb1 false E3 _).mono ?_) | (with_reducible refine (lis_4 b hb0 hb1 false E4 _).mono ?_) | (with_reducible refine (lis_5 b hb0 hb1 false E5 _).mono ?_) | (with_reducible refine (lis_6 b hb0 hb1 false E6 _).mono ?_) | (with_reducible refine (lis_7 b hb0 hb1 false E7 _).mono ?_) | (with_reducible refine (lis_9 b hb0 hb1 false E9 _).mono ?_) | (with_reducible refine (lis_10 b hb0 hb1 false E10 _).mono ?_) | (with_reducible refine (lis_11 b hb0 hb1 false E11 _).mono ?_)); rintro e1 w1 ⟨rfl, hb1⟩; replace HB := Lib.hid (below_then (by first | exact HB.out | exact HB.out.drew | exact below_drewN HB.out _) hb1); clear hb1) | (go_at_call 44; refine (anyset_any _).mono ?_; rintro e1 w1 ⟨rfl, hb1⟩; replace HB := Lib.hid (below_then (by first | exact HB.out | exact HB.out.drew | exact below_drewN HB.out _) hb1); clear hb1) | (go_at_call 26; refine (has255 b hb0 hb1 _).mono ?_; rintro e1 w1 ⟨rfl, hb1⟩; replace HB := Lib.hid (below_then (by first | exact HB.out | exact HB.out.drew | exact below_drewN HB.out _) hb1); clear hb1) | (go_at_call 36; refine (sure2_any _).mono ?_; rintro e1 w1 ⟨rfl, hb1⟩; replace HB := Lib.hid (below_then (by first | exact HB.out | exact HB.out.drew | exact below_drewN HB.out _) hb1); clear hb1))
  go_ret
  exact ⟨rfl, (by first | exact HB.out | exact HB.out.drew | exact below_drewN HB.out _)⟩
theorem within_any (b : Int) (hb0 : 0 ≤ b) (hb1 : b < 256) (w : World) :
    Calls Try.prog 10 #[.int .u8 b] w fun e w' => e = .returned (.bool true) ∧ Below w.heap.size w w' := by
  have hin := vec_in b.toNat (by omega)
  simp only [combos, List.mem_cons, List.not_mem_nil, or_false] at hin
  rcases hin with h | h | h | h | h | h | h | h | h | h | h
  · exact within_0 b hb0 hb1 h w
  · exact within_1 b hb0 hb1 h w
  · exact within_2 b hb0 hb1 h w
  · exact within_3 b hb0 hb1 h w
  · exact within_4 b hb0 hb1 h w
  · exact within_5 b hb0 hb1 h w
  · exact within_6 b hb0 hb1 h w
  · exact within_7 b hb0 hb1 h w
  · exact within_8 b hb0 hb1 h w
  · exact within_9 b hb0 hb1 h w
  · exact within_10 b hb0 hb1 h w
end Go.Proofs.Ythppilfojicfdaa
