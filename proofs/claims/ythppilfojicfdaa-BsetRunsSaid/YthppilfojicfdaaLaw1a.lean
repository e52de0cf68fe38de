/- The statement BsetSets, walked. -/
import Derived.Test.YthppilfojicfdaaProg
import Derived.WalkKit
import Derived.WalkSpells
import Derived.WalkLawsBesides
import Derived.Handy
import Derived.Lib.Hide
import Derived.Test.YthppilfojicfdaaLaw1
import Derived.Deep.RegionHeld3
import Derived.Test.YthppilfojicfdaaMem2
namespace Go.Proofs.Ythppilfojicfdaa
open Go.RowKit SetP
attribute [local go_sem] run_eq_set run_eq2

def notF (f : Nat → Bool) : Nat → Bool := fun x => !f x
def orF (f g : Nat → Bool) : Nat → Bool := fun x => f x || g x
def andF (f g : Nat → Bool) : Nat → Bool := fun x => f x && g x
def lessF (f g : Nat → Bool) : Nat → Bool := fun x => f x && !g x
def cntF (f : Nat → Bool) : Int := (bytesF f).length
theorem cntF_le (f : Nat → Bool) : 0 ≤ cntF f ∧ cntF f ≤ 256 := by
  have := upto_length f 256
  unfold cntF bytesF; omega

theorem not_c (f : Nat → Bool) (w : World) : Calls Try.prog 34 #[setV f] w fun e w' => e = .returned (setV (notF f)) ∧ Below w.heap.size w w' := not_any f w
theorem or_c (f g : Nat → Bool) (w : World) : Calls Try.prog 24 #[setV f, setV g] w fun e w' => e = .returned (setV (orF f g)) ∧ Below w.heap.size w w' := or_any f g w
theorem and_c (f g : Nat → Bool) (w : World) : Calls Try.prog 32 #[setV f, setV g] w fun e w' => e = .returned (setV (andF f g)) ∧ Below w.heap.size w w' := and_any f g w
theorem less_c (f g : Nat → Bool) (w : World) : Calls Try.prog 33 #[setV f, setV g] w fun e w' => e = .returned (setV (lessF f g)) ∧ Below w.heap.size w w' := less_any f g w
theorem count_c (f : Nat → Bool) (w : World) : Calls Try.prog 20 #[setV f] w fun e w' => e = .returned (.int .i64 (cntF f)) ∧ Below w.heap.size w w' := count_any f w

theorem upto_len (f : Nat → Bool) (k : Nat) : (upto f (k + 1)).length = (upto f k).length + if f k then 1 else 0 := by
  rw [upto_succ, List.length_append]
  split <;> rfl
theorem upto_or_and (f g : Nat → Bool) (k : Nat) : (upto f k).length + (upto g k).length = (upto (orF f g) k).length + (upto (andF f g) k).length := by
  induction k with
  | zero => rfl
  | succ k ih =>
    rw [upto_len, upto_len, upto_len, upto_len]
    have h1 : orF f g k = (f k || g k) := rfl
    have h2 : andF f g k = (f k && g k) := rfl
    rw [h1, h2]
    by_cases hf : f k = true <;> by_cases hg : g k = true <;> simp [hf, hg] <;> omega
theorem upto_not (f : Nat → Bool) (k : Nat) : (upto f k).length + (upto (notF f) k).length = k := by
  induction k with
  | zero => rfl
  | succ k ih =>
    rw [upto_len, upto_len]
    have h1 : notF f k = !f k := rfl
    rw [h1]
    by_cases hf : f k = true <;> simp [hf] <;> omega
theorem cntF_or_and (f g : Nat → Bool) : cntF f + cntF g = cntF (orF f g) + cntF (andF f g) := by
  have := upto_or_and f g 256
  unfold cntF bytesF; omega
theorem cntF_not (f : Nat → Bool) : cntF f + cntF (notF f) = 256 := by
  have := upto_not f 256
  unfold cntF bytesF; omega

set_option maxRecDepth 100000 in
set_option maxHeartbeats 2000000 in
theorem sets_any (a b c : Nat → Bool) (w : World) : Calls Try.prog 6 #[setV a, setV b, setV c] w fun e w' => e = .returned (.bool true) ∧ Below w.heap.size w w' := by
  have e1 : same (notF (orF a b)) (andF (notF a) (notF b)) = true := same_iff.2 fun x _ => by simp [notF, orF, andF]
  have e2 : same (notF (notF a)) a = true := same_iff.2 fun x _ => by simp [notF]
  have e3 : same (orF (lessF a b) (andF a b)) a = true := same_iff.2 fun x _ => by
    simp only [lessF, orF, andF]; cases a x <;> cases b x <;> rfl
  have e4 : same (andF a (orF b c)) (orF (andF a b) (andF a c)) = true := same_iff.2 fun x _ => by
    simp only [orF, andF]; cases a x <;> cases b x <;> cases c x <;> rfl
  have e5 : (IntKind.i64.wrap (cntF a + cntF b) != IntKind.i64.wrap (cntF (orF a b) + cntF (andF a b))) = false := by rw [cntF_or_and]; simp
  have e6 : (IntKind.i64.wrap (cntF a + cntF (notF a)) == 256) = true := by rw [cntF_not]; rfl
  go_enter Try.func6, Try.ntmps6
  go_wp2_with fail
  have o0 : Slab (((w.alloc (.cells (cells4 a) 24)).alloc (.cells (cells4 b) 24)).alloc (.cells (cells4 c) 24)) w.heap.size (cells4 a) 24 := ((Slab.new _ _ _).alloc _).alloc _
  have o1 : Slab (((w.alloc (.cells (cells4 a) 24)).alloc (.cells (cells4 b) 24)).alloc (.cells (cells4 c) 24)) (w.heap.size + 1) (cells4 b) 24 := (Slab.newAt _ _ _ (by simp)).alloc _
  have o2 : Slab (((w.alloc (.cells (cells4 a) 24)).alloc (.cells (cells4 b) 24)).alloc (.cells (cells4 c) 24)) (w.heap.size + 1 + 1) (cells4 c) 24 := Slab.newAt _ _ _ (by simp)
  have HB := Lib.hid (show Below w.heap.size w (((w.alloc (.cells (cells4 a) 24)).alloc (.cells (cells4 b) 24)).alloc (.cells (cells4 c) 24)) by (repeat' (first | (with_reducible exact Below.refl _ _) | (with_reducible assumption) | (with_reducible refine Below.alloc ?_ ?_ _) | (with_reducible refine Below.drew ?_) | (with_reducible refine below_set ?_ ?_ _) | (with_reducible refine below_call ?_ ?_ (by assumption)) | (with_reducible exact Below.size (by assumption)) | omega | go_size)))
  go_region_held3 (fun w' => (∀ i, w'.cell? ⟨w.heap.size, i, none⟩ = (cells4 a)[i]?) ∧ (∀ i, w'.cell? ⟨w.heap.size + 1, i, none⟩ = (cells4 b)[i]?) ∧ (∀ i, w'.cell? ⟨w.heap.size + 1 + 1, i, none⟩ = (cells4 c)[i]?)) (exact ⟨o0.cell, o1.cell, o2.cell⟩)
    (first
      | (go_at_call 24; refine (or_c _ _ _).mono ?_; rintro e1 w1 ⟨rfl, hb1⟩; replace HB := Lib.hid (below_then (by first | exact HB.out | exact HB.out.drew | exact below_drewN HB.out _) hb1); replace o0 := o0.callD hb1 rfl; replace o1 := o1.callD hb1 rfl; replace o2 := o2.callD hb1 rfl; clear hb1)
      | (go_at_call 34; refine (not_c _ _).mono ?_; rintro e1 w1 ⟨rfl, hb1⟩; replace HB := Lib.hid (below_then (by first | exact HB.out | exact HB.out.drew | exact below_drewN HB.out _) hb1); replace o0 := o0.callD hb1 rfl; replace o1 := o1.callD hb1 rfl; replace o2 := o2.callD hb1 rfl; clear hb1)
      | (go_at_call 32; refine (and_c _ _ _).mono ?_; rintro e1 w1 ⟨rfl, hb1⟩; replace HB := Lib.hid (below_then (by first | exact HB.out | exact HB.out.drew | exact below_drewN HB.out _) hb1); replace o0 := o0.callD hb1 rfl; replace o1 := o1.callD hb1 rfl; replace o2 := o2.callD hb1 rfl; clear hb1)
      | (go_at_call 33; refine (less_c _ _ _).mono ?_; rintro e1 w1 ⟨rfl, hb1⟩; replace HB := Lib.hid (below_then (by first | exact HB.out | exact HB.out.drew | exact below_drewN HB.out _) hb1); replace o0 := o0.callD hb1 rfl; replace o1 := o1.callD hb1 rfl; replace o2 := o2.callD hb1 rfl; clear hb1)
      | (go_at_call 20; refine (count_c _ _).mono ?_; rintro e1 w1 ⟨rfl, hb1⟩; replace HB := Lib.hid (below_then (by first | exact HB.out | exact HB.out.drew | exact below_drewN HB.out _) hb1); replace o0 := o0.callD hb1 rfl; replace o1 := o1.callD hb1 rfl; replace o2 := o2.callD hb1 rfl; clear hb1)
      | (go_at_call 23; refine (sure1_any _).mono ?_; rintro e1 w1 ⟨rfl, hb1⟩; replace HB := Lib.hid (below_then (by first | exact HB.out | exact HB.out.drew | exact below_drewN HB.out _) hb1); replace o0 := o0.callD hb1 rfl; replace o1 := o1.callD hb1 rfl; replace o2 := o2.callD hb1 rfl; clear hb1))
  go_wp2_with fail
  go_region_held3 (fun w' => (∀ i, w'.cell? ⟨w.heap.size, i, none⟩ = (cells4 a)[i]?) ∧ (∀ i, w'.cell? ⟨w.heap.size + 1, i, none⟩ = (cells4 b)[i]?) ∧ (∀ i, w'.cell? ⟨w.heap.size + 1 + 1, i, none⟩ = (cells4 c)[i]?)) (exact ⟨o0.cell, o1.cell, o2.cell⟩)
    (first
      | (go_at_call 24; refine (or_c _ _ _).mono ?_; rintro e1 w1 ⟨rfl, hb1⟩; replace HB := Lib.hid (below_then (by first | exact HB.out | exact HB.out.drew | exact below_drewN HB.out _) hb1); replace o0 := o0.callD hb1 rfl; replace o1 := o1.callD hb1 rfl; replace o2 := o2.callD hb1 rfl; clear hb1)
      | (go_at_call 34; refine (not_c _ _).mono ?_; rintro e1 w1 ⟨rfl, hb1⟩; replace HB := Lib.hid (below_then (by first | exact HB.out | exact HB.out.drew | exact below_drewN HB.out _) hb1); replace o0 := o0.callD hb1 rfl; replace o1 := o1.callD hb1 rfl; replace o2 := o2.callD hb1 rfl; clear hb1)
      | (go_at_call 32; refine (and_c _ _ _).mono ?_; rintro e1 w1 ⟨rfl, hb1⟩; replace HB := Lib.hid (below_then (by first | exact HB.out | exact HB.out.drew | exact below_drewN HB.out _) hb1); replace o0 := o0.callD hb1 rfl; replace o1 := o1.callD hb1 rfl; replace o2 := o2.callD hb1 rfl; clear hb1)
      | (go_at_call 33; refine (less_c _ _ _).mono ?_; rintro e1 w1 ⟨rfl, hb1⟩; replace HB := Lib.hid (below_then (by first | exact HB.out | exact HB.out.drew | exact below_drewN HB.out _) hb1); replace o0 := o0.callD hb1 rfl; replace o1 := o1.callD hb1 rfl; replace o2 := o2.callD hb1 rfl; clear hb1)
      | (go_at_call 20; refine (count_c _ _).mono ?_; rintro e1 w1 ⟨rfl, hb1⟩; replace HB := Lib.hid (below_then (by first | exact HB.out | exact HB.out.drew | exact below_drewN HB.out _) hb1); replace o0 := o0.callD hb1 rfl; replace o1 := o1.callD hb1 rfl; replace o2 := o2.callD hb1 rfl; clear hb1)
      | (go_at_call 23; refine (sure1_any _).mono ?_; rintro e1 w1 ⟨rfl, hb1⟩; replace HB := Lib.hid (below_then (by first | exact HB.out | exact HB.out.drew | exact below_drewN HB.out _) hb1); replace o0 := o0.callD hb1 rfl; replace o1 := o1.callD hb1 rfl; replace o2 := o2.callD hb1 rfl; clear hb1))
  go_wp2_with fail
  go_region_held3 (fun w' => (∀ i, w'.cell? ⟨w.heap.size, i, none⟩ = (cells4 a)[i]?) ∧ (∀ i, w'.cell? ⟨w.heap.size + 1, i, none⟩ = (cells4 b)[i]?) ∧ (∀ i, w'.cell? ⟨w.heap.size + 1 + 1, i, none⟩ = (cells4 c)[i]?)) (exact ⟨o0.cell, o1.cell, o2.cell⟩)
    (first
      | (go_at_call 24; refine (or_c _ _ _).mono ?_; rintro e1 w1 ⟨rfl, hb1⟩; replace HB := Lib.hid (below_then (by first | exact HB.out | exact HB.out.drew | exact below_drewN HB.out _) hb1); replace o0 := o0.callD hb1 rfl; replace o1 := o1.callD hb1 rfl; replace o2 := o2.callD hb1 rfl; clear hb1)
      | (go_at_call 34; refine (not_c _ _).mono ?_; rintro e1 w1 ⟨rfl, hb1⟩; replace HB := Lib.hid (below_then (by first | exact HB.out | exact HB.out.drew | exact below_drewN HB.out _) hb1); replace o0 := o0.callD hb1 rfl; replace o1 := o1.callD hb1 rfl; replace o2 := o2.callD hb1 rfl; clear hb1)
      | (go_at_call 32; refine (and_c _ _ _).mono ?_; rintro e1 w1 ⟨rfl, hb1⟩; replace HB := Lib.hid (below_then (by first | exact HB.out | exact HB.out.drew | exact below_drewN HB.out _) hb1); replace o0 := o0.callD hb1 rfl; replace o1 := o1.callD hb1 rfl; replace o2 := o2.callD hb1 rfl; clear hb1)
      | (go_at_call 33; refine (less_c _ _ _).mono ?_; rintro e1 w1 ⟨rfl, hb1⟩; replace HB := Lib.hid (below_then (by first | exact HB.out | exact HB.out.drew | exact below_drewN HB.out _) hb1); replace o0 := o0.callD hb1 rfl; replace o1 := o1.callD hb1 rfl; replace o2 := o2.callD hb1 rfl; clear hb1)
      | (go_at_call 20; refine (count_c _ _).mono ?_; rintro e1 w1 ⟨rfl, hb1⟩; replace HB := Lib.hid (below_then (by first | exact HB.out | exact HB.out.drew | exact below_drewN HB.out _) hb1); replace o0 := o0.callD hb1 rfl; replace o1 := o1.callD hb1 rfl; replace o2 := o2.callD hb1 rfl; clear hb1)
      | (go_at_call 23; refine (sure1_any _).mono ?_; rintro e1 w1 ⟨rfl, hb1⟩; replace HB := Lib.hid (below_then (by first | exact HB.out | exact HB.out.drew | exact below_drewN HB.out _) hb1); replace o0 := o0.callD hb1 rfl; replace o1 := o1.callD hb1 rfl; replace o2 := o2.callD hb1 rfl; clear hb1))
  go_wp2
  go_ret
  exact ⟨rfl, by exact HB.out⟩
end Go.Proofs.Ythppilfojicfdaa
