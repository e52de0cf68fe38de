/- The statement BsetTells, walked. -/
import Derived.Test.YthppilfojicfdaaProg
import Derived.WalkKit
import Derived.WalkSpells
import Derived.WalkLawsBesides
import Derived.Handy
import Derived.Lib.Hide
import Derived.Test.YthppilfojicfdaaLaw1a
import Derived.Deep.RegionHeld3
import Derived.BigQuiet
import Derived.Deep.QuietTactic
namespace Go.Proofs.Ythppilfojicfdaa
open Go.RowKit SetP
attribute [local go_sem] run_eq_set run_eq2

theorem range_d (lo hi : Int) (h0 : 0 ≤ lo) (h1 : lo < 256) (h2 : 0 ≤ hi) (h3 : hi < 256) (w : World) :
    Calls Try.prog 25 #[.int .u8 lo, .int .u8 hi] w fun e w' => e = .returned (setV (rangeF lo hi)) ∧ Below w.heap.size w w' := range_any lo hi h0 h1 h2 h3 w
theorem rboth_or_c (f g : Nat → Bool) (w : World) : Calls Try.prog 31 #[setV f, setV g, .int .i64 1] w fun e w' => e = .returned (setV (orF f g)) ∧ Below w.heap.size w w' := rboth_or f g w
theorem rboth_and_c (f g : Nat → Bool) (w : World) : Calls Try.prog 31 #[setV f, setV g, .int .i64 2] w fun e w' => e = .returned (setV (andF f g)) ∧ Below w.heap.size w w' := rboth_and f g w
theorem rboth_less_c (f g : Nat → Bool) (w : World) : Calls Try.prog 31 #[setV f, setV g, .int .i64 3] w fun e w' => e = .returned (setV (lessF f g)) ∧ Below w.heap.size w w' := rboth_less f g w
theorem rnot_c (f : Nat → Bool) (w : World) : Calls Try.prog 35 #[setV f] w fun e w' => e = .returned (setV (notF f)) ∧ Below w.heap.size w w' := rnot_any f w

/-- A list of bytes, as a slice of whatever make. -/
def BytesAt (w : World) (B : Nat) (A : Option Addr) (n c : Nat) (l : List Int) : Prop :=
  l.length = n ∧ n ≤ 9223372036854775807 ∧ (∀ i, i < n → 0 ≤ l.getD i 0 ∧ l.getD i 0 < 256) ∧ (n = 0 ∨ ∃ b off, A = some ⟨b, off, none⟩ ∧ b < B ∧ ∀ i, i < n → w.cell? ⟨b, off + i, none⟩ = some (.int .u8 (l.getD i 0)))
theorem BytesAt.below {w w' : World} {B : Nat} {A : Option Addr} {n c : Nat} {l : List Int} (h : BytesAt w B A n c l) (hb : Below B w w') : BytesAt w' B A n c l := by
  obtain ⟨h1, h2, h3, h4⟩ := h
  refine ⟨h1, h2, h3, ?_⟩
  rcases h4 with h4 | ⟨b, off, rfl, hB, hc⟩
  · exact .inl h4
  · exact .inr ⟨b, off, rfl, hB, fun i hi => (hb.cell (p := ⟨b, off + i, none⟩) hB).trans (hc i hi)⟩
theorem BytesAt.drew {w : World} {B : Nat} {A : Option Addr} {n c : Nat} {l : List Int} (h : BytesAt w B A n c l) : BytesAt w.drew B A n c l := h

set_option maxHeartbeats 400000 in
theorem with_empty (f : Nat → Bool) (A : Option Addr) (c : Nat) (w : World) :
    Calls Try.prog 28 #[setV f, .slice A 0 c] w fun e w' => e = .returned (setV f) ∧ Below w.heap.size w w' := by
  go_enter Try.func28, Try.ntmps28
  go_wp2
  go_rounds 1
  refine bodyPost_ret (v := setV f) (by simp [results, Try.results28, go_sem]) rfl ⟨rfl, ?_⟩
  (repeat' (first | (with_reducible exact Below.refl _ _) | (with_reducible assumption) | (with_reducible refine Below.alloc ?_ ?_ _) | (with_reducible refine Below.drew ?_) | (with_reducible refine below_set ?_ ?_ _) | (with_reducible refine below_call ?_ ?_ (by assumption)) | (with_reducible exact Below.size (by assumption)) | omega | go_size))
set_option maxHeartbeats 400000 in
theorem rwith_empty (f : Nat → Bool) (A : Option Addr) (c : Nat) (w : World) :
    Calls Try.prog 29 #[setV f, .slice A 0 c] w fun e w' => e = .returned (setV f) ∧ Below w.heap.size w w' := by
  go_enter Try.func29, Try.ntmps29
  go_wp2
  go_rounds 1
  refine bodyPost_ret (v := setV f) (by simp [results, Try.results29, go_sem]) rfl ⟨rfl, ?_⟩
  (repeat' (first | (with_reducible exact Below.refl _ _) | (with_reducible assumption) | (with_reducible refine Below.alloc ?_ ?_ _) | (with_reducible refine Below.drew ?_) | (with_reducible refine below_set ?_ ?_ _) | (with_reducible refine below_call ?_ ?_ (by assumption)) | (with_reducible exact Below.size (by assumption)) | omega | go_size))
theorem with_c (f : Nat → Bool) (A : Option Addr) (n c : Nat) (l : List Int) (w : World) (B : Nat) (hB : B ≤ w.heap.size) (h : BytesAt w B A n c l) :
    Calls Try.prog 28 #[setV f, .slice A n c] w fun e w' => e = .returned (setV (addL f l)) ∧ Below w.heap.size w w' := by
  obtain ⟨rfl, h2, h3, h4⟩ := h
  rcases h4 with h5 | ⟨b, off, rfl, hb, hc⟩
  · rw [h5]
    have : l = [] := List.eq_nil_of_length_eq_zero h5
    subst this
    exact with_empty f A c w
  · exact with_some f b off c l w h2 (by omega) hc h3
theorem rwith_c (f : Nat → Bool) (A : Option Addr) (n c : Nat) (l : List Int) (w : World) (B : Nat) (hB : B ≤ w.heap.size) (h : BytesAt w B A n c l) :
    Calls Try.prog 29 #[setV f, .slice A n c] w fun e w' => e = .returned (setV (addL f l)) ∧ Below w.heap.size w w' := by
  obtain ⟨rfl, h2, h3, h4⟩ := h
  rcases h4 with h5 | ⟨b, off, rfl, hb, hc⟩
  · rw [h5]
    have : l = [] := List.eq_nil_of_length_eq_zero h5
    subst this
    exact rwith_empty f A c w
  · exact rwith_some f b off c l w h2 (by omega) hc h3

set_option maxRecDepth 100000 in
set_option maxHeartbeats 2000000 in
theorem tells_any (a b : Nat → Bool) (x y : Int) (A : Option Addr) (n c : Nat) (l : List Int) (hx0 : 0 ≤ x) (hx1 : x < 256) (hy0 : 0 ≤ y) (hy1 : y < 256) (w : World) (hl : BytesAt w w.heap.size A n c l) :
    Calls Try.prog 5 #[setV a, setV b, .agg #[.int .u8 x, .int .u8 y, .slice A n c]] w fun e w' => e = .returned (.bool true) ∧ Below w.heap.size w w' := by
  have e1 : ∀ f, same f f = true := fun f => same_iff.2 fun _ _ => rfl
  have H0 := Lib.hid hl; clear hl
  have HX := H0
  go_enter Try.func5, Try.ntmps5
  go_wp2
  go_quiet (fail)
  go_wp2_with fail
  have o0 : Slab (((w.alloc (.cells (cells4 a) 24)).alloc (.cells (cells4 b) 24)).alloc (.cells #[.int .u8 x, .int .u8 y, .slice A n c] 41)) w.heap.size (cells4 a) 24 := ((Slab.new _ _ _).alloc _).alloc _
  have o1 : Slab (((w.alloc (.cells (cells4 a) 24)).alloc (.cells (cells4 b) 24)).alloc (.cells #[.int .u8 x, .int .u8 y, .slice A n c] 41)) (w.heap.size + 1) (cells4 b) 24 := (Slab.newAt _ _ _ (by simp)).alloc _
  have HB := Lib.hid (show Below w.heap.size w (((w.alloc (.cells (cells4 a) 24)).alloc (.cells (cells4 b) 24)).alloc (.cells #[.int .u8 x, .int .u8 y, .slice A n c] 41)) by (repeat' (first | (with_reducible exact Below.refl _ _) | (with_reducible assumption) | (with_reducible refine Below.alloc ?_ ?_ _) | (with_reducible refine Below.drew ?_) | (with_reducible refine below_set ?_ ?_ _) | (with_reducible refine below_call ?_ ?_ (by assumption)) | (with_reducible exact Below.size (by assumption)) | omega | go_size)))
  have hw1 : IntKind.i64.wrap x = x := IntWalk.i64_in _ (by omega)
  have hw2 : IntKind.i64.wrap y = y := IntWalk.i64_in _ (by omega)
  go_region_held3 (fun w' => (∀ i, w'.cell? ⟨w.heap.size, i, none⟩ = (cells4 a)[i]?) ∧ (∀ i, w'.cell? ⟨w.heap.size + 1, i, none⟩ = (cells4 b)[i]?)) (exact ⟨o0.cell, o1.cell⟩)
    (first
      | (go_at_call 24; refine (or_c _ _ _).mono ?_; rintro e1 w1 ⟨rfl, hb1⟩; replace HB := Lib.hid (below_then (by first | exact HB.out | exact HB.out.drew | exact below_drewN HB.out _) hb1); replace o0 := o0.callD hb1 rfl; replace o1 := o1.callD hb1 rfl; replace HX := Lib.hid (BytesAt.below H0.out HB.out); clear hb1)
      | (go_at_call 34; refine (not_c _ _).mono ?_; rintro e1 w1 ⟨rfl, hb1⟩; replace HB := Lib.hid (below_then (by first | exact HB.out | exact HB.out.drew | exact below_drewN HB.out _) hb1); replace o0 := o0.callD hb1 rfl; replace o1 := o1.callD hb1 rfl; replace HX := Lib.hid (BytesAt.below H0.out HB.out); clear hb1)
      | (go_at_call 32; refine (and_c _ _ _).mono ?_; rintro e1 w1 ⟨rfl, hb1⟩; replace HB := Lib.hid (below_then (by first | exact HB.out | exact HB.out.drew | exact below_drewN HB.out _) hb1); replace o0 := o0.callD hb1 rfl; replace o1 := o1.callD hb1 rfl; replace HX := Lib.hid (BytesAt.below H0.out HB.out); clear hb1)
      | (go_at_call 33; refine (less_c _ _ _).mono ?_; rintro e1 w1 ⟨rfl, hb1⟩; replace HB := Lib.hid (below_then (by first | exact HB.out | exact HB.out.drew | exact below_drewN HB.out _) hb1); replace o0 := o0.callD hb1 rfl; replace o1 := o1.callD hb1 rfl; replace HX := Lib.hid (BytesAt.below H0.out HB.out); clear hb1)
      | (go_at_call 26; refine (has_any _ _ (by omega) (by omega) _).mono ?_; rintro e1 w1 ⟨rfl, hb1⟩; replace HB := Lib.hid (below_then (by first | exact HB.out | exact HB.out.drew | exact below_drewN HB.out _) hb1); replace o0 := o0.callD hb1 rfl; replace o1 := o1.callD hb1 rfl; replace HX := Lib.hid (BytesAt.below H0.out HB.out); clear hb1)
      | (go_at_call 27; refine (rhas_any _ _ (by omega) (by omega) _).mono ?_; rintro e1 w1 ⟨rfl, hb1⟩; replace HB := Lib.hid (below_then (by first | exact HB.out | exact HB.out.drew | exact below_drewN HB.out _) hb1); replace o0 := o0.callD hb1 rfl; replace o1 := o1.callD hb1 rfl; replace HX := Lib.hid (BytesAt.below H0.out HB.out); clear hb1)
      | (go_at_call 28; refine (with_c _ _ _ _ l _ w.heap.size HB.out.size HX.out).mono ?_; rintro e1 w1 ⟨rfl, hb1⟩; replace HB := Lib.hid (below_then (by first | exact HB.out | exact HB.out.drew | exact below_drewN HB.out _) hb1); replace o0 := o0.callD hb1 rfl; replace o1 := o1.callD hb1 rfl; replace HX := Lib.hid (BytesAt.below H0.out HB.out); clear hb1)
      | (go_at_call 29; refine (rwith_c _ _ _ _ l _ w.heap.size HB.out.size HX.out).mono ?_; rintro e1 w1 ⟨rfl, hb1⟩; replace HB := Lib.hid (below_then (by first | exact HB.out | exact HB.out.drew | exact below_drewN HB.out _) hb1); replace o0 := o0.callD hb1 rfl; replace o1 := o1.callD hb1 rfl; replace HX := Lib.hid (BytesAt.below H0.out HB.out); clear hb1)
      | (go_at_call 25; refine (range_d _ _ (by omega) (by omega) (by omega) (by omega) _).mono ?_; rintro e1 w1 ⟨rfl, hb1⟩; replace HB := Lib.hid (below_then (by first | exact HB.out | exact HB.out.drew | exact below_drewN HB.out _) hb1); replace o0 := o0.callD hb1 rfl; replace o1 := o1.callD hb1 rfl; replace HX := Lib.hid (BytesAt.below H0.out HB.out); clear hb1)
      | (go_at_call 30; refine (rrange_any _ _ (by omega) (by omega) (by omega) (by omega) _).mono ?_; rintro e1 w1 ⟨rfl, hb1⟩; replace HB := Lib.hid (below_then (by first | exact HB.out | exact HB.out.drew | exact below_drewN HB.out _) hb1); replace o0 := o0.callD hb1 rfl; replace o1 := o1.callD hb1 rfl; replace HX := Lib.hid (BytesAt.below H0.out HB.out); clear hb1)
      | ((with_reducible go_at_call 31); first | ((with_reducible refine (rboth_or_c _ _ _).mono ?_); rintro e1 w1 ⟨rfl, hb1⟩; replace HB := Lib.hid (below_then (by first | exact HB.out | exact HB.out.drew | exact below_drewN HB.out _) hb1); replace o0 := o0.callD hb1 rfl; replace o1 := o1.callD hb1 rfl; replace HX := Lib.hid (BytesAt.below H0.out HB.out); clear hb1) | ((with_reducible refine (rboth_and_c _ _ _).mono ?_); rintro e1 w1 ⟨rfl, hb1⟩; replace HB := Lib.hid (below_then (by first | exact HB.out | exact HB.out.drew | exact below_drewN HB.out _) hb1); replace o0 := o0.callD hb1 rfl; replace o1 := o1.callD hb1 rfl; replace HX := Lib.hid (BytesAt.below H0.out HB.out); clear hb1) | ((with_reducible refine (rboth_less_c _ _ _).mono ?_); rintro e1 w1 ⟨rfl, hb1⟩; replace HB := Lib.hid (below_then (by first | exact HB.out | exact HB.out.drew | exact below_drewN HB.out _) hb1); replace o0 := o0.callD hb1 rfl; replace o1 := o1.callD hb1 rfl; replace HX := Lib.hid (BytesAt.below H0.out HB.out); clear hb1))
      | (go_at_call 35; refine (rnot_c _ _).mono ?_; rintro e1 w1 ⟨rfl, hb1⟩; replace HB := Lib.hid (below_then (by first | exact HB.out | exact HB.out.drew | exact below_drewN HB.out _) hb1); replace o0 := o0.callD hb1 rfl; replace o1 := o1.callD hb1 rfl; replace HX := Lib.hid (BytesAt.below H0.out HB.out); clear hb1)
      | (go_at_call 23; refine (sure1_any _).mono ?_; rintro e1 w1 ⟨rfl, hb1⟩; replace HB := Lib.hid (below_then (by first | exact HB.out | exact HB.out.drew | exact below_drewN HB.out _) hb1); replace o0 := o0.callD hb1 rfl; replace o1 := o1.callD hb1 rfl; replace HX := Lib.hid (BytesAt.below H0.out HB.out); clear hb1))
  go_wp2_with fail
  go_region_held3 (fun w' => (∀ i, w'.cell? ⟨w.heap.size, i, none⟩ = (cells4 a)[i]?) ∧ (∀ i, w'.cell? ⟨w.heap.size + 1, i, none⟩ = (cells4 b)[i]?)) (exact ⟨o0.cell, o1.cell⟩)
    (first
      | (go_at_call 24; refine (or_c _ _ _).mono ?_; rintro e1 w1 ⟨rfl, hb1⟩; replace HB := Lib.hid (below_then (by first | exact HB.out | exact HB.out.drew | exact below_drewN HB.out _) hb1); replace o0 := o0.callD hb1 rfl; replace o1 := o1.callD hb1 rfl; replace HX := Lib.hid (BytesAt.below H0.out HB.out); clear hb1)
      | (go_at_call 34; refine (not_c _ _).mono ?_; rintro e1 w1 ⟨rfl, hb1⟩; replace HB := Lib.hid (below_then (by first | exact HB.out | exact HB.out.drew | exact below_drewN HB.out _) hb1); replace o0 := o0.callD hb1 rfl; replace o1 := o1.callD hb1 rfl; replace HX := Lib.hid (BytesAt.below H0.out HB.out); clear hb1)
      | (go_at_call 32; refine (and_c _ _ _).mono ?_; rintro e1 w1 ⟨rfl, hb1⟩; replace HB := Lib.hid (below_then (by first | exact HB.out | exact HB.out.drew | exact below_drewN HB.out _) hb1); replace o0 := o0.callD hb1 rfl; replace o1 := o1.callD hb1 rfl; replace HX := Lib.hid (BytesAt.below H0.out HB.out); clear hb1)
      | (go_at_call 33; refine (less_c _ _ _).mono ?_; rintro e1 w1 ⟨rfl, hb1⟩; replace HB := Lib.hid (below_then (by first | exact HB.out | exact HB.out.drew | exact below_drewN HB.out _) hb1); replace o0 := o0.callD hb1 rfl; replace o1 := o1.callD hb1 rfl; replace HX := Lib.hid (BytesAt.below H0.out HB.out); clear hb1)
      | (go_at_call 26; refine (has_any _ _ (by omega) (by omega) _).mono ?_; rintro e1 w1 ⟨rfl, hb1⟩; replace HB := Lib.hid (below_then (by first | exact HB.out | exact HB.out.drew | exact below_drewN HB.out _) hb1); replace o0 := o0.callD hb1 rfl; replace o1 := o1.callD hb1 rfl; replace HX := Lib.hid (BytesAt.below H0.out HB.out); clear hb1)
      | (go_at_call 27; refine (rhas_any _ _ (by omega) (by omega) _).mono ?_; rintro e1 w1 ⟨rfl, hb1⟩; replace HB := Lib.hid (below_then (by first | exact HB.out | exact HB.out.drew | exact below_drewN HB.out _) hb1); replace o0 := o0.callD hb1 rfl; replace o1 := o1.callD hb1 rfl; replace HX := Lib.hid (BytesAt.below H0.out HB.out); clear hb1)
      | (go_at_call 28; refine (with_c _ _ _ _ l _ w.heap.size HB.out.size HX.out).mono ?_; rintro e1 w1 ⟨rfl, hb1⟩; replace HB := Lib.hid (below_then (by first | exact HB.out | exact HB.out.drew | exact below_drewN HB.out _) hb1); replace o0 := o0.callD hb1 rfl; replace o1 := o1.callD hb1 rfl; replace HX := Lib.hid (BytesAt.below H0.out HB.out); clear hb1)
      | (go_at_call 29; refine (rwith_c _ _ _ _ l _ w.heap.size HB.out.size HX.out).mono ?_; rintro e1 w1 ⟨rfl, hb1⟩; replace HB := Lib.hid (below_then (by first | exact HB.out | exact HB.out.drew | exact below_drewN HB.out _) hb1); replace o0 := o0.callD hb1 rfl; replace o1 := o1.callD hb1 rfl; replace HX := Lib.hid (BytesAt.below H0.out HB.out); clear hb1)
      | (go_at_call 25; refine (range_d _ _ (by omega) (by omega) (by omega) (by omega) _).mono ?_; rintro e1 w1 ⟨rfl, hb1⟩; replace HB := Lib.hid (below_then (by first | exact HB.out | exact HB.out.drew | exact below_drewN HB.out _) hb1); replace o0 := o0.callD hb1 rfl; replace o1 := o1.callD hb1 rfl; replace HX := Lib.hid (BytesAt.below H0.out HB.out); clear hb1)
      | (go_at_call 30; refine (rrange_any _ _ (by omega) (by omega) (by omega) (by omega) _).mono ?_; rintro e1 w1 ⟨rfl, hb1⟩; replace HB := Lib.hid (below_then (by first | exact HB.out | exact HB.out.drew | exact below_drewN HB.out _) hb1); replace o0 := o0.callD hb1 rfl; replace o1 := o1.callD hb1 rfl; replace HX := Lib.hid (BytesAt.below H0.out HB.out); clear hb1)
      | ((with_reducible go_at_call 31); first | ((with_reducible refine (rboth_or_c _ _ _).mono ?_); rintro e1 w1 ⟨rfl, hb1⟩; replace HB := Lib.hid (below_then (by first | exact HB.out | exact HB.out.drew | exact below_drewN HB.out _) hb1); replace o0 := o0.callD hb1 rfl; replace o1 := o1.callD hb1 rfl; replace HX := Lib.hid (BytesAt.below H0.out HB.out); clear hb1) | ((with_reducible refine (rboth_and_c _ _ _).mono ?_); rintro e1 w1 ⟨rfl, hb1⟩; replace HB := Lib.hid (below_then (by first | exact HB.out | exact HB.out.drew | exact below_drewN HB.out _) hb1); replace o0 := o0.callD hb1 rfl; replace o1 := o1.callD hb1 rfl; replace HX := Lib.hid (BytesAt.below H0.out HB.out); clear hb1) | ((with_reducible refine (rboth_less_c _ _ _).mono ?_); rintro e1 w1 ⟨rfl, hb1⟩; replace HB := Lib.hid (below_then (by first | exact HB.out | exact HB.out.drew | exact below_drewN HB.out _) hb1); replace o0 := o0.callD hb1 rfl; replace o1 := o1.callD hb1 rfl; replace HX := Lib.hid (BytesAt.below H0.out HB.out); clear hb1))
      | (go_at_call 35; refine (rnot_c _ _).mono ?_; rintro e1 w1 ⟨rfl, hb1⟩; replace HB := Lib.hid (below_then (by first | exact HB.out | exact HB.out.drew | exact below_drewN HB.out _) hb1); replace o0 := o0.callD hb1 rfl; replace o1 := o1.callD hb1 rfl; replace HX := Lib.hid (BytesAt.below H0.out HB.out); clear hb1)
      | (go_at_call 23; refine (sure1_any _).mono ?_; rintro e1 w1 ⟨rfl, hb1⟩; replace HB := Lib.hid (below_then (by first | exact HB.out | exact HB.out.drew | exact below_drewN HB.out _) hb1); replace o0 := o0.callD hb1 rfl; replace o1 := o1.callD hb1 rfl; replace HX := Lib.hid (BytesAt.below H0.out HB.out); clear hb1))
  go_wp2
  go_ret
  exact ⟨rfl, by exact HB.out⟩
end Go.Proofs.Ythppilfojicfdaa
