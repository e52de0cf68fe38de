/- Walks of the package brace: reading counts. -/
import Derived.Test.YtgkfdjfoakbibaaProg
import Derived.WalkKit
import Derived.WalkSpells
import Derived.WalkLawsBesides
import Derived.Handy
import Derived.Lib.Hide
import Derived.Test.YtgkfdjfoakbibaaMem
import Derived.Test.YtgkfdjfoakbibaaMem2
import Derived.Test.YtgkfdjfoakbibaaBraceP
namespace Go.Proofs.Ytgkfdjfoakbibaa
open Go.RowKit BraceP

/-- An answer of Read. -/
abbrev resV (r : R) : Value := .tuple #[.agg #[.int .i64 r.1, .int .i64 r.2.1], .int .i64 r.2.2.1, .int .i64 r.2.2.2.1, .int .i64 r.2.2.2.2]

set_option maxRecDepth 100000 in
set_option maxHeartbeats 2000000 in
theorem digit_any (b : UInt8) (w : World) : Calls Try.prog 44 #[.int .u8 (b.toNat : Int)] w fun e w' => e = .returned (.bool (isDig b)) ∧ w = w' := by
  have hd : isDig b = (decide (48 ≤ (b.toNat : Int)) && decide ((b.toNat : Int) ≤ 57)) := by
    unfold isDig; rw [Bool.eq_iff_iff]; simp; omega
  have HD := Lib.hid hd; clear hd
  rw [HD.out]
  by_cases h1 : 48 ≤ (b.toNat : Int)
  · by_cases h2 : (b.toNat : Int) ≤ 57
    · have e1 : decide (48 ≤ (b.toNat : Int)) = true := by simpa using h1
      have e2 : decide ((b.toNat : Int) ≤ 57) = true := by simpa using h2
      go_enter Try.func44, Try.ntmps44
      go_wp2
      go_ret
      exact ⟨by simp [e1, e2], rfl⟩
    · have e1 : decide (48 ≤ (b.toNat : Int)) = true := by simpa using h1
      have e2 : decide ((b.toNat : Int) ≤ 57) = false := by simpa using h2
      go_enter Try.func44, Try.ntmps44
      go_wp2
      go_ret
      exact ⟨by simp [e1, e2], rfl⟩
  · have e1 : decide (48 ≤ (b.toNat : Int)) = false := by simpa using h1
    go_enter Try.func44, Try.ntmps44
    go_wp2
    go_ret
    exact ⟨by simp [e1], rfl⟩

set_option maxRecDepth 100000 in
set_option maxHeartbeats 2000000 in
theorem full_any (v d : Int) (w : World) : Calls Try.prog 45 #[.agg #[.int .i64 (v), .int .i64 (d)]] w fun e w' => e = .returned (.bool (full v d)) ∧ Below w.heap.size w w' := by
  by_cases h1 : d = 2
  · have e1 : (d == 2) = true := by simpa using h1
    have H := Lib.hid h1; clear h1
    go_enter Try.func45, Try.ntmps45
    go_wp2
    go_ret
    exact ⟨by unfold full; rw [e1]; rfl, by (repeat' (first | (with_reducible exact Below.refl _ _) | (with_reducible assumption) | (with_reducible refine Below.alloc ?_ ?_ _) | (with_reducible refine Below.drew ?_) | (with_reducible refine below_set ?_ ?_ _) | (with_reducible refine below_call ?_ ?_ (by assumption)) | (with_reducible exact Below.size (by assumption)) | omega | go_size))⟩
  · have e1 : (d == 2) = false := by simpa using h1
    by_cases h2 : d = 1
    · have e2 : (d == 1) = true := by simpa using h2
      have H := Lib.hid h2; clear h2 h1
      go_enter Try.func45, Try.ntmps45
      go_wp2
      go_ret
      exact ⟨by unfold full; rw [e1, e2]; rfl, by (repeat' (first | (with_reducible exact Below.refl _ _) | (with_reducible assumption) | (with_reducible refine Below.alloc ?_ ?_ _) | (with_reducible refine Below.drew ?_) | (with_reducible refine below_set ?_ ?_ _) | (with_reducible refine below_call ?_ ?_ (by assumption)) | (with_reducible exact Below.size (by assumption)) | omega | go_size))⟩
    · have e2 : (d == 1) = false := by simpa using h2
      clear h1 h2
      go_enter Try.func45, Try.ntmps45
      go_wp2
      go_ret
      exact ⟨by unfold full; rw [e1, e2]; rfl, by (repeat' (first | (with_reducible exact Below.refl _ _) | (with_reducible assumption) | (with_reducible refine Below.alloc ?_ ?_ _) | (with_reducible refine Below.drew ?_) | (with_reducible refine below_set ?_ ?_ _) | (with_reducible refine below_call ?_ ?_ (by assumption)) | (with_reducible exact Below.size (by assumption)) | omega | go_size))⟩

set_option maxRecDepth 100000 in
set_option maxHeartbeats 2000000 in
theorem with_any (v d : Int) (b : UInt8) (hn : Num v d) (hb : isDig b = true) (w : World) : Calls Try.prog 47 #[.agg #[.int .i64 (v), .int .i64 (d)], .int .u8 (b.toNat : Int)] w fun e w' => e = .returned (.agg #[.int .i64 (10 * v + dig b), .int .i64 (d + 1)]) ∧ Below w.heap.size w w' := by
  obtain ⟨h1, h2, h3, h4⟩ := hn.bd
  have h5 : 48 ≤ (b.toNat : Int) ∧ (b.toNat : Int) ≤ 57 := by unfold isDig at hb; simp at hb; omega
  obtain ⟨h6, h7⟩ := h5
  clear hn
  have HB := Lib.hid hb; clear hb
  go_enter Try.func47, Try.ntmps47
  go_wp2
  refine bodyPost_ret (v := .agg #[.int .i64 (10 * v + dig b), .int .i64 (d + 1)]) (by simp [results, Try.results47, go_sem, dig]) rfl ⟨rfl, ?_⟩
  (repeat' (first | (with_reducible exact Below.refl _ _) | (with_reducible assumption) | (with_reducible refine Below.alloc ?_ ?_ _) | (with_reducible refine Below.drew ?_) | (with_reducible refine below_set ?_ ?_ _) | (with_reducible refine below_call ?_ ?_ (by assumption)) | (with_reducible exact Below.size (by assumption)) | omega | go_size))

set_option maxRecDepth 100000 in
set_option maxHeartbeats 2000000 in
theorem most_any (v d : Int) (h0 : 0 ≤ v) (h1 : v ≤ 99) (w : World) : Calls Try.prog 53 #[.agg #[.int .i64 (v), .int .i64 (d)]] w fun e w' => e = .returned (.int .i64 (most v d)) ∧ Below w.heap.size w w' := by
  go_enter Try.func53, Try.ntmps53
  go_wp2_with fail
  refine (full_any v d _).mono ?_
  rintro e1 w1 ⟨rfl, hb1⟩
  have o1 : Slab w1 w.heap.size #[.int .i64 v, .int .i64 d] 56 := (Slab.new _ _ _).call hb1
  have HB := below_then ((Below.refl _ w).alloc (Nat.le_refl _) _) hb1
  clear hb1
  obtain ⟨c1, f1⟩ := o1.facts
  cases hf : full v d with
  | true =>
    have HF := Lib.hid hf; clear hf
    go_wp2
    go_ret
    exact ⟨by unfold most; rw [HF.out]; rfl, HB⟩
  | false =>
    have HF := Lib.hid hf; clear hf
    go_wp2
    go_ret
    exact ⟨by unfold most; rw [HF.out]; rfl, HB⟩

set_option maxRecDepth 100000 in
set_option maxHeartbeats 2000000 in
theorem fail_any (e i : Int) (h0 : -2 ≤ i) (h1 : i ≤ 9223372036854775806) (w : World) : Calls Try.prog 46 #[.int .i64 e, .int .i64 i] w fun e' w' => e' = .returned (resV (0, 0, 0, e, i + 1)) ∧ Below w.heap.size w w' := by
  go_enter Try.func46, Try.ntmps46
  go_wp2
  refine bodyPost_ret (v := resV (0, 0, 0, e, i + 1)) (by simp [results, Try.results46, go_sem]) rfl ⟨rfl, ?_⟩
  (repeat' (first | (with_reducible exact Below.refl _ _) | (with_reducible assumption) | (with_reducible refine Below.alloc ?_ ?_ _) | (with_reducible refine Below.drew ?_) | (with_reducible refine below_set ?_ ?_ _) | (with_reducible refine below_call ?_ ?_ (by assumption)) | (with_reducible exact Below.size (by assumption)) | omega | go_size))
end Go.Proofs.Ytgkfdjfoakbibaa
