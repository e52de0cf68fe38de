/- Walks of the packages ast and gimletref06: may a node be; may it have a kid. -/
import Derived.Test.YtddokdjlmdoebaaProg
import Derived.WalkKit
import Derived.WalkSpells
import Derived.WalkLawsBesides
import Derived.Handy
import Derived.Lib.Hide
import Derived.Test.YtddokdjlmdoebaaMAsd
import Derived.Test.YtddokdjlmdoebaaMBset
import Derived.Test.YtddokdjlmdoebaaMBrc
import Derived.Deep.QuietTactic
import Derived.BigQuiet
set_option linter.unusedVariables false
set_option linter.unusedSimpArgs false
namespace Go.Proofs.Ytddokdjlmdoebaa
open Go.RowKit SetP AstP
attribute [local go_sem] run_eq_set0
abbrev ndV (x : Nd) : Value := .agg (ndCells x)
def emptyB (x : Nd) : Bool := same x.set (fun _ => false)
def bareB (x : Nd) : Bool := emptyB x && (x.n == 0 && x.m == 0)
def pieceB (k : Int) : Bool := k == 2 || (k == 3 || k == 4)
def aloneB (x : Nd) : Bool :=
  if x.kind == 1 then x.kids == 0 && bareB x else if x.kind == 2 then x.kids == 0 && (x.n == 0 && x.m == 0) else if x.kind == 3 then x.kids == 1 && bareB x
  else if x.kind == 4 then x.kids == 1 && (emptyB x && rightB x.n x.m) else if x.kind == 5 || x.kind == 6 then decide (2 ≤ x.kids) && bareB x else false
def holdsB (k j : Int) : Bool := if k == 4 || k == 5 then pieceB j else if k == 6 then j != 6 else true
def kidB (k j : Int) : Bool := if k == 3 then true else if k == 4 || k == 5 then pieceB j else if k == 6 then j != 6 else false
set_option maxRecDepth 100000 in
set_option maxHeartbeats 2000000 in
theorem bare_any (x : Nd) (w : World) : Calls Try.prog 132 #[ndV x] w fun e w' => e = .returned (.bool (bareB x)) ∧ Below w.heap.size w w' := by
  have hd : bareB x = (same x.set (fun _ => false) && (x.n == 0 && x.m == 0)) := rfl
  rw [hd]
  clear hd
  cases h1 : same x.set (fun _ => false) <;> cases h2 : (x.n == 0) <;> cases h3 : (x.m == 0)
  all_goals
    go_enter Try.func132, Try.ntmps132
    go_wp2
    go_ret
    exact ⟨rfl, by (repeat' (first | (with_reducible exact Below.refl _ _) | (with_reducible assumption) | (with_reducible refine Below.alloc ?_ ?_ _) | (with_reducible refine Below.drew ?_) | (with_reducible refine below_set ?_ ?_ _) | (with_reducible refine below_call ?_ ?_ (by assumption)) | (with_reducible exact Below.size (by assumption)) | omega | go_size))⟩
set_option maxRecDepth 100000 in
set_option maxHeartbeats 2000000 in
theorem piece_any (k : Int) (w : World) : Calls Try.prog 133 #[.int .i64 k] w fun e w' => e = .returned (.bool (pieceB k)) ∧ w' = w := by
  unfold pieceB
  cases h1 : (k == 2) <;> cases h2 : (k == 3) <;> cases h3 : (k == 4)
  all_goals
    go_enter Try.func133, Try.ntmps133
    go_wp2
    go_ret
    exact ⟨rfl, rfl⟩
set_option maxRecDepth 100000 in
set_option maxHeartbeats 2000000 in
theorem rpiece_any (k : Int) (w : World) : Calls Try.prog 100 #[.int .i64 k] w fun e w' => e = .returned (.bool (pieceB k)) ∧ w' = w := by
  unfold pieceB
  cases h1 : (k == 2) <;> cases h2 : (k == 3) <;> cases h3 : (k == 4)
  all_goals
    go_enter Try.func100, Try.ntmps100
    go_wp2
    go_ret
    exact ⟨rfl, rfl⟩
set_option maxRecDepth 100000 in
set_option maxHeartbeats 2000000 in
theorem holds_any (k j : Int) (w : World) : Calls Try.prog 84 #[.int .i64 k, .int .i64 j] w fun e w' => e = .returned (.bool (holdsB k j)) ∧ w' = w := by
  unfold holdsB
  cases h4 : (k == 4) with
  | true =>
    go_enter Try.func84, Try.ntmps84
    go_wp2_with fail
    refine (piece_any j _).mono ?_
    rintro e1 w1 ⟨rfl, rfl⟩
    go_wp2
    go_ret
    exact ⟨rfl, rfl⟩
  | false =>
  cases h5 : (k == 5) with
  | true =>
    go_enter Try.func84, Try.ntmps84
    go_wp2_with fail
    refine (piece_any j _).mono ?_
    rintro e1 w1 ⟨rfl, rfl⟩
    go_wp2
    go_ret
    exact ⟨rfl, rfl⟩
  | false =>
  cases h6 : (k == 6)
  all_goals
    go_enter Try.func84, Try.ntmps84
    go_wp2
    go_ret
    exact ⟨rfl, rfl⟩
set_option maxRecDepth 100000 in
set_option maxHeartbeats 2000000 in
theorem kid_any (k j : Int) (w : World) : Calls Try.prog 60 #[.int .i64 k, .int .i64 j] w fun e w' => e = .returned (.bool (kidB k j)) ∧ w' = w := by
  unfold kidB
  cases h3 : (k == 3) with
  | true =>
    go_enter Try.func60, Try.ntmps60
    go_wp2
    go_ret
    exact ⟨rfl, rfl⟩
  | false =>
  cases h4 : (k == 4) with
  | true =>
    go_enter Try.func60, Try.ntmps60
    go_wp2_with fail
    refine (rpiece_any j _).mono ?_
    rintro e1 w1 ⟨rfl, rfl⟩
    go_wp2
    go_ret
    exact ⟨rfl, rfl⟩
  | false =>
  cases h5 : (k == 5) with
  | true =>
    go_enter Try.func60, Try.ntmps60
    go_wp2_with fail
    refine (rpiece_any j _).mono ?_
    rintro e1 w1 ⟨rfl, rfl⟩
    go_wp2
    go_ret
    exact ⟨rfl, rfl⟩
  | false =>
  cases h6 : (k == 6)
  all_goals
    go_enter Try.func60, Try.ntmps60
    go_wp2
    go_ret
    exact ⟨rfl, rfl⟩
end Go.Proofs.Ytddokdjlmdoebaa

/- Walks of the packages ast and gimletref06: may a node be, whatever its kids are. -/
namespace Go.Proofs.Ytddokdjlmdoebaa
open Go.RowKit SetP AstP
attribute [local go_sem] run_eq_set0
theorem text_none (n m : Int) : ((⟨(textF n m).toArray⟩ : ByteArray).toList == []) = !rightB n m := by
  have e : (⟨(textF n m).toArray⟩ : ByteArray).toList = textF n m := by rw [ByteArray.toList_eq]
  rw [e]
  cases h : rightB n m with
  | true =>
    have := textF_pos h
    cases ht : textF n m with
    | nil => rw [ht] at this; simp at this
    | cons a l => rfl
  | false => unfold textF; rw [h]; rfl
set_option maxRecDepth 100000 in
set_option maxHeartbeats 2000000 in
theorem alone_any (x : Nd) (w : World) : Calls Try.prog 83 #[ndV x] w fun e w' => e = .returned (.bool (aloneB x)) ∧ Below w.heap.size w w' := by
  obtain ⟨E, hE⟩ : ∃ E, emptyB x = E := ⟨_, rfl⟩
  have hS : same x.set (fun _ => false) = E := hE
  have hd : aloneB x = (if x.kind == 1 then x.kids == 0 && bareB x else if x.kind == 2 then x.kids == 0 && (x.n == 0 && x.m == 0) else if x.kind == 3 then x.kids == 1 && bareB x
    else if x.kind == 4 then x.kids == 1 && (E && rightB x.n x.m) else if x.kind == 5 || x.kind == 6 then decide (2 ≤ x.kids) && bareB x else false) := by rw [← hE]; rfl
  rw [hd]
  clear hd hE
  cases k1 : (x.kind == 1) with
  | true =>
    cases k0 : (x.kids == 0) with
    | true => go_enter Try.func83, Try.ntmps83
              go_wp2_with fail
              refine (bare_any x _).mono ?_
              rintro e1 w1 ⟨rfl, hb1⟩
              have hb := ((Below.refl w.heap.size w).alloc (Nat.le_refl _) (.cells (ndCells x) 43)).trans (hb1.mono (by simp))
              go_wp2
              go_ret
              exact ⟨rfl, hb⟩
    | false =>
      go_enter Try.func83, Try.ntmps83
      go_wp2
      go_ret
      exact ⟨rfl, by (repeat' (first | (with_reducible exact Below.refl _ _) | (with_reducible assumption) | (with_reducible refine Below.alloc ?_ ?_ _) | (with_reducible refine Below.drew ?_) | (with_reducible refine below_set ?_ ?_ _) | (with_reducible refine below_call ?_ ?_ (by assumption)) | (with_reducible exact Below.size (by assumption)) | omega | go_size))⟩
  | false =>
  cases k2 : (x.kind == 2) with
  | true =>
    cases c1 : (x.kids == 0) <;> cases c2 : (x.n == 0) <;> cases c3 : (x.m == 0)
    all_goals
      go_enter Try.func83, Try.ntmps83
      go_wp2
      go_ret
      exact ⟨rfl, by (repeat' (first | (with_reducible exact Below.refl _ _) | (with_reducible assumption) | (with_reducible refine Below.alloc ?_ ?_ _) | (with_reducible refine Below.drew ?_) | (with_reducible refine below_set ?_ ?_ _) | (with_reducible refine below_call ?_ ?_ (by assumption)) | (with_reducible exact Below.size (by assumption)) | omega | go_size))⟩
  | false =>
  cases k3 : (x.kind == 3) with
  | true =>
    cases k0 : (x.kids == 1) with
    | true => go_enter Try.func83, Try.ntmps83
              go_wp2_with fail
              refine (bare_any x _).mono ?_
              rintro e1 w1 ⟨rfl, hb1⟩
              have hb := ((Below.refl w.heap.size w).alloc (Nat.le_refl _) (.cells (ndCells x) 43)).trans (hb1.mono (by simp))
              go_wp2
              go_ret
              exact ⟨rfl, hb⟩
    | false =>
      go_enter Try.func83, Try.ntmps83
      go_wp2
      go_ret
      exact ⟨rfl, by (repeat' (first | (with_reducible exact Below.refl _ _) | (with_reducible assumption) | (with_reducible refine Below.alloc ?_ ?_ _) | (with_reducible refine Below.drew ?_) | (with_reducible refine below_set ?_ ?_ _) | (with_reducible refine below_call ?_ ?_ (by assumption)) | (with_reducible exact Below.size (by assumption)) | omega | go_size))⟩
  | false =>
  cases k4 : (x.kind == 4) with
  | true =>
    cases c1 : (x.kids == 1) with
    | false =>
      go_enter Try.func83, Try.ntmps83
      go_wp2
      go_ret
      exact ⟨rfl, by (repeat' (first | (with_reducible exact Below.refl _ _) | (with_reducible assumption) | (with_reducible refine Below.alloc ?_ ?_ _) | (with_reducible refine Below.drew ?_) | (with_reducible refine below_set ?_ ?_ _) | (with_reducible refine below_call ?_ ?_ (by assumption)) | (with_reducible exact Below.size (by assumption)) | omega | go_size))⟩
    | true =>
    cases E with
    | false =>
      go_enter Try.func83, Try.ntmps83
      go_wp2
      go_ret
      exact ⟨rfl, by (repeat' (first | (with_reducible exact Below.refl _ _) | (with_reducible assumption) | (with_reducible refine Below.alloc ?_ ?_ _) | (with_reducible refine Below.drew ?_) | (with_reducible refine below_set ?_ ?_ _) | (with_reducible refine below_call ?_ ?_ (by assumption)) | (with_reducible exact Below.size (by assumption)) | omega | go_size))⟩
    | true =>
      have CT := text_any x.n x.m
      have hT := text_none x.n x.m
      unfold strV at CT
      generalize (⟨(textF x.n x.m).toArray⟩ : ByteArray) = S at *
      cases hr : rightB x.n x.m with
      | true =>
        rw [hr] at hT
        have e3 : (S.toList == []) = false := hT
        have e0 : S.toList ≠ [] := by simpa using e3
        have e4 : S.toList.isEmpty = false := by simpa using e0
        go_enter Try.func83, Try.ntmps83
        go_wp2_with fail
        refine (CT _).mono ?_
        rintro e1 w1 ⟨rfl, hb1⟩
        have hb := ((Below.refl w.heap.size w).alloc (Nat.le_refl _) (.cells (ndCells x) 43)).trans (hb1.mono (by simp))
        go_wp2
        go_ret
        exact ⟨rfl, hb⟩
      | false =>
        rw [hr] at hT
        have e3 : (S.toList == []) = true := hT
        have e0 : S.toList = [] := by simpa using e3
        have e4 : S.toList.isEmpty = true := by simpa using e0
        go_enter Try.func83, Try.ntmps83
        go_wp2_with fail
        refine (CT _).mono ?_
        rintro e1 w1 ⟨rfl, hb1⟩
        have hb := ((Below.refl w.heap.size w).alloc (Nat.le_refl _) (.cells (ndCells x) 43)).trans (hb1.mono (by simp))
        go_wp2
        go_ret
        exact ⟨rfl, hb⟩
  | false =>
  cases k5 : (x.kind == 5) with
  | true =>
    cases k0 : decide (2 ≤ x.kids) with
    | true => go_enter Try.func83, Try.ntmps83
              go_wp2_with fail
              refine (bare_any x _).mono ?_
              rintro e1 w1 ⟨rfl, hb1⟩
              have hb := ((Below.refl w.heap.size w).alloc (Nat.le_refl _) (.cells (ndCells x) 43)).trans (hb1.mono (by simp))
              go_wp2
              go_ret
              exact ⟨rfl, hb⟩
    | false =>
      go_enter Try.func83, Try.ntmps83
      go_wp2
      go_ret
      exact ⟨rfl, by (repeat' (first | (with_reducible exact Below.refl _ _) | (with_reducible assumption) | (with_reducible refine Below.alloc ?_ ?_ _) | (with_reducible refine Below.drew ?_) | (with_reducible refine below_set ?_ ?_ _) | (with_reducible refine below_call ?_ ?_ (by assumption)) | (with_reducible exact Below.size (by assumption)) | omega | go_size))⟩
  | false =>
  cases k6 : (x.kind == 6) with
  | true =>
    cases k0 : decide (2 ≤ x.kids) with
    | true => go_enter Try.func83, Try.ntmps83
              go_wp2_with fail
              refine (bare_any x _).mono ?_
              rintro e1 w1 ⟨rfl, hb1⟩
              have hb := ((Below.refl w.heap.size w).alloc (Nat.le_refl _) (.cells (ndCells x) 43)).trans (hb1.mono (by simp))
              go_wp2
              go_ret
              exact ⟨rfl, hb⟩
    | false =>
      go_enter Try.func83, Try.ntmps83
      go_wp2
      go_ret
      exact ⟨rfl, by (repeat' (first | (with_reducible exact Below.refl _ _) | (with_reducible assumption) | (with_reducible refine Below.alloc ?_ ?_ _) | (with_reducible refine Below.drew ?_) | (with_reducible refine below_set ?_ ?_ _) | (with_reducible refine below_call ?_ ?_ (by assumption)) | (with_reducible exact Below.size (by assumption)) | omega | go_size))⟩
  | false =>
    go_enter Try.func83, Try.ntmps83
    go_wp2
    go_ret
    exact ⟨rfl, by (repeat' (first | (with_reducible exact Below.refl _ _) | (with_reducible assumption) | (with_reducible refine Below.alloc ?_ ?_ _) | (with_reducible refine Below.drew ?_) | (with_reducible refine below_set ?_ ?_ _) | (with_reducible refine below_call ?_ ?_ (by assumption)) | (with_reducible exact Below.size (by assumption)) | omega | go_size))⟩
set_option maxRecDepth 100000 in
set_option maxHeartbeats 2000000 in
theorem node_any (x : Nd) (w : World) : Calls Try.prog 59 #[ndV x] w fun e w' => e = .returned (.bool (aloneB x)) ∧ Below w.heap.size w w' := by
  obtain ⟨E, hE⟩ : ∃ E, emptyB x = E := ⟨_, rfl⟩
  have hS : same x.set (fun _ => false) = E := hE
  have hd : aloneB x = (if x.kind == 1 then x.kids == 0 && (E && (x.n == 0 && x.m == 0)) else if x.kind == 2 then x.kids == 0 && (x.n == 0 && x.m == 0) else if x.kind == 3 then x.kids == 1 && (E && (x.n == 0 && x.m == 0))
    else if x.kind == 4 then x.kids == 1 && (E && rightB x.n x.m) else if x.kind == 5 || x.kind == 6 then decide (2 ≤ x.kids) && (E && (x.n == 0 && x.m == 0)) else false) := by rw [← hE]; rfl
  rw [hd]
  clear hd hE
  cases k2 : (x.kind == 2) with
  | true =>
    have hk : x.kind = 2 := by simpa using k2
    have k2n : (x.kind != 2) = false := by rw [hk]; rfl
    have k4n : (x.kind != 4) = true := by rw [hk]; rfl
    have k1 : (x.kind == 1) = false := by rw [hk]; rfl
    cases c1 : (x.kids == 0) <;> cases c2 : (x.n == 0) <;> cases c3 : (x.m == 0) <;> cases E
    all_goals
      have c2n : (x.n != 0) = !(x.n == 0) := rfl
      have c3n : (x.m != 0) = !(x.m == 0) := rfl
      rw [c2] at c2n
      rw [c3] at c3n
      clear hk
      go_enter Try.func59, Try.ntmps59
      go_wp2
      go_ret
      exact ⟨rfl, by (repeat' (first | (with_reducible exact Below.refl _ _) | (with_reducible assumption) | (with_reducible refine Below.alloc ?_ ?_ _) | (with_reducible refine Below.drew ?_) | (with_reducible refine below_set ?_ ?_ _) | (with_reducible refine below_call ?_ ?_ (by assumption)) | (with_reducible exact Below.size (by assumption)) | omega | go_size))⟩
  | false =>
  have k2n : (x.kind != 2) = true := by unfold bne; rw [k2]; rfl
  cases E with
  | false =>
    cases k1 : (x.kind == 1) <;> cases k3 : (x.kind == 3) <;> cases k4 : (x.kind == 4) <;> cases k5 : (x.kind == 5) <;> cases k6 : (x.kind == 6)
    all_goals
      simp only [Bool.false_and, Bool.and_false, Bool.or_false, Bool.or_true, Bool.or_self, if_true, Bool.false_eq_true, if_false, ite_self]
      clear k1 k3 k4 k5 k6
      go_enter Try.func59, Try.ntmps59
      go_wp2
      go_ret
      exact ⟨rfl, by (repeat' (first | (with_reducible exact Below.refl _ _) | (with_reducible assumption) | (with_reducible refine Below.alloc ?_ ?_ _) | (with_reducible refine Below.drew ?_) | (with_reducible refine below_set ?_ ?_ _) | (with_reducible refine below_call ?_ ?_ (by assumption)) | (with_reducible exact Below.size (by assumption)) | omega | go_size))⟩
  | true =>
  cases k4 : (x.kind == 4) with
  | true =>
    have hk : x.kind = 4 := by simpa using k4
    have k4n : (x.kind != 4) = false := by rw [hk]; rfl
    have k1 : (x.kind == 1) = false := by rw [hk]; rfl
    have k3 : (x.kind == 3) = false := by rw [hk]; rfl
    rw [k1, k3]
    clear hk
    cases c1 : (x.kids == 1) with
    | false =>
      go_enter Try.func59, Try.ntmps59
      go_wp2
      go_ret
      exact ⟨rfl, by (repeat' (first | (with_reducible exact Below.refl _ _) | (with_reducible assumption) | (with_reducible refine Below.alloc ?_ ?_ _) | (with_reducible refine Below.drew ?_) | (with_reducible refine below_set ?_ ?_ _) | (with_reducible refine below_call ?_ ?_ (by assumption)) | (with_reducible exact Below.size (by assumption)) | omega | go_size))⟩
    | true =>
      go_enter Try.func59, Try.ntmps59
      go_wp2_with fail
      refine (rright_any x.n x.m _).mono ?_
      rintro e1 w1 ⟨rfl, rfl⟩
      go_wp2
      go_ret
      exact ⟨rfl, by (repeat' (first | (with_reducible exact Below.refl _ _) | (with_reducible assumption) | (with_reducible refine Below.alloc ?_ ?_ _) | (with_reducible refine Below.drew ?_) | (with_reducible refine below_set ?_ ?_ _) | (with_reducible refine below_call ?_ ?_ (by assumption)) | (with_reducible exact Below.size (by assumption)) | omega | go_size))⟩
  | false =>
  have k4n : (x.kind != 4) = true := by unfold bne; rw [k4]; rfl
  cases c2 : (x.n == 0) with
  | false =>
    have c2n : (x.n != 0) = true := by unfold bne; rw [c2]; rfl
    cases k1 : (x.kind == 1) <;> cases k3 : (x.kind == 3) <;> cases k5 : (x.kind == 5) <;> cases k6 : (x.kind == 6)
    all_goals
      simp only [Bool.false_and, Bool.and_false, Bool.or_false, Bool.or_true, Bool.or_self, if_true, Bool.false_eq_true, if_false, ite_self]
      clear k1 k3 k5 k6
      go_enter Try.func59, Try.ntmps59
      go_wp2
      go_ret
      exact ⟨rfl, by (repeat' (first | (with_reducible exact Below.refl _ _) | (with_reducible assumption) | (with_reducible refine Below.alloc ?_ ?_ _) | (with_reducible refine Below.drew ?_) | (with_reducible refine below_set ?_ ?_ _) | (with_reducible refine below_call ?_ ?_ (by assumption)) | (with_reducible exact Below.size (by assumption)) | omega | go_size))⟩
  | true =>
  have c2n : (x.n != 0) = false := by unfold bne; rw [c2]; rfl
  cases c3 : (x.m == 0) with
  | false =>
    have c3n : (x.m != 0) = true := by unfold bne; rw [c3]; rfl
    cases k1 : (x.kind == 1) <;> cases k3 : (x.kind == 3) <;> cases k5 : (x.kind == 5) <;> cases k6 : (x.kind == 6)
    all_goals
      simp only [Bool.false_and, Bool.and_false, Bool.or_false, Bool.or_true, Bool.or_self, if_true, Bool.false_eq_true, if_false, ite_self]
      clear k1 k3 k5 k6
      go_enter Try.func59, Try.ntmps59
      go_wp2
      go_ret
      exact ⟨rfl, by (repeat' (first | (with_reducible exact Below.refl _ _) | (with_reducible assumption) | (with_reducible refine Below.alloc ?_ ?_ _) | (with_reducible refine Below.drew ?_) | (with_reducible refine below_set ?_ ?_ _) | (with_reducible refine below_call ?_ ?_ (by assumption)) | (with_reducible exact Below.size (by assumption)) | omega | go_size))⟩
  | true =>
  have c3n : (x.m != 0) = false := by unfold bne; rw [c3]; rfl
  cases k1 : (x.kind == 1) with
  | true =>
    cases c1 : (x.kids == 0)
    all_goals
      go_enter Try.func59, Try.ntmps59
      go_wp2
      go_ret
      exact ⟨rfl, by (repeat' (first | (with_reducible exact Below.refl _ _) | (with_reducible assumption) | (with_reducible refine Below.alloc ?_ ?_ _) | (with_reducible refine Below.drew ?_) | (with_reducible refine below_set ?_ ?_ _) | (with_reducible refine below_call ?_ ?_ (by assumption)) | (with_reducible exact Below.size (by assumption)) | omega | go_size))⟩
  | false =>
  cases k3 : (x.kind == 3) with
  | true =>
    cases c1 : (x.kids == 1)
    all_goals
      go_enter Try.func59, Try.ntmps59
      go_wp2
      go_ret
      exact ⟨rfl, by (repeat' (first | (with_reducible exact Below.refl _ _) | (with_reducible assumption) | (with_reducible refine Below.alloc ?_ ?_ _) | (with_reducible refine Below.drew ?_) | (with_reducible refine below_set ?_ ?_ _) | (with_reducible refine below_call ?_ ?_ (by assumption)) | (with_reducible exact Below.size (by assumption)) | omega | go_size))⟩
  | false =>
  cases k5 : (x.kind == 5) with
  | true =>
    cases c1 : decide (2 ≤ x.kids)
    all_goals
      go_enter Try.func59, Try.ntmps59
      go_wp2
      go_ret
      exact ⟨rfl, by (repeat' (first | (with_reducible exact Below.refl _ _) | (with_reducible assumption) | (with_reducible refine Below.alloc ?_ ?_ _) | (with_reducible refine Below.drew ?_) | (with_reducible refine below_set ?_ ?_ _) | (with_reducible refine below_call ?_ ?_ (by assumption)) | (with_reducible exact Below.size (by assumption)) | omega | go_size))⟩
  | false =>
  cases k6 : (x.kind == 6) with
  | true =>
    cases c1 : decide (2 ≤ x.kids)
    all_goals
      go_enter Try.func59, Try.ntmps59
      go_wp2
      go_ret
      exact ⟨rfl, by (repeat' (first | (with_reducible exact Below.refl _ _) | (with_reducible assumption) | (with_reducible refine Below.alloc ?_ ?_ _) | (with_reducible refine Below.drew ?_) | (with_reducible refine below_set ?_ ?_ _) | (with_reducible refine below_call ?_ ?_ (by assumption)) | (with_reducible exact Below.size (by assumption)) | omega | go_size))⟩
  | false =>
    go_enter Try.func59, Try.ntmps59
    go_wp2
    go_ret
    exact ⟨rfl, by (repeat' (first | (with_reducible exact Below.refl _ _) | (with_reducible assumption) | (with_reducible refine Below.alloc ?_ ?_ _) | (with_reducible refine Below.drew ?_) | (with_reducible refine below_set ?_ ?_ _) | (with_reducible refine below_call ?_ ?_ (by assumption)) | (with_reducible exact Below.size (by assumption)) | omega | go_size))⟩
end Go.Proofs.Ytddokdjlmdoebaa
