/- Walks of the packages ast and gimletref06: may a node be; may it have a kid. -/
import Derived.Test.YtgkfdjfoakbibaaProg
import Derived.WalkKit
import Derived.WalkSpells
import Derived.WalkLawsBesides
import Derived.Handy
import Derived.Lib.Hide
import Derived.Test.YtgkfdjfoakbibaaAstF
import Derived.Test.YtgkfdjfoakbibaaEqS
import Derived.Test.YtgkfdjfoakbibaaLaw4b
import Derived.Deep.QuietTactic
import Derived.BigQuiet
namespace Go.Proofs.Ytgkfdjfoakbibaa
open Go.RowKit SetP AstP
attribute [local go_sem] run_eq_set0
abbrev ndV (x : Nd) : Value := .agg (ndCells x)
def emptyB (x : Nd) : Bool := same x.set (fun _ => false)
def bareB (x : Nd) : Bool := emptyB x && (x.n == 0 && x.m == 0)
def pieceB (k : Int) : Bool := k == 2 || (k == 3 || k == 4)
def aloneB (x : Nd) : Bool :=
  if x.kind == 1 then x.kids == 0 && bareB x else if x.kind == 2 then x.kids == 0 && (x.n == 0 && x.m == 0) else if x.kind == 3 then x.kids == 1 && bareB x
  else if x.kind == 4 then x.kids == 1 && (emptyB x && rightB x.n x.m) else if x.kind == 5 || x.kind == 6 then decide (2 ≤ x.kids) && bareB x else false
def holdsB (k j : Int) : Bool := if k == 4 || k == 5 then pieceB j else if k == 6 then j != 6 else true
def kidB (k j : Int) : Bool := if k == 3 then true else if k == 4 || k == 5 then pieceB j else if k == 6 then j != 6 else false
set_option maxRecDepth 100000 in
set_option maxHeartbeats 2000000 in
theorem bare_any (x : Nd) (w : World) : Calls Try.prog 50 #[ndV x] w fun e w' => e = .returned (.bool (bareB x)) ∧ Below w.heap.size w w' := by
  have hd : bareB x = (same x.set (fun _ => false) && (x.n == 0 && x.m == 0)) := rfl
  rw [hd]
  clear hd
  cases h1 : same x.set (fun _ => false) <;> cases h2 : (x.n == 0) <;> cases h3 : (x.m == 0)
  all_goals
    go_enter Try.func50, Try.ntmps50
    go_wp2
    go_ret
    exact ⟨rfl, by (repeat' (first | (with_reducible exact Below.refl _ _) | (with_reducible assumption) | (with_reducible refine Below.alloc ?_ ?_ _) | (with_reducible refine Below.drew ?_) | (with_reducible refine below_set ?_ ?_ _) | (with_reducible refine below_call ?_ ?_ (by assumption)) | (with_reducible exact Below.size (by assumption)) | omega | go_size))⟩
set_option maxRecDepth 100000 in
set_option maxHeartbeats 2000000 in
theorem piece_any (k : Int) (w : World) : Calls Try.prog 51 #[.int .i64 k] w fun e w' => e = .returned (.bool (pieceB k)) ∧ w' = w := by
  unfold pieceB
  cases h1 : (k == 2) <;> cases h2 : (k == 3) <;> cases h3 : (k == 4)
  all_goals
    go_enter Try.func51, Try.ntmps51
    go_wp2
    go_ret
    exact ⟨rfl, rfl⟩
set_option maxRecDepth 100000 in
set_option maxHeartbeats 2000000 in
theorem rpiece_any (k : Int) (w : World) : Calls Try.prog 52 #[.int .i64 k] w fun e w' => e = .returned (.bool (pieceB k)) ∧ w' = w := by
  unfold pieceB
  cases h1 : (k == 2) <;> cases h2 : (k == 3) <;> cases h3 : (k == 4)
  all_goals
    go_enter Try.func52, Try.ntmps52
    go_wp2
    go_ret
    exact ⟨rfl, rfl⟩
set_option maxRecDepth 100000 in
set_option maxHeartbeats 2000000 in
theorem holds_any (k j : Int) (w : World) : Calls Try.prog 39 #[.int .i64 k, .int .i64 j] w fun e w' => e = .returned (.bool (holdsB k j)) ∧ w' = w := by
  unfold holdsB
  cases h4 : (k == 4) with
  | true =>
    go_enter Try.func39, Try.ntmps39
    go_wp2_with fail
    refine (piece_any j _).mono ?_
    rintro e1 w1 ⟨rfl, rfl⟩
    go_wp2
    go_ret
    exact ⟨rfl, rfl⟩
  | false =>
  cases h5 : (k == 5) with
  | true =>
    go_enter Try.func39, Try.ntmps39
    go_wp2_with fail
    refine (piece_any j _).mono ?_
    rintro e1 w1 ⟨rfl, rfl⟩
    go_wp2
    go_ret
    exact ⟨rfl, rfl⟩
  | false =>
  cases h6 : (k == 6)
  all_goals
    go_enter Try.func39, Try.ntmps39
    go_wp2
    go_ret
    exact ⟨rfl, rfl⟩
set_option maxRecDepth 100000 in
set_option maxHeartbeats 2000000 in
theorem kid_any (k j : Int) (w : World) : Calls Try.prog 41 #[.int .i64 k, .int .i64 j] w fun e w' => e = .returned (.bool (kidB k j)) ∧ w' = w := by
  unfold kidB
  cases h3 : (k == 3) with
  | true =>
    go_enter Try.func41, Try.ntmps41
    go_wp2
    go_ret
    exact ⟨rfl, rfl⟩
  | false =>
  cases h4 : (k == 4) with
  | true =>
    go_enter Try.func41, Try.ntmps41
    go_wp2_with fail
    refine (rpiece_any j _).mono ?_
    rintro e1 w1 ⟨rfl, rfl⟩
    go_wp2
    go_ret
    exact ⟨rfl, rfl⟩
  | false =>
  cases h5 : (k == 5) with
  | true =>
    go_enter Try.func41, Try.ntmps41
    go_wp2_with fail
    refine (rpiece_any j _).mono ?_
    rintro e1 w1 ⟨rfl, rfl⟩
    go_wp2
    go_ret
    exact ⟨rfl, rfl⟩
  | false =>
  cases h6 : (k == 6)
  all_goals
    go_enter Try.func41, Try.ntmps41
    go_wp2
    go_ret
    exact ⟨rfl, rfl⟩
end Go.Proofs.Ytgkfdjfoakbibaa
