/- Walks of the packages ast and gimletref06: may a node be; may it have a kid. -/
import Derived.Test.YtfcgmgpcbenfpaaProg
import Derived.WalkKit
import Derived.WalkSpells
import Derived.WalkLawsBesides
import Derived.Handy
import Derived.Lib.Hide
import Derived.Test.YtfcgmgpcbenfpaaMAsd
import Derived.Test.YtfcgmgpcbenfpaaMBset
import Derived.Test.YtfcgmgpcbenfpaaMBrc
import Derived.Deep.QuietTactic
import Derived.BigQuiet
set_option linter.unusedVariables false
set_option linter.unusedSimpArgs false
namespace Go.Proofs.Ytfcgmgpcbenfpaa
open Go.RowKit SetP AstP
attribute [local go_sem] run_eq_set0
abbrev ndV (x : Nd) : Value := .agg (ndCells x)
def emptyB (x : Nd) : Bool := same x.set (fun _ => false)
def bareB (x : Nd) : Bool := emptyB x && (x.n == 0 && x.m == 0)
def pieceB (k : Int) : Bool := k == 2 || (k == 3 || k == 4)
def aloneB (x : Nd) : Bool :=
  if x.kind == 1 then x.kids == 0 && bareB x else if x.kind == 2 then x.kids == 0 && (x.n == 0 && x.m == 0) else if x.kind == 3 then x.kids == 1 && bareB x
  else if x.kind == 4 then x.kids == 1 && (emptyB x && rightB x.n x.m) else if x.kind == 5 || x.kind == 6 then decide (2 ≤ x.kids) && bareB x else false
def holdsB (k j : Int) : Bool := if k == 4 || k == 5 then pieceB j else if k == 6 then j != 6 else true
def kidB (k j : Int) : Bool := if k == 3 then true else if k == 4 || k == 5 then pieceB j else if k == 6 then j != 6 else false
end Go.Proofs.Ytfcgmgpcbenfpaa

/- Walks of the packages ast and gimletref06: may a node be, whatever its kids are. -/
namespace Go.Proofs.Ytfcgmgpcbenfpaa
open Go.RowKit SetP AstP
attribute [local go_sem] run_eq_set0
theorem text_none (n m : Int) : ((⟨(textF n m).toArray⟩ : ByteArray).toList == []) = !rightB n m := by
  have e : (⟨(textF n m).toArray⟩ : ByteArray).toList = textF n m := by rw [ByteArray.toList_eq]
  rw [e]
  cases h : rightB n m with
  | true =>
    have := textF_pos h
    cases ht : textF n m with
    | nil => rw [ht] at this; simp at this
    | cons a l => rfl
  | false => unfold textF; rw [h]; rfl
end Go.Proofs.Ytfcgmgpcbenfpaa
