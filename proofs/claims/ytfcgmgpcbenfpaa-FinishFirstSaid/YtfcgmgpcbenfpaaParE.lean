/- Walks of the document's parser: a row ends, all rows end. -/
import Derived.Test.YtfcgmgpcbenfpaaProg
import Derived.WalkKit
import Derived.WalkSpells
import Derived.WalkLawsBesides
import Derived.Handy
import Derived.Lib.Hide
import Derived.Test.YtfcgmgpcbenfpaaParD
import Derived.Test.YtfcgmgpcbenfpaaParB
import Derived.Deep.QuietTactic
import Derived.BigQuiet
import Derived.Lib.QuietBelow
set_option linter.unusedVariables false
set_option linter.unusedSimpArgs false
namespace Go.Proofs.Ytfcgmgpcbenfpaa
open Go.RowKit SetP BrkP LexP AstP ParP
section
variable {w w' : World} {B g : Nat} {x : PS} {o : List Nd} {p r : Nat} {v : List (Nat × Nat)} {G : Nat} {Ao : Option Addr} {co gp cp gr cr : Nat}
end
/-- What a function leaves that hands back a state. -/
def Fr (w w' : World) (n : Nat) (Ao : Option Addr) (co gp gr : Nat) (n' : Nat) (Ao' : Option Addr) (co' gp' gr' : Nat) : Prop :=
  ∀ (k : Nat) (cs : Array Value) (t : TypeId), Slab w k cs t → Free k Ao n co gp gr → Slab w' k cs t ∧ Free k Ao' n' co' gp' gr'
def toSt (B : Nat) (x : PS) (Ao : Option Addr) (co gp gr : Nat) (y : PS) (w : World) (e : Ending) (w' : World) : Prop :=
  ∃ A1 c1 p1 q1 r1 s1, e = .returned (.agg (psCells y A1 c1 p1 q1 r1 s1)) ∧ Below B w w' ∧ StAt w' B y A1 c1 p1 q1 r1 s1 ∧ Fr w w' x.out.length Ao co gp gr y.out.length A1 c1 p1 r1
end Go.Proofs.Ytfcgmgpcbenfpaa
