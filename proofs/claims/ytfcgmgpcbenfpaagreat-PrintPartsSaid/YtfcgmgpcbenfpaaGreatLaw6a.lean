/- AstTells, AstKids, AstNumbers, walked. -/
import Derived.Test.YtfcgmgpcbenfpaaGreatProg
import Derived.WalkKit
import Derived.WalkSpells
import Derived.WalkLawsBesides
import Derived.Handy
import Derived.Lib.Hide
import Derived.Test.YtfcgmgpcbenfpaaGreatLaw6
set_option linter.unusedVariables false
set_option linter.unusedSimpArgs false
namespace Go.Proofs.YtfcgmgpcbenfpaaGreat
open Go.RowKit SetP AstP
/-- A list that came in: of few nodes it is known what they are. -/
def Came (w : World) (A : Option Addr) (n : Nat) : Prop := n ≤ 60 → ∃ L : List Nd, L.length = n ∧ NodesAt w w.heap.size A L
end Go.Proofs.YtfcgmgpcbenfpaaGreat
