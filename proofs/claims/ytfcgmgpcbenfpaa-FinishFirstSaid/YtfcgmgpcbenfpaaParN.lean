/- Walks of the document's parser: the tree of a pattern; what is open. -/
import Derived.Test.YtfcgmgpcbenfpaaProg
import Derived.WalkKit
import Derived.WalkSpells
import Derived.WalkLawsBesides
import Derived.Handy
import Derived.Lib.Hide
import Derived.Test.YtfcgmgpcbenfpaaParM
import Derived.Deep.QuietTactic
set_option linter.unusedVariables false
set_option linter.unusedSimpArgs false
namespace Go.Proofs.Ytfcgmgpcbenfpaa
open Go.RowKit SetP BrkP LexP AstP ParP
end Go.Proofs.Ytfcgmgpcbenfpaa
