/- Walks of the document's parser: what bars a word; a word more. -/
import Derived.Test.YtfcgmgpcbenfpaaProg
import Derived.WalkKit
import Derived.WalkSpells
import Derived.WalkLawsBesides
import Derived.Handy
import Derived.Lib.Hide
import Derived.Test.YtfcgmgpcbenfpaaParF
import Derived.Test.YtfcgmgpcbenfpaaParT
import Derived.Test.YtfcgmgpcbenfpaaLexA
import Derived.Deep.QuietTactic
import Derived.Deep.Cut
import Derived.BigQuiet
import Derived.Lib.QuietBelow
set_option linter.unusedVariables false
set_option linter.unusedSimpArgs false
namespace Go.Proofs.Ytfcgmgpcbenfpaa
open Go.RowKit SetP BrkP LexP AstP ParP
end Go.Proofs.Ytfcgmgpcbenfpaa
