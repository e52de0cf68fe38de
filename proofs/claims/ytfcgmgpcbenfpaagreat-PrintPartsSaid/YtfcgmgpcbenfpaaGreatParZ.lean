/- Plain facts: what a few fixed texts are as patterns. No program is in sight. -/
import Derived.Test.YtfcgmgpcbenfpaaGreatParP
set_option linter.unusedVariables false
set_option linter.unusedSimpArgs false
namespace Go.Proofs.YtfcgmgpcbenfpaaGreat
open Go.RowKit SetP BrkP LexP AstP
namespace ParP
theorem bt7 {s : ByteArray} {k : Nat} {b : UInt8} {x : PS} (h : bt s k = b) (hb : barF x b = 0) : barF x (bt s k) = 0 := by rw [h]; exact hb
end ParP
end Go.Proofs.YtfcgmgpcbenfpaaGreat
