/- Walks of the texts of words: lex.Text, lex.Print. -/
import Derived.Test.YtfcgmgpcbenfpaaProg
import Derived.WalkKit
import Derived.WalkSpells
import Derived.WalkLawsBesides
import Derived.Handy
import Derived.Lib.Hide
import Derived.Test.YtfcgmgpcbenfpaaLexB
import Derived.Test.YtfcgmgpcbenfpaaLexR
import Derived.Test.YtfcgmgpcbenfpaaBrkU
import Derived.Test.YtfcgmgpcbenfpaaMBset
import Derived.Test.YtfcgmgpcbenfpaaMBrb
import Derived.Deep.QuietTactic
set_option linter.unusedVariables false
set_option linter.unusedSimpArgs false
namespace Go.Proofs.Ytfcgmgpcbenfpaa
open Go.RowKit SetP BrkP LexP
set_option maxRecDepth 100000 in
theorem conv_textX (w : World) (a : Addr) (k cap : Nat) (l : List UInt8) (T : ByteArray) (hT : (⟨l.toArray⟩ : ByteArray) = T) (hk : l.length = k) (hc : ∀ j (hj : j < l.length), w.cell? (a.add j) = some (.int .u8 (l[j].toNat : Int))) :
    (convert 70 9 (.slice (some a) k cap)).run Try.prog w = .ok (.string T) w := by
  rw [conv_textU w a k cap l hk hc, hT]
theorem bneI (b k : UInt8) : ((b.toNat : Int) != (k.toNat : Int)) = !(b == k) := by unfold bne; rw [beqI]
theorem next_one {f : Nat → Bool} (h : (bytesF f).length = 1) : ∃ b : UInt8, SetP.nextF f 0 = (b.toNat : Int) ∧ chB (SetP.nextF f 0) = b := by
  obtain ⟨b, hb, hn, _⟩ := count_one h
  refine ⟨chB (SetP.nextF f 0), ?_, rfl⟩
  rw [hn]; exact (chB_nat (by omega) (by omega)).symm
end Go.Proofs.Ytfcgmgpcbenfpaa
