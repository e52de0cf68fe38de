/- Walks of the document's parser: all rows end; what bars a word. -/
import Derived.Test.YtfcgmgpcbenfpaaProg
import Derived.WalkKit
import Derived.WalkSpells
import Derived.WalkLawsBesides
import Derived.Handy
import Derived.Lib.Hide
import Derived.Test.YtfcgmgpcbenfpaaParE
import Derived.Deep.QuietTactic
import Derived.Deep.RegionLaw
import Derived.Deep.Cut
import Derived.BigQuiet
import Derived.Lib.QuietBelow
set_option linter.unusedVariables false
set_option linter.unusedSimpArgs false
namespace Go.Proofs.Ytfcgmgpcbenfpaa
open Go.RowKit SetP BrkP LexP AstP ParP
theorem Fr.refl (w : World) (n : Nat) (Ao : Option Addr) (co gp gr : Nat) : Fr w w n Ao co gp gr n Ao co gp gr := fun _ _ _ h f => ⟨h, f⟩
theorem Fr.trans {u v w : World} {n n1 n2 : Nat} {Ao A1 A2 : Option Addr} {co gp gr co1 gp1 gr1 co2 gp2 gr2 : Nat} (h : Fr u v n Ao co gp gr n1 A1 co1 gp1 gr1) (k : Fr v w n1 A1 co1 gp1 gr1 n2 A2 co2 gp2 gr2) : Fr u w n Ao co gp gr n2 A2 co2 gp2 gr2 :=
  fun b cs t hb hf => have ⟨h1, h2⟩ := h b cs t hb hf; k b cs t h1 h2
end Go.Proofs.Ytfcgmgpcbenfpaa
