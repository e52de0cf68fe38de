/-
  No cell of these rows narrows 'for every input' (looked for: loops, veiled, ifaces, maps, wideKeys, modest, calm, conditions, laid).
  DERIVED. THE GIVEN ROWS OF THIS SEAT. 6 by the template 'for every input the law returns true; each argument reads behind the call as it read before'; 0 by the template 'total and deterministic' (their statements: YtfcgmgpcbenfpaaGreatTotals.lean).
  GIVEN WITH THE SEED: the statements are not yours to turn. If you find one false, say at which input.
  Laid BY PROGRAM, IN A SANDBOX (cutbox-rows.mjs): the forced cells as the released guide's own fill.sh prints them over the translation ea2ce33100cb0ead… (all of the seat's roots in one cut). By AI agents, Wed Nov 11 2026. No macro, syntax, notation, axiom, sorry.
-/
import Derived.Test.YtfcgmgpcbenfpaaGreatChecked
import GoSem.Claim
import GoSem.ClaimJoined
import GoSem.ClaimMapViews
import Derived.JoinedTies
import Derived.KernelRfl
namespace Go.Proofs.YtfcgmgpcbenfpaaGreat
/- THE CELL 'sum', in the pinned program and in every row, IS THE sha256 OF THE DUMP (.gsa) THAT YtfcgmgpcbenfpaaGreatProg.lean LOADS. Nothing in Lean hashes anything: it is a label: what it is worth is what the hold of that sum in a sandbox is worth. -/
noncomputable def Tryz.pinned : Pinned := { name := "ytfcgmgpcbenfpaagreat", sum := "ea2ce33100cb0ead3c69bb497ec4d7e87f8731014753105538eb218df1bce129", checked := Tryz.checked }
namespace Rows
def none {H : Type} : Left H := { results := [], args := [] }

/-- 'gimletlaw08.FinishTells': WHATEVER THE INPUT: true; the input reads as it did. -/
def finishTellsSpec : ChangeSpec := { name := "finishTells", fn := fun _ => fun
  | [d] => { results := [.lit (.bool true)], args := [d] }
  | _ => none }
def finishTellsRow : OpenClaim := { program := "ytfcgmgpcbenfpaagreat", sum := "ea2ce33100cb0ead3c69bb497ec4d7e87f8731014753105538eb218df1bce129", func := "gimlet/gimletlaw08.FinishTells", spec := "finishTells", inPlace := ["internal/abi.NoEscape", "internal/bytealg.MakeNoZero"], unfollowed := true, recurses := true, apart := false }
def FinishTellsSaid : Prop := finishTellsRow.holds Tryz.pinned (OpenSpec.ofChange finishTellsSpec)

/-- ITS FALSE NEIGHBOUR: 'it returns false'. Refute it at one input. -/
def finishTellsWrong : ChangeSpec := { name := "finishTells", fn := fun _ => fun
  | [d] => { results := [.lit (.bool false)], args := [d] }
  | _ => none }
def FinishTellsWrongFalsely : Prop := finishTellsRow.holds Tryz.pinned (OpenSpec.ofChange finishTellsWrong)

/-- 'gimletlaw08.FinishMakes': WHATEVER THE INPUT: true; the input reads as it did. -/
def finishMakesSpec : ChangeSpec := { name := "finishMakes", fn := fun _ => fun
  | [d] => { results := [.lit (.bool true)], args := [d] }
  | _ => none }
def finishMakesRow : OpenClaim := { program := "ytfcgmgpcbenfpaagreat", sum := "ea2ce33100cb0ead3c69bb497ec4d7e87f8731014753105538eb218df1bce129", func := "gimlet/gimletlaw08.FinishMakes", spec := "finishMakes", inPlace := ["internal/abi.NoEscape", "internal/bytealg.MakeNoZero"], unfollowed := true, recurses := true, apart := false }
def FinishMakesSaid : Prop := finishMakesRow.holds Tryz.pinned (OpenSpec.ofChange finishMakesSpec)

/-- ITS FALSE NEIGHBOUR: 'it returns false'. Refute it at one input. -/
def finishMakesWrong : ChangeSpec := { name := "finishMakes", fn := fun _ => fun
  | [d] => { results := [.lit (.bool false)], args := [d] }
  | _ => none }
def FinishMakesWrongFalsely : Prop := finishMakesRow.holds Tryz.pinned (OpenSpec.ofChange finishMakesWrong)

/-- 'gimletlaw09.PrintTells': WHATEVER THE INPUT: true; the input reads as it did. -/
def printTellsSpec : ChangeSpec := { name := "printTells", fn := fun _ => fun
  | [d1, d2] => { results := [.lit (.bool true)], args := [d1, d2] }
  | _ => none }
def printTellsRow : OpenClaim := { program := "ytfcgmgpcbenfpaagreat", sum := "ea2ce33100cb0ead3c69bb497ec4d7e87f8731014753105538eb218df1bce129", func := "gimlet/gimletlaw09.PrintTells", spec := "printTells", inPlace := ["internal/abi.NoEscape", "internal/bytealg.IndexByteString"], unfollowed := true, recurses := true, apart := false }
def PrintTellsSaid : Prop := printTellsRow.holds Tryz.pinned (OpenSpec.ofChange printTellsSpec)

/-- ITS FALSE NEIGHBOUR: 'it returns false'. Refute it at one input. -/
def printTellsWrong : ChangeSpec := { name := "printTells", fn := fun _ => fun
  | [d1, d2] => { results := [.lit (.bool false)], args := [d1, d2] }
  | _ => none }
def PrintTellsWrongFalsely : Prop := printTellsRow.holds Tryz.pinned (OpenSpec.ofChange printTellsWrong)

/-- 'gimletlaw09.PrintPlain': WHATEVER THE INPUT: true; the input reads as it did. -/
def printPlainSpec : ChangeSpec := { name := "printPlain", fn := fun _ => fun
  | [d] => { results := [.lit (.bool true)], args := [d] }
  | _ => none }
def printPlainRow : OpenClaim := { program := "ytfcgmgpcbenfpaagreat", sum := "ea2ce33100cb0ead3c69bb497ec4d7e87f8731014753105538eb218df1bce129", func := "gimlet/gimletlaw09.PrintPlain", spec := "printPlain", inPlace := ["internal/abi.NoEscape", "internal/bytealg.IndexByteString"], unfollowed := true, recurses := true, apart := false }
def PrintPlainSaid : Prop := printPlainRow.holds Tryz.pinned (OpenSpec.ofChange printPlainSpec)

/-- ITS FALSE NEIGHBOUR: 'it returns false'. Refute it at one input. -/
def printPlainWrong : ChangeSpec := { name := "printPlain", fn := fun _ => fun
  | [d] => { results := [.lit (.bool false)], args := [d] }
  | _ => none }
def PrintPlainWrongFalsely : Prop := printPlainRow.holds Tryz.pinned (OpenSpec.ofChange printPlainWrong)

/-- 'gimletlaw09.PrintBack': WHATEVER THE INPUT: true; the input reads as it did. -/
def printBackSpec : ChangeSpec := { name := "printBack", fn := fun _ => fun
  | [d1, d2] => { results := [.lit (.bool true)], args := [d1, d2] }
  | _ => none }
def printBackRow : OpenClaim := { program := "ytfcgmgpcbenfpaagreat", sum := "ea2ce33100cb0ead3c69bb497ec4d7e87f8731014753105538eb218df1bce129", func := "gimlet/gimletlaw09.PrintBack", spec := "printBack", inPlace := ["internal/abi.NoEscape", "internal/bytealg.IndexByteString"], unfollowed := true, recurses := true, apart := false }
def PrintBackSaid : Prop := printBackRow.holds Tryz.pinned (OpenSpec.ofChange printBackSpec)

/-- ITS FALSE NEIGHBOUR: 'it returns false'. Refute it at one input. -/
def printBackWrong : ChangeSpec := { name := "printBack", fn := fun _ => fun
  | [d1, d2] => { results := [.lit (.bool false)], args := [d1, d2] }
  | _ => none }
def PrintBackWrongFalsely : Prop := printBackRow.holds Tryz.pinned (OpenSpec.ofChange printBackWrong)

/-- 'gimletlaw09.PrintParts': WHATEVER THE INPUT: true; the input reads as it did. -/
def printPartsSpec : ChangeSpec := { name := "printParts", fn := fun _ => fun
  | [d1, d2] => { results := [.lit (.bool true)], args := [d1, d2] }
  | _ => none }
def printPartsRow : OpenClaim := { program := "ytfcgmgpcbenfpaagreat", sum := "ea2ce33100cb0ead3c69bb497ec4d7e87f8731014753105538eb218df1bce129", func := "gimlet/gimletlaw09.PrintParts", spec := "printParts", inPlace := ["internal/abi.NoEscape", "internal/bytealg.IndexByteString"], unfollowed := true, recurses := true, apart := false }
def PrintPartsSaid : Prop := printPartsRow.holds Tryz.pinned (OpenSpec.ofChange printPartsSpec)

/-- ITS FALSE NEIGHBOUR: 'it returns false'. Refute it at one input. -/
def printPartsWrong : ChangeSpec := { name := "printParts", fn := fun _ => fun
  | [d1, d2] => { results := [.lit (.bool false)], args := [d1, d2] }
  | _ => none }
def PrintPartsWrongFalsely : Prop := printPartsRow.holds Tryz.pinned (OpenSpec.ofChange printPartsWrong)

/- THE SECOND FORM. 'bulk': how many values and letters a reading holds, each counted each time it is reached (what is shared counts as often as it is met; a slice's spare places count too). A statement '..UptoSaid' is the law's where the arguments, and the package variables that the reading takes, are together of bulk at most 1048576: NARROWER than '..Said'. Prove '..Said' where nothing that the law and all that it calls make is longer than what came in: it says more and counts as full. Else prove '..UptoSaid'. A law counts once. -/
mutual
def uptoBulk {H : Type} : DataW H → Nat
  | .lit (.string bytes) => bytes.length + 1
  | .lit _ => 1
  | .nil => 1
  | .ptr d => uptoBulk d + 1
  | .slice elems spare => uptoBulkAll elems + uptoBulkAll spare + 1
  | .agg parts => uptoBulkAll parts + 1
  | .iface _ d => uptoBulk d + 1
  | .map entries => uptoBulkEntries entries + 1
  | .held _ => 1
def uptoBulkAll {H : Type} : List (DataW H) → Nat
  | [] => 0
  | d :: r => uptoBulk d + uptoBulkAll r
def uptoBulkEntries {H : Type} : List (Lit × DataW H) → Nat
  | [] => 0
  | x :: r => uptoBulkEntry x + uptoBulkEntries r
def uptoBulkEntry {H : Type} : Lit × DataW H → Nat
  | (.string bytes, d) => bytes.length + uptoBulk d + 1
  | (_, d) => uptoBulk d + 1
 end
def uptoSmall : (H : Type) → List (DataW H) → Bool := fun _ ds => decide (uptoBulkAll ds ≤ 1048576)
def OpenSpec.upto (s : _root_.Go.ChangeSpec) : _root_.Go.OpenSpec := { _root_.Go.OpenSpec.ofChange s with cond := some uptoSmall }

/-- 'gimletlaw08.FinishTells', WHERE WHAT IT READS IS OF BULK AT MOST 1048576: true; the input reads as it did. -/
def finishTellsUptoRow : OpenClaim := { program := "ytfcgmgpcbenfpaagreat", sum := "ea2ce33100cb0ead3c69bb497ec4d7e87f8731014753105538eb218df1bce129", func := "gimlet/gimletlaw08.FinishTells", spec := "finishTells", inPlace := ["internal/abi.NoEscape", "internal/bytealg.MakeNoZero"], unfollowed := true, recurses := true, apart := false, narrowed := true }
def FinishTellsUptoSaid : Prop := finishTellsUptoRow.holds Tryz.pinned (OpenSpec.upto finishTellsSpec)

/-- 'gimletlaw08.FinishMakes', WHERE WHAT IT READS IS OF BULK AT MOST 1048576: true; the input reads as it did. -/
def finishMakesUptoRow : OpenClaim := { program := "ytfcgmgpcbenfpaagreat", sum := "ea2ce33100cb0ead3c69bb497ec4d7e87f8731014753105538eb218df1bce129", func := "gimlet/gimletlaw08.FinishMakes", spec := "finishMakes", inPlace := ["internal/abi.NoEscape", "internal/bytealg.MakeNoZero"], unfollowed := true, recurses := true, apart := false, narrowed := true }
def FinishMakesUptoSaid : Prop := finishMakesUptoRow.holds Tryz.pinned (OpenSpec.upto finishMakesSpec)

/-- 'gimletlaw09.PrintTells', WHERE WHAT IT READS IS OF BULK AT MOST 1048576: true; the input reads as it did. -/
def printTellsUptoRow : OpenClaim := { program := "ytfcgmgpcbenfpaagreat", sum := "ea2ce33100cb0ead3c69bb497ec4d7e87f8731014753105538eb218df1bce129", func := "gimlet/gimletlaw09.PrintTells", spec := "printTells", inPlace := ["internal/abi.NoEscape", "internal/bytealg.IndexByteString"], unfollowed := true, recurses := true, apart := false, narrowed := true }
def PrintTellsUptoSaid : Prop := printTellsUptoRow.holds Tryz.pinned (OpenSpec.upto printTellsSpec)

/-- 'gimletlaw09.PrintPlain', WHERE WHAT IT READS IS OF BULK AT MOST 1048576: true; the input reads as it did. -/
def printPlainUptoRow : OpenClaim := { program := "ytfcgmgpcbenfpaagreat", sum := "ea2ce33100cb0ead3c69bb497ec4d7e87f8731014753105538eb218df1bce129", func := "gimlet/gimletlaw09.PrintPlain", spec := "printPlain", inPlace := ["internal/abi.NoEscape", "internal/bytealg.IndexByteString"], unfollowed := true, recurses := true, apart := false, narrowed := true }
def PrintPlainUptoSaid : Prop := printPlainUptoRow.holds Tryz.pinned (OpenSpec.upto printPlainSpec)

/-- 'gimletlaw09.PrintBack', WHERE WHAT IT READS IS OF BULK AT MOST 1048576: true; the input reads as it did. -/
def printBackUptoRow : OpenClaim := { program := "ytfcgmgpcbenfpaagreat", sum := "ea2ce33100cb0ead3c69bb497ec4d7e87f8731014753105538eb218df1bce129", func := "gimlet/gimletlaw09.PrintBack", spec := "printBack", inPlace := ["internal/abi.NoEscape", "internal/bytealg.IndexByteString"], unfollowed := true, recurses := true, apart := false, narrowed := true }
def PrintBackUptoSaid : Prop := printBackUptoRow.holds Tryz.pinned (OpenSpec.upto printBackSpec)

/-- 'gimletlaw09.PrintParts', WHERE WHAT IT READS IS OF BULK AT MOST 1048576: true; the input reads as it did. -/
def printPartsUptoRow : OpenClaim := { program := "ytfcgmgpcbenfpaagreat", sum := "ea2ce33100cb0ead3c69bb497ec4d7e87f8731014753105538eb218df1bce129", func := "gimlet/gimletlaw09.PrintParts", spec := "printParts", inPlace := ["internal/abi.NoEscape", "internal/bytealg.IndexByteString"], unfollowed := true, recurses := true, apart := false, narrowed := true }
def PrintPartsUptoSaid : Prop := printPartsUptoRow.holds Tryz.pinned (OpenSpec.upto printPartsSpec)

end Rows
end Go.Proofs.YtfcgmgpcbenfpaaGreat
