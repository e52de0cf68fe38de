/-
  No cell of these rows narrows 'for every input' (looked for: loops, veiled, ifaces, maps, wideKeys, modest, calm, conditions, laid).
  DERIVED. THE GIVEN ROWS OF THIS SEAT. 14 by the template 'for every input the law returns true; each argument reads behind the call as it read before'; 0 by the template 'total and deterministic' (their statements: YtddokdjlmdoebaaTotals.lean).
  GIVEN WITH THE SEED: the statements are not yours to turn. If you find one false, say at which input.
  Laid BY PROGRAM, IN A SANDBOX (cutbox-rows.mjs): the forced cells as the released guide's own fill.sh prints them over the translation 90508f0c8d6cc629… (all of the seat's roots in one cut). By AI agents, Wed Nov 11 2026. No macro, syntax, notation, axiom, sorry.
-/
import Derived.Test.YtddokdjlmdoebaaChecked
import GoSem.Claim
import GoSem.ClaimJoined
import GoSem.ClaimMapViews
import Derived.JoinedTies
import Derived.KernelRfl
namespace Go.Proofs.Ytddokdjlmdoebaa
/- THE CELL 'sum', in the pinned program and in every row, IS THE sha256 OF THE DUMP (.gsa) THAT YtddokdjlmdoebaaProg.lean LOADS. Nothing in Lean hashes anything: it is a label: what it is worth is what the hold of that sum in a sandbox is worth. -/
noncomputable def Try.pinned : Pinned := { name := "ytddokdjlmdoebaa", sum := "90508f0c8d6cc6294232949f50cf698a40266b10a9024171dfe68a429916129f", checked := Try.checked }
namespace Rows
def none {H : Type} : Left H := { results := [], args := [] }

/-- 'gimletlaw11.LowerTells': WHATEVER THE INPUT: true; the input reads as it did. -/
def lowerTellsSpec : ChangeSpec := { name := "lowerTells", fn := fun _ => fun
  | [d] => { results := [.lit (.bool true)], args := [d] }
  | _ => none }
def lowerTellsRow : OpenClaim := { program := "ytddokdjlmdoebaa", sum := "90508f0c8d6cc6294232949f50cf698a40266b10a9024171dfe68a429916129f", func := "gimlet/gimletlaw11.LowerTells", spec := "lowerTells", unfollowed := true, recurses := true, apart := false }
def LowerTellsSaid : Prop := lowerTellsRow.holds Try.pinned (OpenSpec.ofChange lowerTellsSpec)

/-- ITS FALSE NEIGHBOUR: 'it returns false'. Refute it at one input. -/
def lowerTellsWrong : ChangeSpec := { name := "lowerTells", fn := fun _ => fun
  | [d] => { results := [.lit (.bool false)], args := [d] }
  | _ => none }
def LowerTellsWrongFalsely : Prop := lowerTellsRow.holds Try.pinned (OpenSpec.ofChange lowerTellsWrong)

/-- 'gimletlaw11.LowerMakes': WHATEVER THE INPUT: true; the input reads as it did. -/
def lowerMakesSpec : ChangeSpec := { name := "lowerMakes", fn := fun _ => fun
  | [d1, d2] => { results := [.lit (.bool true)], args := [d1, d2] }
  | _ => none }
def lowerMakesRow : OpenClaim := { program := "ytddokdjlmdoebaa", sum := "90508f0c8d6cc6294232949f50cf698a40266b10a9024171dfe68a429916129f", func := "gimlet/gimletlaw11.LowerMakes", spec := "lowerMakes", unfollowed := true, recurses := true, apart := false }
def LowerMakesSaid : Prop := lowerMakesRow.holds Try.pinned (OpenSpec.ofChange lowerMakesSpec)

/-- ITS FALSE NEIGHBOUR: 'it returns false'. Refute it at one input. -/
def lowerMakesWrong : ChangeSpec := { name := "lowerMakes", fn := fun _ => fun
  | [d1, d2] => { results := [.lit (.bool false)], args := [d1, d2] }
  | _ => none }
def LowerMakesWrongFalsely : Prop := lowerMakesRow.holds Try.pinned (OpenSpec.ofChange lowerMakesWrong)

/-- 'gimletlaw11.LowerParts': WHATEVER THE INPUT: true; the input reads as it did. -/
def lowerPartsSpec : ChangeSpec := { name := "lowerParts", fn := fun _ => fun
  | [d1, d2] => { results := [.lit (.bool true)], args := [d1, d2] }
  | _ => none }
def lowerPartsRow : OpenClaim := { program := "ytddokdjlmdoebaa", sum := "90508f0c8d6cc6294232949f50cf698a40266b10a9024171dfe68a429916129f", func := "gimlet/gimletlaw11.LowerParts", spec := "lowerParts", unfollowed := true, recurses := true, apart := false }
def LowerPartsSaid : Prop := lowerPartsRow.holds Try.pinned (OpenSpec.ofChange lowerPartsSpec)

/-- ITS FALSE NEIGHBOUR: 'it returns false'. Refute it at one input. -/
def lowerPartsWrong : ChangeSpec := { name := "lowerParts", fn := fun _ => fun
  | [d1, d2] => { results := [.lit (.bool false)], args := [d1, d2] }
  | _ => none }
def LowerPartsWrongFalsely : Prop := lowerPartsRow.holds Try.pinned (OpenSpec.ofChange lowerPartsWrong)

/-- 'gimletlaw11.LowerTerm': WHATEVER THE INPUT: true; the input reads as it did. -/
def lowerTermSpec : ChangeSpec := { name := "lowerTerm", fn := fun _ => fun
  | [d] => { results := [.lit (.bool true)], args := [d] }
  | _ => none }
def lowerTermRow : OpenClaim := { program := "ytddokdjlmdoebaa", sum := "90508f0c8d6cc6294232949f50cf698a40266b10a9024171dfe68a429916129f", func := "gimlet/gimletlaw11.LowerTerm", spec := "lowerTerm", unfollowed := true, recurses := true, apart := false }
def LowerTermSaid : Prop := lowerTermRow.holds Try.pinned (OpenSpec.ofChange lowerTermSpec)

/-- ITS FALSE NEIGHBOUR: 'it returns false'. Refute it at one input. -/
def lowerTermWrong : ChangeSpec := { name := "lowerTerm", fn := fun _ => fun
  | [d] => { results := [.lit (.bool false)], args := [d] }
  | _ => none }
def LowerTermWrongFalsely : Prop := lowerTermRow.holds Try.pinned (OpenSpec.ofChange lowerTermWrong)

/-- 'gimletlaw07.ParseTells': WHATEVER THE INPUT: true; the input reads as it did. -/
def parseTellsSpec : ChangeSpec := { name := "parseTells", fn := fun _ => fun
  | [d] => { results := [.lit (.bool true)], args := [d] }
  | _ => none }
def parseTellsRow : OpenClaim := { program := "ytddokdjlmdoebaa", sum := "90508f0c8d6cc6294232949f50cf698a40266b10a9024171dfe68a429916129f", func := "gimlet/gimletlaw07.ParseTells", spec := "parseTells", unfollowed := true, recurses := true, apart := false }
def ParseTellsSaid : Prop := parseTellsRow.holds Try.pinned (OpenSpec.ofChange parseTellsSpec)

/-- ITS FALSE NEIGHBOUR: 'it returns false'. Refute it at one input. -/
def parseTellsWrong : ChangeSpec := { name := "parseTells", fn := fun _ => fun
  | [d] => { results := [.lit (.bool false)], args := [d] }
  | _ => none }
def ParseTellsWrongFalsely : Prop := parseTellsRow.holds Try.pinned (OpenSpec.ofChange parseTellsWrong)

/-- 'gimletlaw07.ParseSure': WHATEVER THE INPUT: true; the input reads as it did. -/
def parseSureSpec : ChangeSpec := { name := "parseSure", fn := fun _ => fun
  | [d1, d2] => { results := [.lit (.bool true)], args := [d1, d2] }
  | _ => none }
def parseSureRow : OpenClaim := { program := "ytddokdjlmdoebaa", sum := "90508f0c8d6cc6294232949f50cf698a40266b10a9024171dfe68a429916129f", func := "gimlet/gimletlaw07.ParseSure", spec := "parseSure", unfollowed := true, recurses := true, apart := false }
def ParseSureSaid : Prop := parseSureRow.holds Try.pinned (OpenSpec.ofChange parseSureSpec)

/-- ITS FALSE NEIGHBOUR: 'it returns false'. Refute it at one input. -/
def parseSureWrong : ChangeSpec := { name := "parseSure", fn := fun _ => fun
  | [d1, d2] => { results := [.lit (.bool false)], args := [d1, d2] }
  | _ => none }
def ParseSureWrongFalsely : Prop := parseSureRow.holds Try.pinned (OpenSpec.ofChange parseSureWrong)

/-- 'gimletlaw07.ParseJoins': WHATEVER THE INPUT: true; the input reads as it did. -/
def parseJoinsSpec : ChangeSpec := { name := "parseJoins", fn := fun _ => fun
  | [d1, d2] => { results := [.lit (.bool true)], args := [d1, d2] }
  | _ => none }
def parseJoinsRow : OpenClaim := { program := "ytddokdjlmdoebaa", sum := "90508f0c8d6cc6294232949f50cf698a40266b10a9024171dfe68a429916129f", func := "gimlet/gimletlaw07.ParseJoins", spec := "parseJoins", unfollowed := true, recurses := true, apart := false }
def ParseJoinsSaid : Prop := parseJoinsRow.holds Try.pinned (OpenSpec.ofChange parseJoinsSpec)

/-- ITS FALSE NEIGHBOUR: 'it returns false'. Refute it at one input. -/
def parseJoinsWrong : ChangeSpec := { name := "parseJoins", fn := fun _ => fun
  | [d1, d2] => { results := [.lit (.bool false)], args := [d1, d2] }
  | _ => none }
def ParseJoinsWrongFalsely : Prop := parseJoinsRow.holds Try.pinned (OpenSpec.ofChange parseJoinsWrong)

/-- 'gimletlaw05.LexTells': WHATEVER THE INPUT: true; the input reads as it did. -/
def lexTellsSpec : ChangeSpec := { name := "lexTells", fn := fun _ => fun
  | [d1, d2] => { results := [.lit (.bool true)], args := [d1, d2] }
  | _ => none }
def lexTellsRow : OpenClaim := { program := "ytddokdjlmdoebaa", sum := "90508f0c8d6cc6294232949f50cf698a40266b10a9024171dfe68a429916129f", func := "gimlet/gimletlaw05.LexTells", spec := "lexTells", inPlace := ["internal/bytealg.IndexByteString"], unfollowed := true, recurses := true, apart := false }
def LexTellsSaid : Prop := lexTellsRow.holds Try.pinned (OpenSpec.ofChange lexTellsSpec)

/-- ITS FALSE NEIGHBOUR: 'it returns false'. Refute it at one input. -/
def lexTellsWrong : ChangeSpec := { name := "lexTells", fn := fun _ => fun
  | [d1, d2] => { results := [.lit (.bool false)], args := [d1, d2] }
  | _ => none }
def LexTellsWrongFalsely : Prop := lexTellsRow.holds Try.pinned (OpenSpec.ofChange lexTellsWrong)

/-- 'gimletlaw05.LexAll': WHATEVER THE INPUT: true; the input reads as it did. -/
def lexAllSpec : ChangeSpec := { name := "lexAll", fn := fun _ => fun
  | [d] => { results := [.lit (.bool true)], args := [d] }
  | _ => none }
def lexAllRow : OpenClaim := { program := "ytddokdjlmdoebaa", sum := "90508f0c8d6cc6294232949f50cf698a40266b10a9024171dfe68a429916129f", func := "gimlet/gimletlaw05.LexAll", spec := "lexAll", inPlace := ["internal/bytealg.IndexByteString"], unfollowed := true, recurses := true, apart := false }
def LexAllSaid : Prop := lexAllRow.holds Try.pinned (OpenSpec.ofChange lexAllSpec)

/-- ITS FALSE NEIGHBOUR: 'it returns false'. Refute it at one input. -/
def lexAllWrong : ChangeSpec := { name := "lexAll", fn := fun _ => fun
  | [d] => { results := [.lit (.bool false)], args := [d] }
  | _ => none }
def LexAllWrongFalsely : Prop := lexAllRow.holds Try.pinned (OpenSpec.ofChange lexAllWrong)

/-- 'gimletlaw05.LexBytes': WHATEVER THE INPUT: true; the input reads as it did. -/
def lexBytesSpec : ChangeSpec := { name := "lexBytes", fn := fun _ => fun
  | [d] => { results := [.lit (.bool true)], args := [d] }
  | _ => none }
def lexBytesRow : OpenClaim := { program := "ytddokdjlmdoebaa", sum := "90508f0c8d6cc6294232949f50cf698a40266b10a9024171dfe68a429916129f", func := "gimlet/gimletlaw05.LexBytes", spec := "lexBytes", inPlace := ["internal/bytealg.IndexByteString"], unfollowed := true, recurses := true, apart := false }
def LexBytesSaid : Prop := lexBytesRow.holds Try.pinned (OpenSpec.ofChange lexBytesSpec)

/-- ITS FALSE NEIGHBOUR: 'it returns false'. Refute it at one input. -/
def lexBytesWrong : ChangeSpec := { name := "lexBytes", fn := fun _ => fun
  | [d] => { results := [.lit (.bool false)], args := [d] }
  | _ => none }
def LexBytesWrongFalsely : Prop := lexBytesRow.holds Try.pinned (OpenSpec.ofChange lexBytesWrong)

/-- 'gimletlaw05.LexPrints': WHATEVER THE INPUT: true; the input reads as it did. -/
def lexPrintsSpec : ChangeSpec := { name := "lexPrints", fn := fun _ => fun
  | [d] => { results := [.lit (.bool true)], args := [d] }
  | _ => none }
def lexPrintsRow : OpenClaim := { program := "ytddokdjlmdoebaa", sum := "90508f0c8d6cc6294232949f50cf698a40266b10a9024171dfe68a429916129f", func := "gimlet/gimletlaw05.LexPrints", spec := "lexPrints", inPlace := ["internal/bytealg.IndexByteString"], unfollowed := true, recurses := true, apart := false }
def LexPrintsSaid : Prop := lexPrintsRow.holds Try.pinned (OpenSpec.ofChange lexPrintsSpec)

/-- ITS FALSE NEIGHBOUR: 'it returns false'. Refute it at one input. -/
def lexPrintsWrong : ChangeSpec := { name := "lexPrints", fn := fun _ => fun
  | [d] => { results := [.lit (.bool false)], args := [d] }
  | _ => none }
def LexPrintsWrongFalsely : Prop := lexPrintsRow.holds Try.pinned (OpenSpec.ofChange lexPrintsWrong)

/-- 'gimletlaw05.LexBack': WHATEVER THE INPUT: true; the input reads as it did. -/
def lexBackSpec : ChangeSpec := { name := "lexBack", fn := fun _ => fun
  | [d] => { results := [.lit (.bool true)], args := [d] }
  | _ => none }
def lexBackRow : OpenClaim := { program := "ytddokdjlmdoebaa", sum := "90508f0c8d6cc6294232949f50cf698a40266b10a9024171dfe68a429916129f", func := "gimlet/gimletlaw05.LexBack", spec := "lexBack", inPlace := ["internal/bytealg.IndexByteString"], unfollowed := true, recurses := true, apart := false }
def LexBackSaid : Prop := lexBackRow.holds Try.pinned (OpenSpec.ofChange lexBackSpec)

/-- ITS FALSE NEIGHBOUR: 'it returns false'. Refute it at one input. -/
def lexBackWrong : ChangeSpec := { name := "lexBack", fn := fun _ => fun
  | [d] => { results := [.lit (.bool false)], args := [d] }
  | _ => none }
def LexBackWrongFalsely : Prop := lexBackRow.holds Try.pinned (OpenSpec.ofChange lexBackWrong)

/-- 'gimletlaw05.LexLack': WHATEVER THE INPUT: true; the input reads as it did. -/
def lexLackSpec : ChangeSpec := { name := "lexLack", fn := fun _ => fun
  | [d1, d2] => { results := [.lit (.bool true)], args := [d1, d2] }
  | _ => none }
def lexLackRow : OpenClaim := { program := "ytddokdjlmdoebaa", sum := "90508f0c8d6cc6294232949f50cf698a40266b10a9024171dfe68a429916129f", func := "gimlet/gimletlaw05.LexLack", spec := "lexLack", inPlace := ["internal/bytealg.IndexByteString"], unfollowed := true, recurses := true, apart := false }
def LexLackSaid : Prop := lexLackRow.holds Try.pinned (OpenSpec.ofChange lexLackSpec)

/-- ITS FALSE NEIGHBOUR: 'it returns false'. Refute it at one input. -/
def lexLackWrong : ChangeSpec := { name := "lexLack", fn := fun _ => fun
  | [d1, d2] => { results := [.lit (.bool false)], args := [d1, d2] }
  | _ => none }
def LexLackWrongFalsely : Prop := lexLackRow.holds Try.pinned (OpenSpec.ofChange lexLackWrong)

/-- 'gimletlaw07.ParseRight': WHATEVER THE INPUT: true; the input reads as it did. -/
def parseRightSpec : ChangeSpec := { name := "parseRight", fn := fun _ => fun
  | [d] => { results := [.lit (.bool true)], args := [d] }
  | _ => none }
def parseRightRow : OpenClaim := { program := "ytddokdjlmdoebaa", sum := "90508f0c8d6cc6294232949f50cf698a40266b10a9024171dfe68a429916129f", func := "gimlet/gimletlaw07.ParseRight", spec := "parseRight", unfollowed := true, recurses := true, apart := false }
def ParseRightSaid : Prop := parseRightRow.holds Try.pinned (OpenSpec.ofChange parseRightSpec)

/-- ITS FALSE NEIGHBOUR: 'it returns false'. Refute it at one input. -/
def parseRightWrong : ChangeSpec := { name := "parseRight", fn := fun _ => fun
  | [d] => { results := [.lit (.bool false)], args := [d] }
  | _ => none }
def ParseRightWrongFalsely : Prop := parseRightRow.holds Try.pinned (OpenSpec.ofChange parseRightWrong)

/- THE SECOND FORM. 'bulk': how many values and letters a reading holds, each counted each time it is reached (what is shared counts as often as it is met; a slice's spare places count too). A statement '..UptoSaid' is the law's where the arguments, and the package variables that the reading takes, are together of bulk at most 1048576: NARROWER than '..Said'. Prove '..Said' where nothing that the law and all that it calls make is longer than what came in: it says more and counts as full. Else prove '..UptoSaid'. A law counts once. -/
mutual
def uptoBulk {H : Type} : DataW H → Nat
  | .lit (.string bytes) => bytes.length + 1
  | .lit _ => 1
  | .nil => 1
  | .ptr d => uptoBulk d + 1
  | .slice elems spare => uptoBulkAll elems + uptoBulkAll spare + 1
  | .agg parts => uptoBulkAll parts + 1
  | .iface _ d => uptoBulk d + 1
  | .map entries => uptoBulkEntries entries + 1
  | .held _ => 1
def uptoBulkAll {H : Type} : List (DataW H) → Nat
  | [] => 0
  | d :: r => uptoBulk d + uptoBulkAll r
def uptoBulkEntries {H : Type} : List (Lit × DataW H) → Nat
  | [] => 0
  | x :: r => uptoBulkEntry x + uptoBulkEntries r
def uptoBulkEntry {H : Type} : Lit × DataW H → Nat
  | (.string bytes, d) => bytes.length + uptoBulk d + 1
  | (_, d) => uptoBulk d + 1
 end
def uptoSmall : (H : Type) → List (DataW H) → Bool := fun _ ds => decide (uptoBulkAll ds ≤ 1048576)
def OpenSpec.upto (s : _root_.Go.ChangeSpec) : _root_.Go.OpenSpec := { _root_.Go.OpenSpec.ofChange s with cond := some uptoSmall }

/-- 'gimletlaw11.LowerTells', WHERE WHAT IT READS IS OF BULK AT MOST 1048576: true; the input reads as it did. -/
def lowerTellsUptoRow : OpenClaim := { program := "ytddokdjlmdoebaa", sum := "90508f0c8d6cc6294232949f50cf698a40266b10a9024171dfe68a429916129f", func := "gimlet/gimletlaw11.LowerTells", spec := "lowerTells", unfollowed := true, recurses := true, apart := false, narrowed := true }
def LowerTellsUptoSaid : Prop := lowerTellsUptoRow.holds Try.pinned (OpenSpec.upto lowerTellsSpec)

/-- 'gimletlaw11.LowerMakes', WHERE WHAT IT READS IS OF BULK AT MOST 1048576: true; the input reads as it did. -/
def lowerMakesUptoRow : OpenClaim := { program := "ytddokdjlmdoebaa", sum := "90508f0c8d6cc6294232949f50cf698a40266b10a9024171dfe68a429916129f", func := "gimlet/gimletlaw11.LowerMakes", spec := "lowerMakes", unfollowed := true, recurses := true, apart := false, narrowed := true }
def LowerMakesUptoSaid : Prop := lowerMakesUptoRow.holds Try.pinned (OpenSpec.upto lowerMakesSpec)

/-- 'gimletlaw11.LowerParts', WHERE WHAT IT READS IS OF BULK AT MOST 1048576: true; the input reads as it did. -/
def lowerPartsUptoRow : OpenClaim := { program := "ytddokdjlmdoebaa", sum := "90508f0c8d6cc6294232949f50cf698a40266b10a9024171dfe68a429916129f", func := "gimlet/gimletlaw11.LowerParts", spec := "lowerParts", unfollowed := true, recurses := true, apart := false, narrowed := true }
def LowerPartsUptoSaid : Prop := lowerPartsUptoRow.holds Try.pinned (OpenSpec.upto lowerPartsSpec)

/-- 'gimletlaw11.LowerTerm', WHERE WHAT IT READS IS OF BULK AT MOST 1048576: true; the input reads as it did. -/
def lowerTermUptoRow : OpenClaim := { program := "ytddokdjlmdoebaa", sum := "90508f0c8d6cc6294232949f50cf698a40266b10a9024171dfe68a429916129f", func := "gimlet/gimletlaw11.LowerTerm", spec := "lowerTerm", unfollowed := true, recurses := true, apart := false, narrowed := true }
def LowerTermUptoSaid : Prop := lowerTermUptoRow.holds Try.pinned (OpenSpec.upto lowerTermSpec)

/-- 'gimletlaw07.ParseTells', WHERE WHAT IT READS IS OF BULK AT MOST 1048576: true; the input reads as it did. -/
def parseTellsUptoRow : OpenClaim := { program := "ytddokdjlmdoebaa", sum := "90508f0c8d6cc6294232949f50cf698a40266b10a9024171dfe68a429916129f", func := "gimlet/gimletlaw07.ParseTells", spec := "parseTells", unfollowed := true, recurses := true, apart := false, narrowed := true }
def ParseTellsUptoSaid : Prop := parseTellsUptoRow.holds Try.pinned (OpenSpec.upto parseTellsSpec)

/-- 'gimletlaw07.ParseSure', WHERE WHAT IT READS IS OF BULK AT MOST 1048576: true; the input reads as it did. -/
def parseSureUptoRow : OpenClaim := { program := "ytddokdjlmdoebaa", sum := "90508f0c8d6cc6294232949f50cf698a40266b10a9024171dfe68a429916129f", func := "gimlet/gimletlaw07.ParseSure", spec := "parseSure", unfollowed := true, recurses := true, apart := false, narrowed := true }
def ParseSureUptoSaid : Prop := parseSureUptoRow.holds Try.pinned (OpenSpec.upto parseSureSpec)

/-- 'gimletlaw07.ParseJoins', WHERE WHAT IT READS IS OF BULK AT MOST 1048576: true; the input reads as it did. -/
def parseJoinsUptoRow : OpenClaim := { program := "ytddokdjlmdoebaa", sum := "90508f0c8d6cc6294232949f50cf698a40266b10a9024171dfe68a429916129f", func := "gimlet/gimletlaw07.ParseJoins", spec := "parseJoins", unfollowed := true, recurses := true, apart := false, narrowed := true }
def ParseJoinsUptoSaid : Prop := parseJoinsUptoRow.holds Try.pinned (OpenSpec.upto parseJoinsSpec)

/-- 'gimletlaw05.LexTells', WHERE WHAT IT READS IS OF BULK AT MOST 1048576: true; the input reads as it did. -/
def lexTellsUptoRow : OpenClaim := { program := "ytddokdjlmdoebaa", sum := "90508f0c8d6cc6294232949f50cf698a40266b10a9024171dfe68a429916129f", func := "gimlet/gimletlaw05.LexTells", spec := "lexTells", inPlace := ["internal/bytealg.IndexByteString"], unfollowed := true, recurses := true, apart := false, narrowed := true }
def LexTellsUptoSaid : Prop := lexTellsUptoRow.holds Try.pinned (OpenSpec.upto lexTellsSpec)

/-- 'gimletlaw05.LexAll', WHERE WHAT IT READS IS OF BULK AT MOST 1048576: true; the input reads as it did. -/
def lexAllUptoRow : OpenClaim := { program := "ytddokdjlmdoebaa", sum := "90508f0c8d6cc6294232949f50cf698a40266b10a9024171dfe68a429916129f", func := "gimlet/gimletlaw05.LexAll", spec := "lexAll", inPlace := ["internal/bytealg.IndexByteString"], unfollowed := true, recurses := true, apart := false, narrowed := true }
def LexAllUptoSaid : Prop := lexAllUptoRow.holds Try.pinned (OpenSpec.upto lexAllSpec)

/-- 'gimletlaw05.LexBytes', WHERE WHAT IT READS IS OF BULK AT MOST 1048576: true; the input reads as it did. -/
def lexBytesUptoRow : OpenClaim := { program := "ytddokdjlmdoebaa", sum := "90508f0c8d6cc6294232949f50cf698a40266b10a9024171dfe68a429916129f", func := "gimlet/gimletlaw05.LexBytes", spec := "lexBytes", inPlace := ["internal/bytealg.IndexByteString"], unfollowed := true, recurses := true, apart := false, narrowed := true }
def LexBytesUptoSaid : Prop := lexBytesUptoRow.holds Try.pinned (OpenSpec.upto lexBytesSpec)

/-- 'gimletlaw05.LexPrints', WHERE WHAT IT READS IS OF BULK AT MOST 1048576: true; the input reads as it did. -/
def lexPrintsUptoRow : OpenClaim := { program := "ytddokdjlmdoebaa", sum := "90508f0c8d6cc6294232949f50cf698a40266b10a9024171dfe68a429916129f", func := "gimlet/gimletlaw05.LexPrints", spec := "lexPrints", inPlace := ["internal/bytealg.IndexByteString"], unfollowed := true, recurses := true, apart := false, narrowed := true }
def LexPrintsUptoSaid : Prop := lexPrintsUptoRow.holds Try.pinned (OpenSpec.upto lexPrintsSpec)

/-- 'gimletlaw05.LexBack', WHERE WHAT IT READS IS OF BULK AT MOST 1048576: true; the input reads as it did. -/
def lexBackUptoRow : OpenClaim := { program := "ytddokdjlmdoebaa", sum := "90508f0c8d6cc6294232949f50cf698a40266b10a9024171dfe68a429916129f", func := "gimlet/gimletlaw05.LexBack", spec := "lexBack", inPlace := ["internal/bytealg.IndexByteString"], unfollowed := true, recurses := true, apart := false, narrowed := true }
def LexBackUptoSaid : Prop := lexBackUptoRow.holds Try.pinned (OpenSpec.upto lexBackSpec)

/-- 'gimletlaw05.LexLack', WHERE WHAT IT READS IS OF BULK AT MOST 1048576: true; the input reads as it did. -/
def lexLackUptoRow : OpenClaim := { program := "ytddokdjlmdoebaa", sum := "90508f0c8d6cc6294232949f50cf698a40266b10a9024171dfe68a429916129f", func := "gimlet/gimletlaw05.LexLack", spec := "lexLack", inPlace := ["internal/bytealg.IndexByteString"], unfollowed := true, recurses := true, apart := false, narrowed := true }
def LexLackUptoSaid : Prop := lexLackUptoRow.holds Try.pinned (OpenSpec.upto lexLackSpec)

/-- 'gimletlaw07.ParseRight', WHERE WHAT IT READS IS OF BULK AT MOST 1048576: true; the input reads as it did. -/
def parseRightUptoRow : OpenClaim := { program := "ytddokdjlmdoebaa", sum := "90508f0c8d6cc6294232949f50cf698a40266b10a9024171dfe68a429916129f", func := "gimlet/gimletlaw07.ParseRight", spec := "parseRight", unfollowed := true, recurses := true, apart := false, narrowed := true }
def ParseRightUptoSaid : Prop := parseRightUptoRow.holds Try.pinned (OpenSpec.upto parseRightSpec)

end Rows
end Go.Proofs.Ytddokdjlmdoebaa
