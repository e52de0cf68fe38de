/-
  No cell of these rows narrows 'for every input' (looked for: loops, veiled, ifaces, maps, wideKeys, modest, calm, conditions, laid).
  DERIVED. THE GIVEN ROWS OF THIS SEAT. 13 by the template 'for every input the law returns true; each argument reads behind the call as it read before'; 0 by the template 'total and deterministic' (their statements: YthppilfojicfdaaTotals.lean).
  GIVEN WITH THE SEED: the statements are not yours to turn. If you find one false, say at which input.
  Laid BY PROGRAM, IN A SANDBOX (cutbox-rows.mjs): the forced cells as the released guide's own fill.sh prints them over the translation 6d0ba81b8c872934… (all of the seat's roots in one cut). By AI agents, Wed Nov 11 2026. No macro, syntax, notation, axiom, sorry.
-/
import Derived.Test.YthppilfojicfdaaChecked
import GoSem.Claim
import GoSem.ClaimJoined
import GoSem.ClaimMapViews
import Derived.JoinedTies
import Derived.KernelRfl
namespace Go.Proofs.Ythppilfojicfdaa
/- THE CELL 'sum', in the pinned program and in every row, IS THE sha256 OF THE DUMP (.gsa) THAT YthppilfojicfdaaProg.lean LOADS. Nothing in Lean hashes anything: it is a label: what it is worth is what the hold of that sum in a sandbox is worth. -/
noncomputable def Try.pinned : Pinned := { name := "ythppilfojicfdaa", sum := "6d0ba81b8c872934db2c083c91b1668c05df762aaba4430c99a2cb93e04ce63f", checked := Try.checked }
namespace Rows
def none {H : Type} : Left H := { results := [], args := [] }

/-- 'gimletlaw01.BsetGoes': WHATEVER THE INPUT: true; the input reads as it did. -/
def bsetGoesSpec : ChangeSpec := { name := "bsetGoes", fn := fun _ => fun
  | [d1, d2] => { results := [.lit (.bool true)], args := [d1, d2] }
  | _ => none }
def bsetGoesRow : OpenClaim := { program := "ythppilfojicfdaa", sum := "6d0ba81b8c872934db2c083c91b1668c05df762aaba4430c99a2cb93e04ce63f", func := "gimlet/gimletlaw01.BsetGoes", spec := "bsetGoes", unfollowed := true, recurses := true, apart := false }
def BsetGoesSaid : Prop := bsetGoesRow.holds Try.pinned (OpenSpec.ofChange bsetGoesSpec)

/-- ITS FALSE NEIGHBOUR: 'it returns false'. Refute it at one input. -/
def bsetGoesWrong : ChangeSpec := { name := "bsetGoes", fn := fun _ => fun
  | [d1, d2] => { results := [.lit (.bool false)], args := [d1, d2] }
  | _ => none }
def BsetGoesWrongFalsely : Prop := bsetGoesRow.holds Try.pinned (OpenSpec.ofChange bsetGoesWrong)

/-- 'gimletlaw01.BsetRuns': WHATEVER THE INPUT: true; the input reads as it did. -/
def bsetRunsSpec : ChangeSpec := { name := "bsetRuns", fn := fun _ => fun
  | [d] => { results := [.lit (.bool true)], args := [d] }
  | _ => none }
def bsetRunsRow : OpenClaim := { program := "ythppilfojicfdaa", sum := "6d0ba81b8c872934db2c083c91b1668c05df762aaba4430c99a2cb93e04ce63f", func := "gimlet/gimletlaw01.BsetRuns", spec := "bsetRuns", unfollowed := true, recurses := true, apart := false }
def BsetRunsSaid : Prop := bsetRunsRow.holds Try.pinned (OpenSpec.ofChange bsetRunsSpec)

/-- ITS FALSE NEIGHBOUR: 'it returns false'. Refute it at one input. -/
def bsetRunsWrong : ChangeSpec := { name := "bsetRuns", fn := fun _ => fun
  | [d] => { results := [.lit (.bool false)], args := [d] }
  | _ => none }
def BsetRunsWrongFalsely : Prop := bsetRunsRow.holds Try.pinned (OpenSpec.ofChange bsetRunsWrong)

/-- 'gimletlaw01.BsetTells': WHATEVER THE INPUT: true; the input reads as it did. -/
def bsetTellsSpec : ChangeSpec := { name := "bsetTells", fn := fun _ => fun
  | [d1, d2, d3] => { results := [.lit (.bool true)], args := [d1, d2, d3] }
  | _ => none }
def bsetTellsRow : OpenClaim := { program := "ythppilfojicfdaa", sum := "6d0ba81b8c872934db2c083c91b1668c05df762aaba4430c99a2cb93e04ce63f", func := "gimlet/gimletlaw01.BsetTells", spec := "bsetTells", unfollowed := true, recurses := true, apart := false }
def BsetTellsSaid : Prop := bsetTellsRow.holds Try.pinned (OpenSpec.ofChange bsetTellsSpec)

/-- ITS FALSE NEIGHBOUR: 'it returns false'. Refute it at one input. -/
def bsetTellsWrong : ChangeSpec := { name := "bsetTells", fn := fun _ => fun
  | [d1, d2, d3] => { results := [.lit (.bool false)], args := [d1, d2, d3] }
  | _ => none }
def BsetTellsWrongFalsely : Prop := bsetTellsRow.holds Try.pinned (OpenSpec.ofChange bsetTellsWrong)

/-- 'gimletlaw01.BsetSets': WHATEVER THE INPUT: true; the input reads as it did. -/
def bsetSetsSpec : ChangeSpec := { name := "bsetSets", fn := fun _ => fun
  | [d1, d2, d3] => { results := [.lit (.bool true)], args := [d1, d2, d3] }
  | _ => none }
def bsetSetsRow : OpenClaim := { program := "ythppilfojicfdaa", sum := "6d0ba81b8c872934db2c083c91b1668c05df762aaba4430c99a2cb93e04ce63f", func := "gimlet/gimletlaw01.BsetSets", spec := "bsetSets", unfollowed := true, recurses := true, apart := false }
def BsetSetsSaid : Prop := bsetSetsRow.holds Try.pinned (OpenSpec.ofChange bsetSetsSpec)

/-- ITS FALSE NEIGHBOUR: 'it returns false'. Refute it at one input. -/
def bsetSetsWrong : ChangeSpec := { name := "bsetSets", fn := fun _ => fun
  | [d1, d2, d3] => { results := [.lit (.bool false)], args := [d1, d2, d3] }
  | _ => none }
def BsetSetsWrongFalsely : Prop := bsetSetsRow.holds Try.pinned (OpenSpec.ofChange bsetSetsWrong)

/-- 'gimletlaw02.ClassTells': WHATEVER THE INPUT: true; the input reads as it did. -/
def classTellsSpec : ChangeSpec := { name := "classTells", fn := fun _ => fun
  | [d] => { results := [.lit (.bool true)], args := [d] }
  | _ => none }
def classTellsRow : OpenClaim := { program := "ythppilfojicfdaa", sum := "6d0ba81b8c872934db2c083c91b1668c05df762aaba4430c99a2cb93e04ce63f", func := "gimlet/gimletlaw02.ClassTells", spec := "classTells", unfollowed := true, recurses := true, apart := false }
def ClassTellsSaid : Prop := classTellsRow.holds Try.pinned (OpenSpec.ofChange classTellsSpec)

/-- ITS FALSE NEIGHBOUR: 'it returns false'. Refute it at one input. -/
def classTellsWrong : ChangeSpec := { name := "classTells", fn := fun _ => fun
  | [d] => { results := [.lit (.bool false)], args := [d] }
  | _ => none }
def ClassTellsWrongFalsely : Prop := classTellsRow.holds Try.pinned (OpenSpec.ofChange classTellsWrong)

/-- 'gimletlaw02.ClassFinds': WHATEVER THE INPUT: true; the input reads as it did. -/
def classFindsSpec : ChangeSpec := { name := "classFinds", fn := fun _ => fun
  | [d] => { results := [.lit (.bool true)], args := [d] }
  | _ => none }
def classFindsRow : OpenClaim := { program := "ythppilfojicfdaa", sum := "6d0ba81b8c872934db2c083c91b1668c05df762aaba4430c99a2cb93e04ce63f", func := "gimlet/gimletlaw02.ClassFinds", spec := "classFinds", unfollowed := true, recurses := true, apart := false }
def ClassFindsSaid : Prop := classFindsRow.holds Try.pinned (OpenSpec.ofChange classFindsSpec)

/-- ITS FALSE NEIGHBOUR: 'it returns false'. Refute it at one input. -/
def classFindsWrong : ChangeSpec := { name := "classFinds", fn := fun _ => fun
  | [d] => { results := [.lit (.bool false)], args := [d] }
  | _ => none }
def ClassFindsWrongFalsely : Prop := classFindsRow.holds Try.pinned (OpenSpec.ofChange classFindsWrong)

/-- 'gimletlaw02.ClassNames': WHATEVER THE INPUT: true; the input reads as it did. -/
def classNamesSpec : ChangeSpec := { name := "classNames", fn := fun _ => fun
  | [d1, d2] => { results := [.lit (.bool true)], args := [d1, d2] }
  | _ => none }
def classNamesRow : OpenClaim := { program := "ythppilfojicfdaa", sum := "6d0ba81b8c872934db2c083c91b1668c05df762aaba4430c99a2cb93e04ce63f", func := "gimlet/gimletlaw02.ClassNames", spec := "classNames", unfollowed := true, recurses := true, apart := false }
def ClassNamesSaid : Prop := classNamesRow.holds Try.pinned (OpenSpec.ofChange classNamesSpec)

/-- ITS FALSE NEIGHBOUR: 'it returns false'. Refute it at one input. -/
def classNamesWrong : ChangeSpec := { name := "classNames", fn := fun _ => fun
  | [d1, d2] => { results := [.lit (.bool false)], args := [d1, d2] }
  | _ => none }
def ClassNamesWrongFalsely : Prop := classNamesRow.holds Try.pinned (OpenSpec.ofChange classNamesWrong)

/-- 'gimletlaw02.ClassWithin': WHATEVER THE INPUT: true; the input reads as it did. -/
def classWithinSpec : ChangeSpec := { name := "classWithin", fn := fun _ => fun
  | [d] => { results := [.lit (.bool true)], args := [d] }
  | _ => none }
def classWithinRow : OpenClaim := { program := "ythppilfojicfdaa", sum := "6d0ba81b8c872934db2c083c91b1668c05df762aaba4430c99a2cb93e04ce63f", func := "gimlet/gimletlaw02.ClassWithin", spec := "classWithin", unfollowed := true, recurses := true, apart := false }
def ClassWithinSaid : Prop := classWithinRow.holds Try.pinned (OpenSpec.ofChange classWithinSpec)

/-- ITS FALSE NEIGHBOUR: 'it returns false'. Refute it at one input. -/
def classWithinWrong : ChangeSpec := { name := "classWithin", fn := fun _ => fun
  | [d] => { results := [.lit (.bool false)], args := [d] }
  | _ => none }
def ClassWithinWrongFalsely : Prop := classWithinRow.holds Try.pinned (OpenSpec.ofChange classWithinWrong)

/-- 'gimletlaw03.BracketTells': WHATEVER THE INPUT: true; the input reads as it did. -/
def bracketTellsSpec : ChangeSpec := { name := "bracketTells", fn := fun _ => fun
  | [d1, d2] => { results := [.lit (.bool true)], args := [d1, d2] }
  | _ => none }
def bracketTellsRow : OpenClaim := { program := "ythppilfojicfdaa", sum := "6d0ba81b8c872934db2c083c91b1668c05df762aaba4430c99a2cb93e04ce63f", func := "gimlet/gimletlaw03.BracketTells", spec := "bracketTells", unfollowed := true, recurses := true, apart := false }
def BracketTellsSaid : Prop := bracketTellsRow.holds Try.pinned (OpenSpec.ofChange bracketTellsSpec)

/-- ITS FALSE NEIGHBOUR: 'it returns false'. Refute it at one input. -/
def bracketTellsWrong : ChangeSpec := { name := "bracketTells", fn := fun _ => fun
  | [d1, d2] => { results := [.lit (.bool false)], args := [d1, d2] }
  | _ => none }
def BracketTellsWrongFalsely : Prop := bracketTellsRow.holds Try.pinned (OpenSpec.ofChange bracketTellsWrong)

/-- 'gimletlaw03.BracketSure': WHATEVER THE INPUT: true; the input reads as it did. -/
def bracketSureSpec : ChangeSpec := { name := "bracketSure", fn := fun _ => fun
  | [d1, d2, d3] => { results := [.lit (.bool true)], args := [d1, d2, d3] }
  | _ => none }
def bracketSureRow : OpenClaim := { program := "ythppilfojicfdaa", sum := "6d0ba81b8c872934db2c083c91b1668c05df762aaba4430c99a2cb93e04ce63f", func := "gimlet/gimletlaw03.BracketSure", spec := "bracketSure", unfollowed := true, recurses := true, apart := false }
def BracketSureSaid : Prop := bracketSureRow.holds Try.pinned (OpenSpec.ofChange bracketSureSpec)

/-- ITS FALSE NEIGHBOUR: 'it returns false'. Refute it at one input. -/
def bracketSureWrong : ChangeSpec := { name := "bracketSure", fn := fun _ => fun
  | [d1, d2, d3] => { results := [.lit (.bool false)], args := [d1, d2, d3] }
  | _ => none }
def BracketSureWrongFalsely : Prop := bracketSureRow.holds Try.pinned (OpenSpec.ofChange bracketSureWrong)

/-- 'gimletlaw03.BracketPlaces': WHATEVER THE INPUT: true; the input reads as it did. -/
def bracketPlacesSpec : ChangeSpec := { name := "bracketPlaces", fn := fun _ => fun
  | [d1, d2, d3] => { results := [.lit (.bool true)], args := [d1, d2, d3] }
  | _ => none }
def bracketPlacesRow : OpenClaim := { program := "ythppilfojicfdaa", sum := "6d0ba81b8c872934db2c083c91b1668c05df762aaba4430c99a2cb93e04ce63f", func := "gimlet/gimletlaw03.BracketPlaces", spec := "bracketPlaces", unfollowed := true, recurses := true, apart := false }
def BracketPlacesSaid : Prop := bracketPlacesRow.holds Try.pinned (OpenSpec.ofChange bracketPlacesSpec)

/-- ITS FALSE NEIGHBOUR: 'it returns false'. Refute it at one input. -/
def bracketPlacesWrong : ChangeSpec := { name := "bracketPlaces", fn := fun _ => fun
  | [d1, d2, d3] => { results := [.lit (.bool false)], args := [d1, d2, d3] }
  | _ => none }
def BracketPlacesWrongFalsely : Prop := bracketPlacesRow.holds Try.pinned (OpenSpec.ofChange bracketPlacesWrong)

/-- 'gimletlaw03.BracketLack': WHATEVER THE INPUT: true; the input reads as it did. -/
def bracketLackSpec : ChangeSpec := { name := "bracketLack", fn := fun _ => fun
  | [d1, d2] => { results := [.lit (.bool true)], args := [d1, d2] }
  | _ => none }
def bracketLackRow : OpenClaim := { program := "ythppilfojicfdaa", sum := "6d0ba81b8c872934db2c083c91b1668c05df762aaba4430c99a2cb93e04ce63f", func := "gimlet/gimletlaw03.BracketLack", spec := "bracketLack", unfollowed := true, recurses := true, apart := false }
def BracketLackSaid : Prop := bracketLackRow.holds Try.pinned (OpenSpec.ofChange bracketLackSpec)

/-- ITS FALSE NEIGHBOUR: 'it returns false'. Refute it at one input. -/
def bracketLackWrong : ChangeSpec := { name := "bracketLack", fn := fun _ => fun
  | [d1, d2] => { results := [.lit (.bool false)], args := [d1, d2] }
  | _ => none }
def BracketLackWrongFalsely : Prop := bracketLackRow.holds Try.pinned (OpenSpec.ofChange bracketLackWrong)

/-- 'gimletlaw03.BracketBack': WHATEVER THE INPUT: true; the input reads as it did. -/
def bracketBackSpec : ChangeSpec := { name := "bracketBack", fn := fun _ => fun
  | [d1, d2] => { results := [.lit (.bool true)], args := [d1, d2] }
  | _ => none }
def bracketBackRow : OpenClaim := { program := "ythppilfojicfdaa", sum := "6d0ba81b8c872934db2c083c91b1668c05df762aaba4430c99a2cb93e04ce63f", func := "gimlet/gimletlaw03.BracketBack", spec := "bracketBack", unfollowed := true, recurses := true, apart := false }
def BracketBackSaid : Prop := bracketBackRow.holds Try.pinned (OpenSpec.ofChange bracketBackSpec)

/-- ITS FALSE NEIGHBOUR: 'it returns false'. Refute it at one input. -/
def bracketBackWrong : ChangeSpec := { name := "bracketBack", fn := fun _ => fun
  | [d1, d2] => { results := [.lit (.bool false)], args := [d1, d2] }
  | _ => none }
def BracketBackWrongFalsely : Prop := bracketBackRow.holds Try.pinned (OpenSpec.ofChange bracketBackWrong)

/- THE SECOND FORM. 'bulk': how many values and letters a reading holds, each counted each time it is reached (what is shared counts as often as it is met; a slice's spare places count too). A statement '..UptoSaid' is the law's where the arguments, and the package variables that the reading takes, are together of bulk at most 1048576: NARROWER than '..Said'. Prove '..Said' where nothing that the law and all that it calls make is longer than what came in: it says more and counts as full. Else prove '..UptoSaid'. A law counts once. -/
mutual
def uptoBulk {H : Type} : DataW H → Nat
  | .lit (.string bytes) => bytes.length + 1
  | .lit _ => 1
  | .nil => 1
  | .ptr d => uptoBulk d + 1
  | .slice elems spare => uptoBulkAll elems + uptoBulkAll spare + 1
  | .agg parts => uptoBulkAll parts + 1
  | .iface _ d => uptoBulk d + 1
  | .map entries => uptoBulkEntries entries + 1
  | .held _ => 1
def uptoBulkAll {H : Type} : List (DataW H) → Nat
  | [] => 0
  | d :: r => uptoBulk d + uptoBulkAll r
def uptoBulkEntries {H : Type} : List (Lit × DataW H) → Nat
  | [] => 0
  | x :: r => uptoBulkEntry x + uptoBulkEntries r
def uptoBulkEntry {H : Type} : Lit × DataW H → Nat
  | (.string bytes, d) => bytes.length + uptoBulk d + 1
  | (_, d) => uptoBulk d + 1
 end
def uptoSmall : (H : Type) → List (DataW H) → Bool := fun _ ds => decide (uptoBulkAll ds ≤ 1048576)
def OpenSpec.upto (s : _root_.Go.ChangeSpec) : _root_.Go.OpenSpec := { _root_.Go.OpenSpec.ofChange s with cond := some uptoSmall }

/-- 'gimletlaw01.BsetGoes', WHERE WHAT IT READS IS OF BULK AT MOST 1048576: true; the input reads as it did. -/
def bsetGoesUptoRow : OpenClaim := { program := "ythppilfojicfdaa", sum := "6d0ba81b8c872934db2c083c91b1668c05df762aaba4430c99a2cb93e04ce63f", func := "gimlet/gimletlaw01.BsetGoes", spec := "bsetGoes", unfollowed := true, recurses := true, apart := false, narrowed := true }
def BsetGoesUptoSaid : Prop := bsetGoesUptoRow.holds Try.pinned (OpenSpec.upto bsetGoesSpec)

/-- 'gimletlaw01.BsetRuns', WHERE WHAT IT READS IS OF BULK AT MOST 1048576: true; the input reads as it did. -/
def bsetRunsUptoRow : OpenClaim := { program := "ythppilfojicfdaa", sum := "6d0ba81b8c872934db2c083c91b1668c05df762aaba4430c99a2cb93e04ce63f", func := "gimlet/gimletlaw01.BsetRuns", spec := "bsetRuns", unfollowed := true, recurses := true, apart := false, narrowed := true }
def BsetRunsUptoSaid : Prop := bsetRunsUptoRow.holds Try.pinned (OpenSpec.upto bsetRunsSpec)

/-- 'gimletlaw01.BsetTells', WHERE WHAT IT READS IS OF BULK AT MOST 1048576: true; the input reads as it did. -/
def bsetTellsUptoRow : OpenClaim := { program := "ythppilfojicfdaa", sum := "6d0ba81b8c872934db2c083c91b1668c05df762aaba4430c99a2cb93e04ce63f", func := "gimlet/gimletlaw01.BsetTells", spec := "bsetTells", unfollowed := true, recurses := true, apart := false, narrowed := true }
def BsetTellsUptoSaid : Prop := bsetTellsUptoRow.holds Try.pinned (OpenSpec.upto bsetTellsSpec)

/-- 'gimletlaw01.BsetSets', WHERE WHAT IT READS IS OF BULK AT MOST 1048576: true; the input reads as it did. -/
def bsetSetsUptoRow : OpenClaim := { program := "ythppilfojicfdaa", sum := "6d0ba81b8c872934db2c083c91b1668c05df762aaba4430c99a2cb93e04ce63f", func := "gimlet/gimletlaw01.BsetSets", spec := "bsetSets", unfollowed := true, recurses := true, apart := false, narrowed := true }
def BsetSetsUptoSaid : Prop := bsetSetsUptoRow.holds Try.pinned (OpenSpec.upto bsetSetsSpec)

/-- 'gimletlaw02.ClassTells', WHERE WHAT IT READS IS OF BULK AT MOST 1048576: true; the input reads as it did. -/
def classTellsUptoRow : OpenClaim := { program := "ythppilfojicfdaa", sum := "6d0ba81b8c872934db2c083c91b1668c05df762aaba4430c99a2cb93e04ce63f", func := "gimlet/gimletlaw02.ClassTells", spec := "classTells", unfollowed := true, recurses := true, apart := false, narrowed := true }
def ClassTellsUptoSaid : Prop := classTellsUptoRow.holds Try.pinned (OpenSpec.upto classTellsSpec)

/-- 'gimletlaw02.ClassFinds', WHERE WHAT IT READS IS OF BULK AT MOST 1048576: true; the input reads as it did. -/
def classFindsUptoRow : OpenClaim := { program := "ythppilfojicfdaa", sum := "6d0ba81b8c872934db2c083c91b1668c05df762aaba4430c99a2cb93e04ce63f", func := "gimlet/gimletlaw02.ClassFinds", spec := "classFinds", unfollowed := true, recurses := true, apart := false, narrowed := true }
def ClassFindsUptoSaid : Prop := classFindsUptoRow.holds Try.pinned (OpenSpec.upto classFindsSpec)

/-- 'gimletlaw02.ClassNames', WHERE WHAT IT READS IS OF BULK AT MOST 1048576: true; the input reads as it did. -/
def classNamesUptoRow : OpenClaim := { program := "ythppilfojicfdaa", sum := "6d0ba81b8c872934db2c083c91b1668c05df762aaba4430c99a2cb93e04ce63f", func := "gimlet/gimletlaw02.ClassNames", spec := "classNames", unfollowed := true, recurses := true, apart := false, narrowed := true }
def ClassNamesUptoSaid : Prop := classNamesUptoRow.holds Try.pinned (OpenSpec.upto classNamesSpec)

/-- 'gimletlaw02.ClassWithin', WHERE WHAT IT READS IS OF BULK AT MOST 1048576: true; the input reads as it did. -/
def classWithinUptoRow : OpenClaim := { program := "ythppilfojicfdaa", sum := "6d0ba81b8c872934db2c083c91b1668c05df762aaba4430c99a2cb93e04ce63f", func := "gimlet/gimletlaw02.ClassWithin", spec := "classWithin", unfollowed := true, recurses := true, apart := false, narrowed := true }
def ClassWithinUptoSaid : Prop := classWithinUptoRow.holds Try.pinned (OpenSpec.upto classWithinSpec)

/-- 'gimletlaw03.BracketTells', WHERE WHAT IT READS IS OF BULK AT MOST 1048576: true; the input reads as it did. -/
def bracketTellsUptoRow : OpenClaim := { program := "ythppilfojicfdaa", sum := "6d0ba81b8c872934db2c083c91b1668c05df762aaba4430c99a2cb93e04ce63f", func := "gimlet/gimletlaw03.BracketTells", spec := "bracketTells", unfollowed := true, recurses := true, apart := false, narrowed := true }
def BracketTellsUptoSaid : Prop := bracketTellsUptoRow.holds Try.pinned (OpenSpec.upto bracketTellsSpec)

/-- 'gimletlaw03.BracketSure', WHERE WHAT IT READS IS OF BULK AT MOST 1048576: true; the input reads as it did. -/
def bracketSureUptoRow : OpenClaim := { program := "ythppilfojicfdaa", sum := "6d0ba81b8c872934db2c083c91b1668c05df762aaba4430c99a2cb93e04ce63f", func := "gimlet/gimletlaw03.BracketSure", spec := "bracketSure", unfollowed := true, recurses := true, apart := false, narrowed := true }
def BracketSureUptoSaid : Prop := bracketSureUptoRow.holds Try.pinned (OpenSpec.upto bracketSureSpec)

/-- 'gimletlaw03.BracketPlaces', WHERE WHAT IT READS IS OF BULK AT MOST 1048576: true; the input reads as it did. -/
def bracketPlacesUptoRow : OpenClaim := { program := "ythppilfojicfdaa", sum := "6d0ba81b8c872934db2c083c91b1668c05df762aaba4430c99a2cb93e04ce63f", func := "gimlet/gimletlaw03.BracketPlaces", spec := "bracketPlaces", unfollowed := true, recurses := true, apart := false, narrowed := true }
def BracketPlacesUptoSaid : Prop := bracketPlacesUptoRow.holds Try.pinned (OpenSpec.upto bracketPlacesSpec)

/-- 'gimletlaw03.BracketLack', WHERE WHAT IT READS IS OF BULK AT MOST 1048576: true; the input reads as it did. -/
def bracketLackUptoRow : OpenClaim := { program := "ythppilfojicfdaa", sum := "6d0ba81b8c872934db2c083c91b1668c05df762aaba4430c99a2cb93e04ce63f", func := "gimlet/gimletlaw03.BracketLack", spec := "bracketLack", unfollowed := true, recurses := true, apart := false, narrowed := true }
def BracketLackUptoSaid : Prop := bracketLackUptoRow.holds Try.pinned (OpenSpec.upto bracketLackSpec)

/-- 'gimletlaw03.BracketBack', WHERE WHAT IT READS IS OF BULK AT MOST 1048576: true; the input reads as it did. -/
def bracketBackUptoRow : OpenClaim := { program := "ythppilfojicfdaa", sum := "6d0ba81b8c872934db2c083c91b1668c05df762aaba4430c99a2cb93e04ce63f", func := "gimlet/gimletlaw03.BracketBack", spec := "bracketBack", unfollowed := true, recurses := true, apart := false, narrowed := true }
def BracketBackUptoSaid : Prop := bracketBackUptoRow.holds Try.pinned (OpenSpec.upto bracketBackSpec)

end Rows
end Go.Proofs.Ythppilfojicfdaa
