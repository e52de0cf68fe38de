/-
  No cell of these rows narrows 'for every input' (looked for: loops, veiled, ifaces, maps, wideKeys, modest, calm, conditions, laid).
  DERIVED. THE GIVEN ROWS OF THIS SEAT. 10 by the template 'for every input the law returns true; each argument reads behind the call as it read before'; 0 by the template 'total and deterministic' (their statements: YtgkfdjfoakbibaaTotals.lean).
  GIVEN WITH THE SEED: the statements are not yours to turn. If you find one false, say at which input.
  Laid BY PROGRAM, IN A SANDBOX (cutbox-rows.mjs): the forced cells as the released guide's own fill.sh prints them over the translation a38fde2d25727df3… (all of the seat's roots in one cut). By AI agents, Wed Nov 11 2026. No macro, syntax, notation, axiom, sorry.
-/
import Derived.Test.YtgkfdjfoakbibaaChecked
import GoSem.Claim
import GoSem.ClaimJoined
import GoSem.ClaimMapViews
import Derived.JoinedTies
import Derived.KernelRfl
namespace Go.Proofs.Ytgkfdjfoakbibaa
/- THE CELL 'sum', in the pinned program and in every row, IS THE sha256 OF THE DUMP (.gsa) THAT YtgkfdjfoakbibaaProg.lean LOADS. Nothing in Lean hashes anything: it is a label: what it is worth is what the hold of that sum in a sandbox is worth. -/
noncomputable def Try.pinned : Pinned := { name := "ytgkfdjfoakbibaa", sum := "a38fde2d25727df3206795704fc1b269de07d0e0f805b73baaffd2c9366b32cc", checked := Try.checked }
namespace Rows
def none {H : Type} : Left H := { results := [], args := [] }

/-- 'gimletlaw04.BraceTells': WHATEVER THE INPUT: true; the input reads as it did. -/
def braceTellsSpec : ChangeSpec := { name := "braceTells", fn := fun _ => fun
  | [d1, d2] => { results := [.lit (.bool true)], args := [d1, d2] }
  | _ => none }
def braceTellsRow : OpenClaim := { program := "ytgkfdjfoakbibaa", sum := "a38fde2d25727df3206795704fc1b269de07d0e0f805b73baaffd2c9366b32cc", func := "gimlet/gimletlaw04.BraceTells", spec := "braceTells", recurses := true, apart := false }
def BraceTellsSaid : Prop := braceTellsRow.holds Try.pinned (OpenSpec.ofChange braceTellsSpec)

/-- ITS FALSE NEIGHBOUR: 'it returns false'. Refute it at one input. -/
def braceTellsWrong : ChangeSpec := { name := "braceTells", fn := fun _ => fun
  | [d1, d2] => { results := [.lit (.bool false)], args := [d1, d2] }
  | _ => none }
def BraceTellsWrongFalsely : Prop := braceTellsRow.holds Try.pinned (OpenSpec.ofChange braceTellsWrong)

/-- 'gimletlaw04.BraceBack': WHATEVER THE INPUT: true; the input reads as it did. -/
def braceBackSpec : ChangeSpec := { name := "braceBack", fn := fun _ => fun
  | [d1, d2] => { results := [.lit (.bool true)], args := [d1, d2] }
  | _ => none }
def braceBackRow : OpenClaim := { program := "ytgkfdjfoakbibaa", sum := "a38fde2d25727df3206795704fc1b269de07d0e0f805b73baaffd2c9366b32cc", func := "gimlet/gimletlaw04.BraceBack", spec := "braceBack", recurses := true, apart := false }
def BraceBackSaid : Prop := braceBackRow.holds Try.pinned (OpenSpec.ofChange braceBackSpec)

/-- ITS FALSE NEIGHBOUR: 'it returns false'. Refute it at one input. -/
def braceBackWrong : ChangeSpec := { name := "braceBack", fn := fun _ => fun
  | [d1, d2] => { results := [.lit (.bool false)], args := [d1, d2] }
  | _ => none }
def BraceBackWrongFalsely : Prop := braceBackRow.holds Try.pinned (OpenSpec.ofChange braceBackWrong)

/-- 'gimletlaw04.BraceSure': WHATEVER THE INPUT: true; the input reads as it did. -/
def braceSureSpec : ChangeSpec := { name := "braceSure", fn := fun _ => fun
  | [d1, d2, d3] => { results := [.lit (.bool true)], args := [d1, d2, d3] }
  | _ => none }
def braceSureRow : OpenClaim := { program := "ytgkfdjfoakbibaa", sum := "a38fde2d25727df3206795704fc1b269de07d0e0f805b73baaffd2c9366b32cc", func := "gimlet/gimletlaw04.BraceSure", spec := "braceSure", recurses := true, apart := false }
def BraceSureSaid : Prop := braceSureRow.holds Try.pinned (OpenSpec.ofChange braceSureSpec)

/-- ITS FALSE NEIGHBOUR: 'it returns false'. Refute it at one input. -/
def braceSureWrong : ChangeSpec := { name := "braceSure", fn := fun _ => fun
  | [d1, d2, d3] => { results := [.lit (.bool false)], args := [d1, d2, d3] }
  | _ => none }
def BraceSureWrongFalsely : Prop := braceSureRow.holds Try.pinned (OpenSpec.ofChange braceSureWrong)

/-- 'gimletlaw04.BraceTwo': WHATEVER THE INPUT: true; the input reads as it did. -/
def braceTwoSpec : ChangeSpec := { name := "braceTwo", fn := fun _ => fun
  | [d1, d2] => { results := [.lit (.bool true)], args := [d1, d2] }
  | _ => none }
def braceTwoRow : OpenClaim := { program := "ytgkfdjfoakbibaa", sum := "a38fde2d25727df3206795704fc1b269de07d0e0f805b73baaffd2c9366b32cc", func := "gimlet/gimletlaw04.BraceTwo", spec := "braceTwo", recurses := true, apart := false }
def BraceTwoSaid : Prop := braceTwoRow.holds Try.pinned (OpenSpec.ofChange braceTwoSpec)

/-- ITS FALSE NEIGHBOUR: 'it returns false'. Refute it at one input. -/
def braceTwoWrong : ChangeSpec := { name := "braceTwo", fn := fun _ => fun
  | [d1, d2] => { results := [.lit (.bool false)], args := [d1, d2] }
  | _ => none }
def BraceTwoWrongFalsely : Prop := braceTwoRow.holds Try.pinned (OpenSpec.ofChange braceTwoWrong)

/-- 'gimletlaw04.BraceLack': WHATEVER THE INPUT: true; the input reads as it did. -/
def braceLackSpec : ChangeSpec := { name := "braceLack", fn := fun _ => fun
  | [d1, d2] => { results := [.lit (.bool true)], args := [d1, d2] }
  | _ => none }
def braceLackRow : OpenClaim := { program := "ytgkfdjfoakbibaa", sum := "a38fde2d25727df3206795704fc1b269de07d0e0f805b73baaffd2c9366b32cc", func := "gimlet/gimletlaw04.BraceLack", spec := "braceLack", recurses := true, apart := false }
def BraceLackSaid : Prop := braceLackRow.holds Try.pinned (OpenSpec.ofChange braceLackSpec)

/-- ITS FALSE NEIGHBOUR: 'it returns false'. Refute it at one input. -/
def braceLackWrong : ChangeSpec := { name := "braceLack", fn := fun _ => fun
  | [d1, d2] => { results := [.lit (.bool false)], args := [d1, d2] }
  | _ => none }
def BraceLackWrongFalsely : Prop := braceLackRow.holds Try.pinned (OpenSpec.ofChange braceLackWrong)

/-- 'gimletlaw06.AstTells': WHATEVER THE INPUT: true; the input reads as it did. -/
def astTellsSpec : ChangeSpec := { name := "astTells", fn := fun _ => fun
  | [d] => { results := [.lit (.bool true)], args := [d] }
  | _ => none }
def astTellsRow : OpenClaim := { program := "ytgkfdjfoakbibaa", sum := "a38fde2d25727df3206795704fc1b269de07d0e0f805b73baaffd2c9366b32cc", func := "gimlet/gimletlaw06.AstTells", spec := "astTells", unfollowed := true, recurses := true, apart := false }
def AstTellsSaid : Prop := astTellsRow.holds Try.pinned (OpenSpec.ofChange astTellsSpec)

/-- ITS FALSE NEIGHBOUR: 'it returns false'. Refute it at one input. -/
def astTellsWrong : ChangeSpec := { name := "astTells", fn := fun _ => fun
  | [d] => { results := [.lit (.bool false)], args := [d] }
  | _ => none }
def AstTellsWrongFalsely : Prop := astTellsRow.holds Try.pinned (OpenSpec.ofChange astTellsWrong)

/-- 'gimletlaw06.AstKids': WHATEVER THE INPUT: true; the input reads as it did. -/
def astKidsSpec : ChangeSpec := { name := "astKids", fn := fun _ => fun
  | [d1, d2] => { results := [.lit (.bool true)], args := [d1, d2] }
  | _ => none }
def astKidsRow : OpenClaim := { program := "ytgkfdjfoakbibaa", sum := "a38fde2d25727df3206795704fc1b269de07d0e0f805b73baaffd2c9366b32cc", func := "gimlet/gimletlaw06.AstKids", spec := "astKids", unfollowed := true, recurses := true, apart := false }
def AstKidsSaid : Prop := astKidsRow.holds Try.pinned (OpenSpec.ofChange astKidsSpec)

/-- ITS FALSE NEIGHBOUR: 'it returns false'. Refute it at one input. -/
def astKidsWrong : ChangeSpec := { name := "astKids", fn := fun _ => fun
  | [d1, d2] => { results := [.lit (.bool false)], args := [d1, d2] }
  | _ => none }
def AstKidsWrongFalsely : Prop := astKidsRow.holds Try.pinned (OpenSpec.ofChange astKidsWrong)

/-- 'gimletlaw06.AstNumbers': WHATEVER THE INPUT: true; the input reads as it did. -/
def astNumbersSpec : ChangeSpec := { name := "astNumbers", fn := fun _ => fun
  | [d] => { results := [.lit (.bool true)], args := [d] }
  | _ => none }
def astNumbersRow : OpenClaim := { program := "ytgkfdjfoakbibaa", sum := "a38fde2d25727df3206795704fc1b269de07d0e0f805b73baaffd2c9366b32cc", func := "gimlet/gimletlaw06.AstNumbers", spec := "astNumbers", unfollowed := true, recurses := true, apart := false }
def AstNumbersSaid : Prop := astNumbersRow.holds Try.pinned (OpenSpec.ofChange astNumbersSpec)

/-- ITS FALSE NEIGHBOUR: 'it returns false'. Refute it at one input. -/
def astNumbersWrong : ChangeSpec := { name := "astNumbers", fn := fun _ => fun
  | [d] => { results := [.lit (.bool false)], args := [d] }
  | _ => none }
def AstNumbersWrongFalsely : Prop := astNumbersRow.holds Try.pinned (OpenSpec.ofChange astNumbersWrong)

/-- 'gimletlaw06.AstParts': WHATEVER THE INPUT: true; the input reads as it did. -/
def astPartsSpec : ChangeSpec := { name := "astParts", fn := fun _ => fun
  | [d] => { results := [.lit (.bool true)], args := [d] }
  | _ => none }
def astPartsRow : OpenClaim := { program := "ytgkfdjfoakbibaa", sum := "a38fde2d25727df3206795704fc1b269de07d0e0f805b73baaffd2c9366b32cc", func := "gimlet/gimletlaw06.AstParts", spec := "astParts", unfollowed := true, recurses := true, apart := false }
def AstPartsSaid : Prop := astPartsRow.holds Try.pinned (OpenSpec.ofChange astPartsSpec)

/-- ITS FALSE NEIGHBOUR: 'it returns false'. Refute it at one input. -/
def astPartsWrong : ChangeSpec := { name := "astParts", fn := fun _ => fun
  | [d] => { results := [.lit (.bool false)], args := [d] }
  | _ => none }
def AstPartsWrongFalsely : Prop := astPartsRow.holds Try.pinned (OpenSpec.ofChange astPartsWrong)

/-- 'gimletlaw06.AstGrows': WHATEVER THE INPUT: true; the input reads as it did. -/
def astGrowsSpec : ChangeSpec := { name := "astGrows", fn := fun _ => fun
  | [d1, d2] => { results := [.lit (.bool true)], args := [d1, d2] }
  | _ => none }
def astGrowsRow : OpenClaim := { program := "ytgkfdjfoakbibaa", sum := "a38fde2d25727df3206795704fc1b269de07d0e0f805b73baaffd2c9366b32cc", func := "gimlet/gimletlaw06.AstGrows", spec := "astGrows", unfollowed := true, recurses := true, apart := false }
def AstGrowsSaid : Prop := astGrowsRow.holds Try.pinned (OpenSpec.ofChange astGrowsSpec)

/-- ITS FALSE NEIGHBOUR: 'it returns false'. Refute it at one input. -/
def astGrowsWrong : ChangeSpec := { name := "astGrows", fn := fun _ => fun
  | [d1, d2] => { results := [.lit (.bool false)], args := [d1, d2] }
  | _ => none }
def AstGrowsWrongFalsely : Prop := astGrowsRow.holds Try.pinned (OpenSpec.ofChange astGrowsWrong)

/- THE SECOND FORM. 'bulk': how many values and letters a reading holds, each counted each time it is reached (what is shared counts as often as it is met; a slice's spare places count too). A statement '..UptoSaid' is the law's where the arguments, and the package variables that the reading takes, are together of bulk at most 1048576: NARROWER than '..Said'. Prove '..Said' where nothing that the law and all that it calls make is longer than what came in: it says more and counts as full. Else prove '..UptoSaid'. A law counts once. -/
mutual
def uptoBulk {H : Type} : DataW H → Nat
  | .lit (.string bytes) => bytes.length + 1
  | .lit _ => 1
  | .nil => 1
  | .ptr d => uptoBulk d + 1
  | .slice elems spare => uptoBulkAll elems + uptoBulkAll spare + 1
  | .agg parts => uptoBulkAll parts + 1
  | .iface _ d => uptoBulk d + 1
  | .map entries => uptoBulkEntries entries + 1
  | .held _ => 1
def uptoBulkAll {H : Type} : List (DataW H) → Nat
  | [] => 0
  | d :: r => uptoBulk d + uptoBulkAll r
def uptoBulkEntries {H : Type} : List (Lit × DataW H) → Nat
  | [] => 0
  | x :: r => uptoBulkEntry x + uptoBulkEntries r
def uptoBulkEntry {H : Type} : Lit × DataW H → Nat
  | (.string bytes, d) => bytes.length + uptoBulk d + 1
  | (_, d) => uptoBulk d + 1
 end
def uptoSmall : (H : Type) → List (DataW H) → Bool := fun _ ds => decide (uptoBulkAll ds ≤ 1048576)
def OpenSpec.upto (s : _root_.Go.ChangeSpec) : _root_.Go.OpenSpec := { _root_.Go.OpenSpec.ofChange s with cond := some uptoSmall }

/-- 'gimletlaw04.BraceTells', WHERE WHAT IT READS IS OF BULK AT MOST 1048576: true; the input reads as it did. -/
def braceTellsUptoRow : OpenClaim := { program := "ytgkfdjfoakbibaa", sum := "a38fde2d25727df3206795704fc1b269de07d0e0f805b73baaffd2c9366b32cc", func := "gimlet/gimletlaw04.BraceTells", spec := "braceTells", recurses := true, apart := false, narrowed := true }
def BraceTellsUptoSaid : Prop := braceTellsUptoRow.holds Try.pinned (OpenSpec.upto braceTellsSpec)

/-- 'gimletlaw04.BraceBack', WHERE WHAT IT READS IS OF BULK AT MOST 1048576: true; the input reads as it did. -/
def braceBackUptoRow : OpenClaim := { program := "ytgkfdjfoakbibaa", sum := "a38fde2d25727df3206795704fc1b269de07d0e0f805b73baaffd2c9366b32cc", func := "gimlet/gimletlaw04.BraceBack", spec := "braceBack", recurses := true, apart := false, narrowed := true }
def BraceBackUptoSaid : Prop := braceBackUptoRow.holds Try.pinned (OpenSpec.upto braceBackSpec)

/-- 'gimletlaw04.BraceSure', WHERE WHAT IT READS IS OF BULK AT MOST 1048576: true; the input reads as it did. -/
def braceSureUptoRow : OpenClaim := { program := "ytgkfdjfoakbibaa", sum := "a38fde2d25727df3206795704fc1b269de07d0e0f805b73baaffd2c9366b32cc", func := "gimlet/gimletlaw04.BraceSure", spec := "braceSure", recurses := true, apart := false, narrowed := true }
def BraceSureUptoSaid : Prop := braceSureUptoRow.holds Try.pinned (OpenSpec.upto braceSureSpec)

/-- 'gimletlaw04.BraceTwo', WHERE WHAT IT READS IS OF BULK AT MOST 1048576: true; the input reads as it did. -/
def braceTwoUptoRow : OpenClaim := { program := "ytgkfdjfoakbibaa", sum := "a38fde2d25727df3206795704fc1b269de07d0e0f805b73baaffd2c9366b32cc", func := "gimlet/gimletlaw04.BraceTwo", spec := "braceTwo", recurses := true, apart := false, narrowed := true }
def BraceTwoUptoSaid : Prop := braceTwoUptoRow.holds Try.pinned (OpenSpec.upto braceTwoSpec)

/-- 'gimletlaw04.BraceLack', WHERE WHAT IT READS IS OF BULK AT MOST 1048576: true; the input reads as it did. -/
def braceLackUptoRow : OpenClaim := { program := "ytgkfdjfoakbibaa", sum := "a38fde2d25727df3206795704fc1b269de07d0e0f805b73baaffd2c9366b32cc", func := "gimlet/gimletlaw04.BraceLack", spec := "braceLack", recurses := true, apart := false, narrowed := true }
def BraceLackUptoSaid : Prop := braceLackUptoRow.holds Try.pinned (OpenSpec.upto braceLackSpec)

/-- 'gimletlaw06.AstTells', WHERE WHAT IT READS IS OF BULK AT MOST 1048576: true; the input reads as it did. -/
def astTellsUptoRow : OpenClaim := { program := "ytgkfdjfoakbibaa", sum := "a38fde2d25727df3206795704fc1b269de07d0e0f805b73baaffd2c9366b32cc", func := "gimlet/gimletlaw06.AstTells", spec := "astTells", unfollowed := true, recurses := true, apart := false, narrowed := true }
def AstTellsUptoSaid : Prop := astTellsUptoRow.holds Try.pinned (OpenSpec.upto astTellsSpec)

/-- 'gimletlaw06.AstKids', WHERE WHAT IT READS IS OF BULK AT MOST 1048576: true; the input reads as it did. -/
def astKidsUptoRow : OpenClaim := { program := "ytgkfdjfoakbibaa", sum := "a38fde2d25727df3206795704fc1b269de07d0e0f805b73baaffd2c9366b32cc", func := "gimlet/gimletlaw06.AstKids", spec := "astKids", unfollowed := true, recurses := true, apart := false, narrowed := true }
def AstKidsUptoSaid : Prop := astKidsUptoRow.holds Try.pinned (OpenSpec.upto astKidsSpec)

/-- 'gimletlaw06.AstNumbers', WHERE WHAT IT READS IS OF BULK AT MOST 1048576: true; the input reads as it did. -/
def astNumbersUptoRow : OpenClaim := { program := "ytgkfdjfoakbibaa", sum := "a38fde2d25727df3206795704fc1b269de07d0e0f805b73baaffd2c9366b32cc", func := "gimlet/gimletlaw06.AstNumbers", spec := "astNumbers", unfollowed := true, recurses := true, apart := false, narrowed := true }
def AstNumbersUptoSaid : Prop := astNumbersUptoRow.holds Try.pinned (OpenSpec.upto astNumbersSpec)

/-- 'gimletlaw06.AstParts', WHERE WHAT IT READS IS OF BULK AT MOST 1048576: true; the input reads as it did. -/
def astPartsUptoRow : OpenClaim := { program := "ytgkfdjfoakbibaa", sum := "a38fde2d25727df3206795704fc1b269de07d0e0f805b73baaffd2c9366b32cc", func := "gimlet/gimletlaw06.AstParts", spec := "astParts", unfollowed := true, recurses := true, apart := false, narrowed := true }
def AstPartsUptoSaid : Prop := astPartsUptoRow.holds Try.pinned (OpenSpec.upto astPartsSpec)

/-- 'gimletlaw06.AstGrows', WHERE WHAT IT READS IS OF BULK AT MOST 1048576: true; the input reads as it did. -/
def astGrowsUptoRow : OpenClaim := { program := "ytgkfdjfoakbibaa", sum := "a38fde2d25727df3206795704fc1b269de07d0e0f805b73baaffd2c9366b32cc", func := "gimlet/gimletlaw06.AstGrows", spec := "astGrows", unfollowed := true, recurses := true, apart := false, narrowed := true }
def AstGrowsUptoSaid : Prop := astGrowsUptoRow.holds Try.pinned (OpenSpec.upto astGrowsSpec)

end Rows
end Go.Proofs.Ytgkfdjfoakbibaa
