/- Walks of the package bracket: the bracket of a set. -/
import Derived.Test.YtfcgmgpcbenfpaaProg
import Derived.WalkKit
import Derived.WalkSpells
import Derived.WalkLawsBesides
import Derived.Handy
import Derived.Lib.Hide
import Derived.Test.YtfcgmgpcbenfpaaMBkp
import Derived.Test.YtfcgmgpcbenfpaaMBset
import Derived.Deep.QuietTactic
import Derived.Deep.RegionHeld3
import Derived.BigQuiet
import Derived.IntWalk
set_option linter.unusedVariables false
set_option linter.unusedSimpArgs false
namespace Go.Proofs.Ytfcgmgpcbenfpaa
open Go.RowKit SetP BrkP
attribute [local go_sem] run_eq_set0
set_option maxRecDepth 100000 in
theorem conv_textU (w : World) (a : Addr) (k cap : Nat) (l : List UInt8) (hk : l.length = k) (hc : ∀ j (hj : j < l.length), w.cell? (a.add j) = some (.int .u8 (l[j].toNat : Int))) :
    (convert 70 9 (.slice (some a) k cap)).run Try.prog w = .ok (.string ⟨l.toArray⟩) w := by
  subst hk
  exact run_convert_bytes_back w 70 9 5 a cap l Try.underlying70 Try.underlying5 Try.underlying9 hc
def runU (c d : UInt8) : List UInt8 := if c == d then [c] else if (d.toNat : Int) == (c.toNat : Int) + 1 then [c, d] else [c, 45, d]
theorem runU_runT {p : Int × Int} (g : BrkP.Good p) : BrkP.runT p = runU (chB p.1) (chB p.2) := by
  have h1 := g.le
  have h2 := g.hi
  have ea := chB_nat g.lo (by omega)
  have eb := chB_nat (z := p.2) (by have := g.lo; omega) g.hi
  unfold BrkP.runT runU
  have e1 : (chB p.1 == chB p.2) = (p.1 == p.2) := by
    rw [Bool.eq_iff_iff]; simp only [beq_iff_eq]
    constructor
    · intro h; rw [← ea, ← eb, h]
    · intro h; rw [h]
  rw [e1, ea, eb]
def fourL : List Int := [93, 91, 94, 45]
theorem four_addL : addL (fun _ => false) fourL = four := by
  funext x
  unfold addL fourL four
  simp only [List.foldl_cons, List.foldl_nil, addB]
  simp [Bool.or_assoc]
set_option maxRecDepth 100000 in
theorem with4 (g c : Nat) (w : World) (o : Slab w g #[.int .u8 93, .int .u8 91, .int .u8 94, .int .u8 45] 5) :
    Calls Try.prog 88 #[.agg #[.int .u64 0, .int .u64 0, .int .u64 0, .int .u64 0], .slice (some ⟨g, 0, none⟩) 4 c] w fun e w' => e = .returned (setV four) ∧ Below w.heap.size w w' := by
  have h := with_some (fun _ => false) g 0 c fourL w (by decide) o.lt (fun i hi => by
    have hi' : i < 4 := hi
    rw [Nat.zero_add, o.cell]
    match i, hi' with
    | 0, _ => rfl
    | 1, _ => rfl
    | 2, _ => rfl
    | 3, _ => rfl) (fun i hi => by
    have hi' : i < 4 := hi
    match i, hi' with
    | 0, _ => exact ⟨by decide, by decide⟩
    | 1, _ => exact ⟨by decide, by decide⟩
    | 2, _ => exact ⟨by decide, by decide⟩
    | 3, _ => exact ⟨by decide, by decide⟩)
  rw [four_addL] at h
  unfold setV at h
  rw [wd_zero, wd_zero, wd_zero, wd_zero] at h
  exact h
set_option maxRecDepth 100000 in
theorem less4 (f : Nat → Bool) (w : World) : Calls Try.prog 89 #[setV f, setV four] w fun e w' => e = .returned (setV (restF f)) ∧ Below w.heap.size w w' := less_any f four w
theorem runsT_len (R : List (Int × Int)) : (runsT R).length ≤ 3 * R.length := by
  induction R with
  | nil => simp [runsT]
  | cons p R ih =>
    have e : runsT (p :: R) = BrkP.runT p ++ runsT R := rfl
    have : (BrkP.runT p).length ≤ 3 := by unfold BrkP.runT; split; simp; split <;> simp
    rw [e, List.length_append, List.length_cons]; omega
theorem runsT_take {R : List (Int × Int)} {k : Nat} (h : k < R.length) : runsT (R.take (k + 1)) = runsT (R.take k) ++ BrkP.runT R[k] := by
  unfold runsT
  rw [List.take_add_one, List.getElem?_eq_getElem h, List.flatMap_append]
  simp
abbrev strB (l : List UInt8) : ByteArray := ⟨l.toArray⟩
theorem strB_app (l m : List UInt8) : strB l ++ strB m = strB (l ++ m) := bytes_ext (by rw [ByteArray.data_append]; simp)
theorem strB_size (l : List UInt8) : (strB l).size = l.length := by show l.toArray.size = _; simp
theorem below_da {a w : World} (h : Below a.heap.size a w) (k : Nat) (o : Obj) : Below a.heap.size a ((w.drewN k).alloc o) := (below_drewN h k).alloc h.size o
theorem runU_len (c d : UInt8) : (runU c d).length ≤ 3 := by unfold runU; split; simp; split <;> simp
theorem strB_nil (l : List UInt8) : ((strB l).toList == []) = l.isEmpty := by
  have e : (strB l).toList = l := by rw [ByteArray.toList_eq]
  rw [e]; cases l <;> rfl
theorem str_eq (l m : List UInt8) : ((strB l).toList == m) = (l == m) := by
  have e : (strB l).toList = l := by rw [ByteArray.toList_eq]
  rw [e]
theorem q1 : (((⟨#[45]⟩ : ByteArray) ++ ⟨#[94]⟩).toList == [94]) = false := (congrArg (fun s : ByteArray => s.toList == [94]) (strB_app [45] [94])).trans (str_eq _ _)
theorem q2 : (((⟨#[45]⟩ : ByteArray) ++ ⟨#[]⟩).toList == [94]) = false := (congrArg (fun s : ByteArray => s.toList == [94]) (strB_app [45] [])).trans (str_eq _ _)
theorem q3 : ((⟨#[94]⟩ : ByteArray).toList == [94]) = true := str_eq [94] [94]
theorem q4 : ((⟨#[]⟩ : ByteArray).toList == [94]) = false := str_eq [] [94]
end Go.Proofs.Ytfcgmgpcbenfpaa
