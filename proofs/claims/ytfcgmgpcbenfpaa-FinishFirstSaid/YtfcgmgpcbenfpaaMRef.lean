/- Walks of the package gimletref01: what the document says of sets. -/
import Derived.Test.YtfcgmgpcbenfpaaProg
import Derived.WalkKit
import Derived.WalkSpells
import Derived.WalkLawsBesides
import Derived.Handy
import Derived.Lib.Hide
import Derived.Test.YtfcgmgpcbenfpaaMBset
import Derived.Deep.RegionHeld3
import Derived.Test.YtfcgmgpcbenfpaaMMem
set_option linter.unusedVariables false
set_option linter.unusedSimpArgs false
namespace Go.Proofs.Ytfcgmgpcbenfpaa
open Go.RowKit SetP

/-- A list of yes and no, 256 long. -/
def bools (g : Nat → Bool) : Array Value := (Array.range 256).map fun i => .bool (g i)
theorem bools_at (g : Nat → Bool) (k : Nat) (h : k < 256) : (bools g)[k]? = some (.bool (g k)) := by
  unfold bools
  rw [Array.getElem?_map, Array.getElem?_range, if_pos h]; rfl
theorem bools_size (g : Nat → Bool) : (bools g).size = 256 := by simp [bools]
theorem bools_set (g : Nat → Bool) (k : Nat) (v : Bool) : (bools g).setIfInBounds k (.bool v) = bools (fun x => if x = k then v else g x) := by
  apply Array.ext
  · simp [bools]
  · intro i h1 h2
    have hi : i < 256 := by simpa [bools] using h2
    simp only [bools, Array.getElem_map, Array.getElem_range]
    by_cases e : k = i
    · subst e; simp
    · have e' : ¬ i = k := fun h => e h.symm
      rw [Array.getElem_setIfInBounds_ne (by simpa using hi) e]
      simp [e']
theorem bools_congr {f g : Nat → Bool} (h : ∀ x, x < 256 → f x = g x) : bools f = bools g := by
  unfold bools
  apply Array.ext
  · simp
  · intro i h1 h2
    simp only [Array.getElem_map, Array.getElem_range]
    rw [h i (by simpa using h2)]
theorem bools_step {w : World} {g : Nat} {t : TypeId} {F : Nat → Bool} (h : Slab w g (bools F) t) (k : Nat) (v : Bool) (G : Nat → Bool) (hG : ∀ x, x < 256 → G x = if x = k then v else F x) :
    Slab (w.setCell ⟨g, k, none⟩ (.bool v)) g (bools G) t := by
  have h2 := h.set k (.bool v)
  rw [bools_set] at h2
  rw [bools_congr hG]
  exact h2
theorem wd_addN (f : Nat → Bool) (b : Nat) : bits .or .u64 (wd f (b / 64)) (IntKind.u64.wrap (2 ^ (b % 64))) = wd (addB f b) (b / 64) := by
  have h := wd_add f (b : Int) (by omega) (b / 64) (by omega)
  rw [show ((b : Int) % 64).toNat = b % 64 by omega] at h
  simpa using h
theorem cells4_at (f : Nat → Bool) (i : Nat) (h : i < 4) : (cells4 f)[i]? = some (.int .u64 (wd f i)) := by
  have h : i = 0 ∨ i = 1 ∨ i = 2 ∨ i = 3 := by omega
  rcases h with rfl | rfl | rfl | rfl <;> rfl
theorem cells4_set (f : Nat → Bool) (b : Nat) (h : b < 256) : (cells4 f).setIfInBounds (b / 64) (.int .u64 (wd (addB f b) (b / 64))) = cells4 (addB f b) := by
  have h4 : b / 64 = 0 ∨ b / 64 = 1 ∨ b / 64 = 2 ∨ b / 64 = 3 := by omega
  have e0 := wd_add_other f b 0
  have e1 := wd_add_other f b 1
  have e2 := wd_add_other f b 2
  have e3 := wd_add_other f b 3
  rcases h4 with h | h | h | h <;> rw [h] at e0 e1 e2 e3 ⊢ <;> simp_all [cells4]

end Go.Proofs.Ytfcgmgpcbenfpaa

/- More walks of the package gimletref01. -/
namespace Go.Proofs.Ytfcgmgpcbenfpaa
open Go.RowKit SetP

set_option maxRecDepth 100000 in
theorem info_byte : (Try.prog.info? 5).map (fun i => (i.zero, i.size, i.bytes)) = some (some (.int .u8 0), 1, 1) := by kernel_rfl

end Go.Proofs.Ytfcgmgpcbenfpaa

/- The walk of gimletref01's Runs. -/
namespace Go.Proofs.Ytfcgmgpcbenfpaa
open Go.RowKit SetP

theorem runsB_lastOf (f : Nat → Bool) (k : Nat) (h : f k = true) : ∃ l a, runsB f (k + 1) = l ++ [(a, (k : Int))] := by
  induction k with
  | zero => exact ⟨[], 0, by simp [runsB, h]⟩
  | succ k ih =>
    rw [runsB, h]
    by_cases e : f k = true
    · obtain ⟨l, a, hl⟩ := ih e
      refine ⟨l, a, ?_⟩
      simp only [Nat.add_sub_cancel, e, Bool.and_true, if_true]
      rw [if_pos (by simp), hl, setLast_snoc]
    · refine ⟨runsB f (k + 1), ((k + 1 : Nat) : Int), ?_⟩
      have e' : f k = false := by simpa using e
      simp [e']

theorem pairCells_at1 (l : List (Int × Int)) (a b : Int) : (pairCells (l ++ [(a, b)]))[l.length * 2 + 1]? = some (.int .u8 b) := by
  rw [pairCells_snoc, List.getElem?_append_right (by rw [pairCells_length]; omega), pairCells_length]
  rw [show l.length * 2 + 1 - l.length * 2 = 1 by omega]; rfl
theorem pairCells_set1 (l : List (Int × Int)) (a b c : Int) : (pairCells (l ++ [(a, b)])).set (l.length * 2 + 1) (.int .u8 c) = pairCells (l ++ [(a, c)]) := by
  rw [pairCells_snoc, pairCells_snoc, List.set_append_right _ _ (by rw [pairCells_length]; omega), pairCells_length]
  rw [show l.length * 2 + 1 - l.length * 2 = 1 by omega]; rfl

end Go.Proofs.Ytfcgmgpcbenfpaa
