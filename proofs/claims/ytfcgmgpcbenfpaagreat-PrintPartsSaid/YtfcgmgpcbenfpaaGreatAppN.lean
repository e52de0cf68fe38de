/- Lists of nodes, put one behind the other: what the walks of the laws want. -/
import Derived.Test.YtfcgmgpcbenfpaaGreatProg
import Derived.WalkKit
import Derived.WalkSpells
import Derived.WalkLawsBesides
import Derived.Handy
import Derived.Lib.Hide
import Derived.Test.YtfcgmgpcbenfpaaGreatLaw7
import Derived.Test.YtfcgmgpcbenfpaaGreatAstO
import Derived.Test.YtfcgmgpcbenfpaaGreatMAsi
set_option linter.unusedVariables false
set_option linter.unusedSimpArgs false
namespace Go.Proofs.YtfcgmgpcbenfpaaGreat
open Go.RowKit SetP AstP
theorem flatD_cell (L : List Nd) : ∀ u ∈ flatD L, u.oneCell' = true := by
  intro u hu
  unfold flatD at hu
  obtain ⟨x, _, hx⟩ := List.mem_flatMap.1 hu
  simp at hx
  rcases hx with rfl | rfl | rfl | rfl | rfl | rfl | rfl | rfl <;> rfl
theorem NodesAt.cells7 {w : World} {B b off : Nat} {L : List Nd} (h : NodesAt w B (some ⟨b, off, none⟩) L) : ∀ j u, (flatD L)[j]? = some u → w.cell? ((⟨b, off, none⟩ : Addr).add j) = some u := by
  intro j u hu
  have hj : j < L.length * 8 := by rw [← flatD_length7]; exact (List.getElem?_eq_some_iff.1 hu).1
  rcases h.2 with h0 | ⟨b', off', e, _, hc⟩
  · omega
  · cases e
    have h1 := hc (j / 8) (by omega) (j % 8) (by omega)
    have h2 := flatD_get L (j / 8) (j % 8) (by omega) (by omega)
    have e : j / 8 * 8 + j % 8 = j := by omega
    rw [e] at h2
    rw [Addr.add_lit, show off + j = off + j / 8 * 8 + j % 8 by omega, h1, ← h2]
    exact hu
theorem flatD_append (L M : List Nd) : flatD (L ++ M) = flatD L ++ flatD M := by unfold flatD; rw [List.flatMap_append]
theorem flatD_group : flatD [ndGroup] = (#[.int .i64 3, .int .i64 1, .int .i64 0, .int .i64 0, .int .u64 0, .int .u64 0, .int .u64 0, .int .u64 0] : Array Value).toList := by
  simp [flatD, ndGroup, ndCells, wd_zero]
theorem flatD_alt : flatD [ndAlt] = (#[.int .i64 6, .int .i64 2, .int .i64 0, .int .i64 0, .int .u64 0, .int .u64 0, .int .u64 0, .int .u64 0] : Array Value).toList := by
  simp [flatD, ndAlt, ndCells, wd_zero]
/-- A slice that is made empty. -/
theorem row_none (W : World) : (W.alloc (.cells #[] 51)).ownsRow W.heap.size 51 8 (.slice (some ⟨W.heap.size, 0, none⟩) 0 0) 0 [] := row_lit (Slab.new _ _ _) (Nat.le_refl _) rfl (by unfold maxLen; omega)
end Go.Proofs.YtfcgmgpcbenfpaaGreat
