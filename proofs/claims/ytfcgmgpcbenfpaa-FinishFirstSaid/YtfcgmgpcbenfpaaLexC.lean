/- Walks of the package gimletref05: Next. -/
import Derived.Test.YtfcgmgpcbenfpaaProg
import Derived.WalkKit
import Derived.WalkSpells
import Derived.WalkLawsBesides
import Derived.Handy
import Derived.Lib.Hide
import Derived.Test.YtfcgmgpcbenfpaaLexB
import Derived.Test.YtfcgmgpcbenfpaaMBkd
import Derived.Test.YtfcgmgpcbenfpaaMBrb
import Derived.Test.YtfcgmgpcbenfpaaMRef
import Derived.Deep.RegionHeld3
set_option linter.unusedVariables false
set_option linter.unusedSimpArgs false
namespace Go.Proofs.Ytfcgmgpcbenfpaa
open Go.RowKit SetP BrkP LexP
theorem results_cell1 {P : Program} {fn : Func} {t : TypeId} {a : Tmp} (h : fn.results = #[.cell a t]) {tmps : Array Value} {w : World} {p : Addr} {v : Value} (hp : tmps.getD a undef = .pointer (some p))
    (hl : (loadVar t p).run P w = .ok v w) : (results fn tmps).run P w = .ok v w := by
  have hp' : tmps[a]?.getD undef = .pointer (some p) := by simpa using hp
  simp [results, h, hp', asAddr, hl]
theorem byte_set (b : UInt8) : setV (rangeF (b.toNat : Int) (b.toNat : Int)) = setV (addB noSet b.toNat) := by
  apply setV_ext
  intro x _
  unfold rangeF addB
  rw [Bool.eq_iff_iff]; simp; omega
theorem esc_any (b : UInt8) (h : ∀ j, j < 14 → (escL.getD j 0 == b) = false) : escB b = false := by
  unfold escB
  cases hc : escL.contains b with
  | false => rfl
  | true =>
    exfalso
    rw [List.contains_iff_mem] at hc
    obtain ⟨j, hj, he⟩ := List.getElem_of_mem hc
    have := h j (by simpa [escL] using hj)
    rw [List.getD_eq_getElem?_getD, List.getElem?_eq_getElem hj, he] at this
    simp at this
theorem esc_at {b : UInt8} {j : Nat} (hj : j < 14) (h : (escL.getD j 0 == b) = true) : escB b = true := by
  unfold escB
  rw [List.contains_iff_mem]
  have hl : j < escL.length := hj
  rw [List.getD_eq_getElem?_getD, List.getElem?_eq_getElem hl] at h
  have : escL[j] = b := by simpa using h
  rw [← this]; exact List.getElem_mem _
end Go.Proofs.Ytfcgmgpcbenfpaa
