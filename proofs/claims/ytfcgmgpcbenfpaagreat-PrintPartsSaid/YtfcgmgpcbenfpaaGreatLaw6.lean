/- The statements of stage 6, walked: what must come whatever the input is. -/
import Derived.Test.YtfcgmgpcbenfpaaGreatProg
import Derived.WalkKit
import Derived.WalkSpells
import Derived.WalkLawsBesides
import Derived.Handy
import Derived.Lib.Hide
import Derived.Test.YtfcgmgpcbenfpaaGreatMAsk
import Derived.Test.YtfcgmgpcbenfpaaGreatMAsi
set_option linter.unusedVariables false
set_option linter.unusedSimpArgs false
namespace Go.Proofs.YtfcgmgpcbenfpaaGreat
open Go.RowKit SetP AstP
def flatN (L : List Nd) : List Value := L.flatMap fun x => (ndCells x).toList
theorem flat_get (L : List Nd) (j f : Nat) (hj : j < L.length) (hf : f < 8) : (flatN L)[j * 8 + f]? = (ndCells (L.getD j ndEmpty))[f]? := by
  induction L generalizing j with
  | nil => simp at hj
  | cons x L ih =>
    have e : flatN (x :: L) = (ndCells x).toList ++ flatN L := rfl
    rw [e]
    cases j with
    | zero => rw [Nat.zero_mul, Nat.zero_add, List.getElem?_append_left (by simpa using hf)]; simp
    | succ j =>
      rw [List.getElem?_append_right (by simp; omega)]
      have := ih j (by simpa using hj)
      rw [show (j + 1) * 8 + f - (ndCells x).toList.length = j * 8 + f by simp; omega]
      rw [this]; rfl
theorem NodesAt.slab {w : World} {B g : Nat} {L : List Nd} (h : Slab w g (flatN L).toArray 51) (hB : g < B) (hl : L.length ≤ 1000000000000) : NodesAt w B (some ⟨g, 0, none⟩) L :=
  ⟨hl, .inr ⟨g, 0, rfl, hB, fun j hj f hf => by rw [h.cell, Nat.zero_add]; simpa using flat_get L j f hj hf⟩⟩
theorem NodesAt.take {w : World} {B : Nat} {A : Option Addr} {L : List Nd} (h : NodesAt w B A L) (n : Nat) : NodesAt w B A (L.take n) := by
  obtain ⟨h1, h2⟩ := h
  refine ⟨by rw [List.length_take]; omega, ?_⟩
  rcases h2 with h2 | ⟨b, off, rfl, hB, hc⟩
  · exact .inl (by rw [List.length_take]; omega)
  · refine .inr ⟨b, off, rfl, hB, fun j hj f hf => ?_⟩
    rw [List.length_take] at hj
    rw [hc j (by omega) f hf, List.getD_eq_getElem?_getD, List.getD_eq_getElem?_getD, List.getElem?_take_of_lt (by omega)]
theorem IntsAt.slab {w : World} {B g : Nat} {l : List Nat} (h : Slab w g (intsA l) 3) (hB : g < B) (hl : l.length ≤ 1000000000000) : IntsAt w B (some ⟨g, 0, none⟩) l :=
  ⟨hl, .inr ⟨g, 0, rfl, hB, fun j hj => by rw [Nat.zero_add, h.cell]; exact ints_get l hj⟩⟩
end Go.Proofs.YtfcgmgpcbenfpaaGreat
