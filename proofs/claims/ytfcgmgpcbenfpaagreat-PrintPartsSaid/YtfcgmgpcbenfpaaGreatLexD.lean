/- Walks of lex.All and gimletref05.All: all words of a text. -/
import Derived.Test.YtfcgmgpcbenfpaaGreatProg
import Derived.WalkKit
import Derived.WalkSpells
import Derived.WalkLawsBesides
import Derived.Handy
import Derived.Lib.Hide
import Derived.Test.YtfcgmgpcbenfpaaGreatLexB
import Derived.Test.YtfcgmgpcbenfpaaGreatLexQ
import Derived.Test.YtfcgmgpcbenfpaaGreatMMem
set_option linter.unusedVariables false
set_option linter.unusedSimpArgs false
namespace Go.Proofs.YtfcgmgpcbenfpaaGreat
open Go.RowKit SetP BrkP LexP
def flatW (L : List Wd) : List Value := L.flatMap fun x => (wdCells x).toList
theorem flatW_get (L : List Wd) (j f : Nat) (hj : j < L.length) (hf : f < 9) : (flatW L)[j * 9 + f]? = (wdCells (L.getD j wd0))[f]? := by
  induction L generalizing j with
  | nil => simp at hj
  | cons x L ih =>
    have e : flatW (x :: L) = (wdCells x).toList ++ flatW L := rfl
    rw [e]
    cases j with
    | zero => rw [Nat.zero_mul, Nat.zero_add, List.getElem?_append_left (by simpa using hf)]; simp
    | succ j =>
      rw [List.getElem?_append_right (by simp; omega)]
      have := ih j (by simpa using hj)
      rw [show (j + 1) * 9 + f - (wdCells x).toList.length = j * 9 + f by simp; omega]
      rw [this]; rfl
/-- A list of words, as a slice of whatever make, in a block below B. -/
def WordsAt (w : World) (B : Nat) (A : Option Addr) (L : List Wd) : Prop :=
  L.length ≤ 1000000000000 ∧ (L.length = 0 ∨ ∃ b, A = some ⟨b, 0, none⟩ ∧ b < B ∧ ∀ j, j < L.length → ∀ f, f < 9 → w.cell? ⟨b, j * 9 + f, none⟩ = (wdCells (L.getD j wd0))[f]?)
theorem WordsAt.below {w w' : World} {B : Nat} {A : Option Addr} {L : List Wd} (h : WordsAt w B A L) (hb : Below B w w') : WordsAt w' B A L := by
  obtain ⟨h1, h2⟩ := h
  refine ⟨h1, ?_⟩
  rcases h2 with h2 | ⟨b, rfl, hB, hc⟩
  · exact .inl h2
  · exact .inr ⟨b, rfl, hB, fun j hj f hf => (hb.cell (p := ⟨b, j * 9 + f, none⟩) hB).trans (hc j hj f hf)⟩
theorem WordsAt.more {w : World} {B B' : Nat} {A : Option Addr} {L : List Wd} (h : WordsAt w B A L) (hB : B ≤ B') : WordsAt w B' A L := by
  obtain ⟨h1, h2⟩ := h
  refine ⟨h1, ?_⟩
  rcases h2 with h2 | ⟨b, rfl, hb, hc⟩
  · exact .inl h2
  · exact .inr ⟨b, rfl, by omega, hc⟩
theorem WordsAt.of_row {w : World} {base n c : Nat} {A : Option Addr} {L : List Wd} (h : w.ownsRow base 74 9 (.slice A n c) n (flatW L)) (hn : L.length = n) (hb : n ≤ 1000000000000) : WordsAt w w.heap.size A L := by
  refine ⟨by omega, ?_⟩
  rcases Nat.eq_zero_or_pos n with h0 | h0
  · exact .inl (by omega)
  · obtain ⟨g, rfl, _, hg, _, hc⟩ := row_cell h h0
    refine .inr ⟨g, rfl, hg, fun j hj f hf => ?_⟩
    rw [hc _ (by omega), flatW_get L j f hj hf]
end Go.Proofs.YtfcgmgpcbenfpaaGreat
