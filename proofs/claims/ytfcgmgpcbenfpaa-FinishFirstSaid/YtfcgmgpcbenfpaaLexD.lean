/- Walks of lex.All and gimletref05.All: all words of a text. -/
import Derived.Test.YtfcgmgpcbenfpaaProg
import Derived.WalkKit
import Derived.WalkSpells
import Derived.WalkLawsBesides
import Derived.Handy
import Derived.Lib.Hide
import Derived.Test.YtfcgmgpcbenfpaaLexB
import Derived.Test.YtfcgmgpcbenfpaaLexQ
import Derived.Test.YtfcgmgpcbenfpaaMMem
set_option linter.unusedVariables false
set_option linter.unusedSimpArgs false
namespace Go.Proofs.Ytfcgmgpcbenfpaa
open Go.RowKit SetP BrkP LexP
def flatW (L : List Wd) : List Value := L.flatMap fun x => (wdCells x).toList
theorem flatW_append (L M : List Wd) : flatW (L ++ M) = flatW L ++ flatW M := by unfold flatW; rw [List.flatMap_append]
theorem flatW_one (x : Wd) : flatW [x] = (wdCells x).toList := by unfold flatW; simp
theorem flatW_length (L : List Wd) : (flatW L).length = L.length * 9 := by
  induction L with
  | nil => rfl
  | cons x L ih =>
    have e : flatW (x :: L) = (wdCells x).toList ++ flatW L := rfl
    rw [e, List.length_append, ih, List.length_cons]
    simp; omega
theorem flatW_get (L : List Wd) (j f : Nat) (hj : j < L.length) (hf : f < 9) : (flatW L)[j * 9 + f]? = (wdCells (L.getD j wd0))[f]? := by
  induction L generalizing j with
  | nil => simp at hj
  | cons x L ih =>
    have e : flatW (x :: L) = (wdCells x).toList ++ flatW L := rfl
    rw [e]
    cases j with
    | zero => rw [Nat.zero_mul, Nat.zero_add, List.getElem?_append_left (by simpa using hf)]; simp
    | succ j =>
      rw [List.getElem?_append_right (by simp; omega)]
      have := ih j (by simpa using hj)
      rw [show (j + 1) * 9 + f - (wdCells x).toList.length = j * 9 + f by simp; omega]
      rw [this]; rfl
/-- A list of words, as a slice of whatever make, in a block below B. -/
def WordsAt (w : World) (B : Nat) (A : Option Addr) (L : List Wd) : Prop :=
  L.length ≤ 1000000000000 ∧ (L.length = 0 ∨ ∃ b, A = some ⟨b, 0, none⟩ ∧ b < B ∧ ∀ j, j < L.length → ∀ f, f < 9 → w.cell? ⟨b, j * 9 + f, none⟩ = (wdCells (L.getD j wd0))[f]?)
theorem WordsAt.below {w w' : World} {B : Nat} {A : Option Addr} {L : List Wd} (h : WordsAt w B A L) (hb : Below B w w') : WordsAt w' B A L := by
  obtain ⟨h1, h2⟩ := h
  refine ⟨h1, ?_⟩
  rcases h2 with h2 | ⟨b, rfl, hB, hc⟩
  · exact .inl h2
  · exact .inr ⟨b, rfl, hB, fun j hj f hf => (hb.cell (p := ⟨b, j * 9 + f, none⟩) hB).trans (hc j hj f hf)⟩
theorem WordsAt.more {w : World} {B B' : Nat} {A : Option Addr} {L : List Wd} (h : WordsAt w B A L) (hB : B ≤ B') : WordsAt w B' A L := by
  obtain ⟨h1, h2⟩ := h
  refine ⟨h1, ?_⟩
  rcases h2 with h2 | ⟨b, rfl, hb, hc⟩
  · exact .inl h2
  · exact .inr ⟨b, rfl, by omega, hc⟩
theorem WordsAt.of_row {w : World} {base n c : Nat} {A : Option Addr} {L : List Wd} (h : w.ownsRow base 51 9 (.slice A n c) n (flatW L)) (hn : L.length = n) (hb : n ≤ 1000000000000) : WordsAt w w.heap.size A L := by
  refine ⟨by omega, ?_⟩
  rcases Nat.eq_zero_or_pos n with h0 | h0
  · exact .inl (by omega)
  · obtain ⟨g, rfl, _, hg, _, hc⟩ := row_cell h h0
    refine .inr ⟨g, rfl, hg, fun j hj f hf => ?_⟩
    rw [hc _ (by omega), flatW_get L j f hj hf]
def wdZero : Value := .agg #[.int .i64 0, .int .i64 0, .int .i64 0, .int .u64 0, .int .u64 0, .int .u64 0, .int .u64 0, .int .i64 0, .int .i64 0]
set_option maxRecDepth 100000 in
theorem info_word : (Try.prog.info? 51).map (fun i => (i.zero, i.size, i.bytes)) = some (some wdZero, 9, 72) := by kernel_rfl
/-- What a call hands back that makes a list of words. -/
def RetAll (r : List Wd × Int × Int) (w : World) (e : Ending) (w' : World) : Prop :=
  ∃ A c, e = .returned (.tuple #[.slice A r.1.length c, .int .i64 r.2.1, .int .i64 r.2.2]) ∧ w'.ownsRow w.heap.size 51 9 (.slice A r.1.length c) r.1.length (flatW r.1) ∧ Below w.heap.size w w'
theorem word_or {s : ByteArray} {k : Nat} (h : k < s.size) : (∃ (x : Wd) (e : Nat), nextW s k = ⟨x, 0, 0⟩ ∧ x.stop = (e : Int) ∧ k < e ∧ e ≤ s.size) ∨ ∃ (x : Wd) (er p : Int), nextW s k = ⟨x, er, p⟩ ∧ er ≠ 0 := by
  by_cases h0 : (nextW s k).err = 0
  · obtain ⟨x, e, h1, h2, h3, h4, _⟩ := fit_ok h h0
    exact .inl ⟨x, e, h1, h2, h3, h4⟩
  · exact .inr ⟨(nextW s k).word, (nextW s k).err, (nextW s k).place, rfl, h0⟩
end Go.Proofs.Ytfcgmgpcbenfpaa
