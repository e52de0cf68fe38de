/- Walks of the packages ast, gimletref06 and slices: lists of numbers; kids. -/
import Derived.Test.YtfcgmgpcbenfpaaProg
import Derived.WalkKit
import Derived.WalkSpells
import Derived.WalkLawsBesides
import Derived.Handy
import Derived.Lib.Hide
import Derived.Test.YtfcgmgpcbenfpaaMAsa
import Derived.Deep.QuietTactic
import Derived.BigQuiet
set_option linter.unusedVariables false
set_option linter.unusedSimpArgs false
namespace Go.Proofs.Ytfcgmgpcbenfpaa
open Go.RowKit SetP AstP
/-- A list of numbers, as a slice of whatever make, in a block below B. -/
def IntsAt (w : World) (B : Nat) (A : Option Addr) (l : List Nat) : Prop :=
  l.length ≤ 1000000000000 ∧ (l.length = 0 ∨ ∃ b off, A = some ⟨b, off, none⟩ ∧ b < B ∧ ∀ j, j < l.length → w.cell? ⟨b, off + j, none⟩ = some (.int .i64 ((l.getD j 0 : Nat) : Int)))
theorem IntsAt.below {w w' : World} {B : Nat} {A : Option Addr} {l : List Nat} (h : IntsAt w B A l) (hb : Below B w w') : IntsAt w' B A l := by
  obtain ⟨h1, h2⟩ := h
  refine ⟨h1, ?_⟩
  rcases h2 with h2 | ⟨b, off, rfl, hB, hc⟩
  · exact .inl h2
  · exact .inr ⟨b, off, rfl, hB, fun j hj => (hb.cell (p := ⟨b, off + j, none⟩) hB).trans (hc j hj)⟩
theorem IntsAt.more {w : World} {B B' : Nat} {A : Option Addr} {l : List Nat} (h : IntsAt w B A l) (hB : B ≤ B') : IntsAt w B' A l := by
  obtain ⟨h1, h2⟩ := h
  refine ⟨h1, ?_⟩
  rcases h2 with h2 | ⟨b, off, rfl, hb, hc⟩
  · exact .inl h2
  · exact .inr ⟨b, off, rfl, by omega, hc⟩
theorem IntsAt.at_ {w : World} {B : Nat} {A : Option Addr} {l : List Nat} (h : IntsAt w B A l) {j : Nat} (hj : j < l.length) : ∃ b off, A = some ⟨b, off, none⟩ ∧ b < B ∧ w.cell? ⟨b, off + j, none⟩ = some (.int .i64 ((l.getD j 0 : Nat) : Int)) := by
  rcases h.2 with h2 | ⟨b, off, rfl, hb, hc⟩
  · omega
  · exact ⟨b, off, rfl, hb, hc j hj⟩
/-- A row of numbers of one's own, read. -/
theorem row_at0 {w : World} {base n c : Nat} {A : Option Addr} {l : List Nat} (h : w.ownsRow base 3 1 (.slice A n c) n (ints l)) (hn : n ≤ 1000000000000) : IntsAt w w.heap.size A l := by
  have hl := row_len h
  refine ⟨by omega, ?_⟩
  rcases rowInts h with ⟨rfl, rfl, rfl⟩ | ⟨g, rfl, hg, hc, hcell⟩
  · exact .inl hl
  · by_cases h0 : n = 0
    · exact .inl (by omega)
    · exact .inr ⟨g, 0, rfl, block_lt_of_cell (hcell 0 (by omega)), fun j hj => by rw [Nat.zero_add]; exact hcell j (by omega)⟩
theorem eq_at {l l' : List Nat} (hl : l.length = l'.length) (h : ∀ j, j < l.length → l.getD j 0 = l'.getD j 0) : (l == l') = true := by
  rw [beq_iff_eq]
  apply List.ext_getElem hl
  intro j h1 h2
  have := h j h1
  rwa [List.getD_eq_getElem?_getD, List.getElem?_eq_getElem h1, List.getD_eq_getElem?_getD, List.getElem?_eq_getElem h2] at this
theorem ne_at {l l' : List Nat} {j : Nat} (h : l.getD j 0 ≠ l'.getD j 0) : (l == l') = false := by
  rw [beq_eq_false_iff_ne]; rintro rfl; exact h rfl
theorem ne_len {l l' : List Nat} (h : l.length ≠ l'.length) : (l == l') = false := by
  rw [beq_eq_false_iff_ne]; rintro rfl; exact h rfl
/-- A list whose first k and last k are turned around. -/
def turnedAt (l : List Nat) (k p : Nat) : Nat := l.getD (if p < k ∨ l.length ≤ p + k then l.length - 1 - p else p) 0
/-- A block that begins with numbers. -/
def Starts (cs : Array Value) (n : Nat) (F : Nat → Nat) : Prop := n ≤ cs.size ∧ ∀ p, p < n → cs[p]? = some (.int .i64 ((F p : Nat) : Int))
theorem turned_next {l : List Nat} {k : Nat} {cs : Array Value} (hk : 2 * k + 1 < l.length) (h : Starts cs l.length (turnedAt l k)) :
    Starts ((cs.setIfInBounds k (.int .i64 ((l.getD (l.length - 1 - k) 0 : Nat) : Int))).setIfInBounds (l.length - 1 - k) (.int .i64 ((l.getD k 0 : Nat) : Int))) l.length (turnedAt l (k + 1)) := by
  obtain ⟨h1, h2⟩ := h
  refine ⟨by simpa using h1, fun p hp => ?_⟩
  rw [Array.getElem?_setIfInBounds, Array.getElem?_setIfInBounds]
  have hs : p < cs.size := by omega
  by_cases e1 : l.length - 1 - k = p
  · rw [if_pos e1, if_pos (by simpa using by omega)]
    unfold turnedAt
    rw [if_pos (by omega)]
    congr 4; omega
  · rw [if_neg e1]
    by_cases e2 : k = p
    · rw [if_pos e2, if_pos (by omega)]
      unfold turnedAt
      rw [if_pos (by omega)]
      congr 4; omega
    · rw [if_neg e2, h2 p hp]
      unfold turnedAt
      by_cases e3 : p < k ∨ l.length ≤ p + k
      · rw [if_pos e3, if_pos (by omega)]
      · rw [if_neg e3, if_neg (by omega)]
theorem turned_end {l : List Nat} {k p : Nat} (hk : l.length ≤ 2 * k + 1) (hp : p < l.length) : turnedAt l k p = l.reverse.getD p 0 := by
  unfold turnedAt
  have e : l.reverse.getD p 0 = l.getD (l.length - 1 - p) 0 := by
    rw [List.getD_eq_getElem?_getD, List.getD_eq_getElem?_getD, List.getElem?_reverse (by omega)]
  rw [e]
  split
  · rfl
  · congr 1; omega
theorem starts_ints {cs : Array Value} {l : List Nat} (h : Starts cs l.length (fun p => l.getD p 0)) : cs.toList.take (l.length * 1) = ints l := by
  obtain ⟨h1, h2⟩ := h
  apply List.ext_getElem?
  intro p
  by_cases hp : p < l.length
  · rw [List.getElem?_take_of_lt (by omega), Array.getElem?_toList, h2 p hp, List.getElem?_map]; show some (Value.int .i64 ((l.getD p 0 : Nat) : Int)) = _; rw [List.getD_eq_getElem?_getD, List.getElem?_eq_getElem hp]; rfl
  · rw [List.getElem?_eq_none (by simp; omega), List.getElem?_eq_none (by simp; omega)]
theorem ints_starts {cs : Array Value} {l : List Nat} {n : Nat} (h : cs.toList.take (n * 1) = ints l) (hl : l.length = n) : Starts cs l.length (fun p => l.getD p 0) := by
  have hz : n ≤ cs.size := by
    have := congrArg List.length h
    simp at this; omega
  refine ⟨by omega, fun p hp => ?_⟩
  have e : cs.toList[p]? = (ints l)[p]? := by rw [← h, List.getElem?_take_of_lt (by omega)]
  rw [← Array.getElem?_toList, e, List.getElem?_map]
  show _ = some (Value.int .i64 ((l.getD p 0 : Nat) : Int))
  rw [List.getD_eq_getElem?_getD, List.getElem?_eq_getElem hp]; rfl
end Go.Proofs.Ytfcgmgpcbenfpaa

/- Walks of the packages ast and gimletref06: kids. -/
namespace Go.Proofs.Ytfcgmgpcbenfpaa
open Go.RowKit SetP AstP
theorem sizes_len_le (L : List Nd) : (sizesF L).length ≤ L.length := by
  cases h : formedF L with
  | true => rw [sizesF_formed h, Sz_length (Nat.le_refl _)]; exact Nat.le_refl _
  | false => rw [sizesF_not h]; simp
theorem formed_of_len {L : List Nd} {k : Nat} (h : k < (sizesF L).length) : formedF L = true := by
  cases hf : formedF L with
  | true => rfl
  | false => rw [sizesF_not hf] at h; simp at h
theorem row_read {w : World} {base n c g : Nat} {l : List Nat} (h : w.ownsRow base 3 1 (.slice (some ⟨g, 0, none⟩) n c) n (ints l)) {q : Nat} (hq : q < n) : w.cell? ⟨g, q, none⟩ = some (.int .i64 ((l.getD q 0 : Nat) : Int)) := by
  rcases rowInts h with ⟨h, _⟩ | ⟨g', h, _, _, hc⟩
  · cases h
  · cases h; exact hc q hq
end Go.Proofs.Ytfcgmgpcbenfpaa

/- Walks of the package gimletref06: kids. -/
namespace Go.Proofs.Ytfcgmgpcbenfpaa
open Go.RowKit SetP AstP
theorem fill_back (R : List Nat) (n v : Nat) (h : 0 < n) : (List.replicate n 0 ++ R).set (n - 1) v = List.replicate (n - 1) 0 ++ (v :: R) := by
  obtain ⟨m, rfl⟩ : ∃ m, n = m + 1 := ⟨n - 1, by omega⟩
  rw [Nat.add_sub_cancel, List.replicate_succ', List.append_assoc, List.set_append_right _ _ (by simp)]
  simp
end Go.Proofs.Ytfcgmgpcbenfpaa
