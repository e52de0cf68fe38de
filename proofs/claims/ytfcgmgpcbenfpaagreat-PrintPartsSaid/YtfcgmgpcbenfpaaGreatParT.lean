/- Plain facts: what a word does to what was read; how much was read. No program is in sight. -/
import Derived.Test.YtfcgmgpcbenfpaaGreatParP
import Derived.Test.YtfcgmgpcbenfpaaGreatLexQ
import Derived.Test.YtfcgmgpcbenfpaaGreatMBrb
set_option linter.unusedVariables false
set_option linter.unusedSimpArgs false
namespace Go.Proofs.YtfcgmgpcbenfpaaGreat
open Go.RowKit SetP BrkP LexP AstP
namespace ParP
def KindB (b : UInt8) (k : Int) : Prop := (k = 2 → b = 40) ∧ (k = 3 → b = 41) ∧ (k = 5 → isCnt b = true)
theorem kindB_no {b : UInt8} {k : Int} (h2 : k ≠ 2) (h3 : k ≠ 3) (h5 : k ≠ 5) : KindB b k := ⟨fun h => absurd h h2, fun h => absurd h h3, fun h => absurd h h5⟩
theorem word_kind (s : ByteArray) (a : Nat) (b : UInt8) : KindB b (wordB s a b).word.kind := by
  have one : ∀ (f : Nat → Bool) (x y : Int), KindB b (oneA f x y).word.kind := fun f x y => kindB_no (k := 1) (by decide) (by decide) (by decide)
  have bad : ∀ (x y : Int), KindB b (badA x y).word.kind := fun x y => kindB_no (k := 0) (by decide) (by decide) (by decide)
  unfold wordB
  split
  · rename_i c; exact ⟨fun _ => by simpa using c, fun h => absurd h (by show ¬ (2 : Int) = 3; decide), fun h => absurd h (by show ¬ (2 : Int) = 5; decide)⟩
  split
  · rename_i c; exact ⟨fun h => absurd h (by show ¬ (3 : Int) = 2; decide), fun _ => by simpa using c, fun h => absurd h (by show ¬ (3 : Int) = 5; decide)⟩
  split
  · exact kindB_no (k := 4) (by decide) (by decide) (by decide)
  split
  · rename_i c
    unfold cntA
    split
    · exact ⟨fun h => absurd h (by show ¬ (5 : Int) = 2; decide), fun h => absurd h (by show ¬ (5 : Int) = 3; decide), fun _ => c⟩
    · exact bad _ _
  split
  · unfold brkA
    split
    · exact one _ _ _
    · exact bad _ _
  split
  · exact one _ _ _
  split
  · unfold escA
    split
    · exact bad _ _
    split
    · exact one _ _ _
    · exact bad _ _
  split
  · exact bad _ _
  · exact one _ _ _
theorem word_facts {s : ByteArray} {a : Nat} {w : Wd} (h : a < s.size) (hw : nextW s a = ⟨w, 0, 0⟩) :
    (1 ≤ w.kind ∧ w.kind ≤ 5) ∧ (w.kind = 2 → bt s a = 40) ∧ (w.kind = 3 → bt s a = 41) ∧ (w.kind = 5 → isCnt (bt s a) = true ∧ rightB w.n w.m = true) := by
  have hf := nextW_fit h
  rw [hw] at hf
  have hk : (1 ≤ w.kind ∧ w.kind ≤ 5) ∧ (w.kind = 5 → rightB w.n w.m = true) := by
    generalize hr : (⟨w, 0, 0⟩ : WAns) = r at hf
    cases hf with
    | ok k e' f y z hk g1 g2 hc hn hf => cases hr; exact ⟨hk, fun h => (right_iff y z).2 (hc h)⟩
    | short => cases hr
    | bad e' p hx g1 g2 => injection hr with h1 h2 h3; omega
  rw [nextW_in h] at hw
  have key := word_kind s a (bt s a)
  rw [hw] at key
  exact ⟨hk.1, key.1, key.2.1, fun h => ⟨key.2.2 h, hk.2 h⟩⟩
theorem bar_no {x : PS} {b : UInt8} (h : barF x b = 0) : (isCnt b = true → topP x ≠ 0) ∧ (b = 41 → x.lv.length ≠ 1) ∧ (b = 40 → x.groups ≠ 9) := by
  unfold barF at h
  refine ⟨fun hc ht => ?_, fun hc ht => ?_, fun hc ht => ?_⟩
  · rw [if_pos hc, if_pos ht] at h; exact absurd h (by decide)
  · subst hc
    rw [if_neg (by decide), if_pos (by decide), if_pos ht] at h; exact absurd h (by decide)
  · subst hc
    rw [if_neg (by decide), if_neg (by decide), if_pos (by decide), if_pos ht] at h; exact absurd h (by decide)
/-- What a word does. -/
inductive Took (x : PS) (w : Wd) : PS → Prop where
  | one (o : List Nd) (p r : Nat) (v : List (Nat × Nat)) (g : Nat) (hk : w.kind = 1) (hx : x = ⟨o, (p, r) :: v, g⟩) : Took x w ⟨o ++ [ndS w.set], (p + 1, r) :: v, g⟩
  | opn (o : List Nd) (v : List (Nat × Nat)) (g : Nat) (hk : w.kind = 2) (hx : x = ⟨o, v, g⟩) : Took x w ⟨o, (0, 0) :: v, g + 1⟩
  | shut (o : List Nd) (p r p' r' : Nat) (v : List (Nat × Nat)) (g : Nat) (hk : w.kind = 3) (hx : x = ⟨o, (p, r) :: (p', r') :: v, g⟩) : Took x w ⟨o ++ rowN p ++ rowsN (r + 1) ++ [ndG], (p' + 1, r') :: v, g⟩
  | bar (o : List Nd) (p r : Nat) (v : List (Nat × Nat)) (g : Nat) (hk : w.kind = 4) (hx : x = ⟨o, (p, r) :: v, g⟩) : Took x w ⟨o ++ rowN p, (0, r + 1) :: v, g⟩
  | rep (o : List Nd) (p r : Nat) (v : List (Nat × Nat)) (g : Nat) (hk : w.kind = 5) (hx : x = ⟨o, (p + 1, r) :: v, g⟩) : Took x w ⟨o ++ [ndR w.n w.m], (p + 1, r) :: v, g⟩
theorem took {s : ByteArray} {a : Nat} {x : PS} {w : Wd} (hne : x.lv ≠ []) (ha : a < s.size) (hb : barF x (bt s a) = 0) (hw : nextW s a = ⟨w, 0, 0⟩) : Took x w (takeF x w) := by
  obtain ⟨⟨k1, k5⟩, f2, f3, f5⟩ := word_facts ha hw
  obtain ⟨b1, b2, b3⟩ := bar_no hb
  obtain ⟨o, lv, g⟩ := x
  cases lv with
  | nil => exact absurd rfl hne
  | cons pr v =>
  obtain ⟨p, r⟩ := pr
  unfold takeF
  by_cases c1 : w.kind = 1
  · rw [if_pos (by simpa using c1)]; exact .one o p r v g c1 rfl
  rw [if_neg (by simpa using c1)]
  by_cases c2 : w.kind = 2
  · rw [if_pos (by simpa using c2)]; exact .opn o _ g c2 rfl
  rw [if_neg (by simpa using c2)]
  by_cases c3 : w.kind = 3
  · rw [if_pos (by simpa using c3)]
    have hl := b2 (f3 c3)
    cases v with
    | nil => exact absurd rfl hl
    | cons pr' v =>
      obtain ⟨p', r'⟩ := pr'
      exact .shut o p r p' r' v g c3 rfl
  rw [if_neg (by simpa using c3)]
  by_cases c4 : w.kind = 4
  · rw [if_pos (by simpa using c4)]; exact .bar o p r v g c4 rfl
  rw [if_neg (by simpa using c4)]
  have c5 : w.kind = 5 := by omega
  rw [if_pos (by simpa using c5)]
  have ht : p ≠ 0 := b1 (f5 c5).1
  obtain ⟨q, rfl⟩ : ∃ q, p = q + 1 := ⟨p - 1, by omega⟩
  exact .rep o q r v g c5 rfl
theorem rowN_le (p : Nat) : (rowN p).length ≤ 1 := by
  unfold rowN; split
  · exact Nat.le_refl 1
  · split
    · exact Nat.le_refl 1
    · exact Nat.zero_le 1
theorem rowsN_le (p : Nat) : (rowsN p).length ≤ 1 := by
  unfold rowsN; split
  · exact Nat.le_refl 1
  · exact Nat.zero_le 1
/-- How much was read of so many bytes. -/
structure Bnd (x : PS) (k : Nat) : Prop where
  out : x.out.length ≤ 3 * k
  lv : x.lv.length ≤ k + 1
  ne : x.lv ≠ []
  pr : ∀ y ∈ x.lv, y.1 ≤ k ∧ y.2 ≤ k
  gr : x.groups ≤ k
theorem bnd0 : Bnd ps0 0 := ⟨Nat.le_refl _, Nat.le_refl _, by simp [ps0], by simp [ps0], Nat.le_refl _⟩
theorem Bnd.more {x : PS} {k e : Nat} (h : Bnd x k) (he : k ≤ e) : Bnd x e := ⟨by have := h.out; omega, by have := h.lv; omega, h.ne, fun y hy => by have := h.pr y hy; omega, by have := h.gr; omega⟩
theorem Bnd.take {x y : PS} {k : Nat} {w : Wd} (h : Bnd x k) (ht : Took x w y) : Bnd y (k + 1) := by
  obtain ⟨h1, h2, h3, h4, h5⟩ := h
  cases ht with
  | one o p r v g hk hx =>
    subst hx
    have hp := h4 (p, r) (by simp)
    simp only [List.length_cons] at h1 h2 h5 hp
    refine ⟨by simp; omega, by simp; omega, by simp, fun y hy => ?_, by simp only; omega⟩
    rcases List.mem_cons.1 hy with rfl | hy
    · simp only; omega
    · have := h4 y (by simp [hy]); omega
  | opn o v g hk hx =>
    subst hx
    simp only at h1 h2 h5
    refine ⟨by simp only; omega, by simp; omega, by simp, fun y hy => ?_, by simp only; omega⟩
    rcases List.mem_cons.1 hy with rfl | hy
    · simp only; omega
    · have := h4 y hy; omega
  | shut o p r p' r' v g hk hx =>
    subst hx
    have hp := h4 (p', r') (by simp)
    have l1 := rowN_le p
    have l2 := rowsN_le (r + 1)
    simp only [List.length_cons] at h1 h2 h5 hp
    refine ⟨by simp; omega, by simp; omega, by simp, fun y hy => ?_, by simp only; omega⟩
    rcases List.mem_cons.1 hy with rfl | hy
    · simp only; omega
    · have := h4 y (by simp [hy]); omega
  | bar o p r v g hk hx =>
    subst hx
    have hp := h4 (p, r) (by simp)
    have l1 := rowN_le p
    simp only [List.length_cons] at h1 h2 h5 hp
    refine ⟨by simp; omega, by simp; omega, by simp, fun y hy => ?_, by simp only; omega⟩
    rcases List.mem_cons.1 hy with rfl | hy
    · simp only; omega
    · have := h4 y (by simp [hy]); omega
  | rep o p r v g hk hx =>
    subst hx
    simp only [List.length_cons] at h1 h2 h5
    refine ⟨by simp; omega, by simp; omega, by simp, fun y hy => ?_, by simp only; omega⟩
    have := h4 y hy; omega
end ParP
end Go.Proofs.YtfcgmgpcbenfpaaGreat
