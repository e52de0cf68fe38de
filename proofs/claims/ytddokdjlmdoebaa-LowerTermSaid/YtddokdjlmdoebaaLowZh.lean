/- Plain facts on terms of trees: their size, and the numbers of their groups. No program is in sight. -/
import Derived.Test.YtddokdjlmdoebaaMLoG
set_option linter.unusedVariables false
set_option linter.unusedSimpArgs false
namespace Go.Proofs.Ytddokdjlmdoebaa
open SetP AstP
namespace LowP
/-- What is made of a tree within the limits: a term, of the size that is told, whose groups' numbers are no greater than there are groups. -/
theorem good_term3 {L : List Nd} (hR : rightF L = true) (h1 : (sizeF L).1 ≤ 400) (h2 : (sizeF L).2 ≤ 64) (X : List Tm) (hX : termAt L (L.length - 1) = X) :
    ∃ lo, GoodT X lo ∧ Pre X lo ∧ (X.length : Int) = (sizeF L).1 ∧ ((leavesN X X.length : Nat) : Int) = (sizeF L).2 ∧ ∀ y ∈ X, y.kind = 7 → y.n ≤ (groupsF L L.length : Nat) := by
  subst hX
  obtain ⟨lo, hG, hP⟩ := good_term hR h1 h2
  obtain ⟨hF, hok, hg⟩ := right_parts hR
  have hpos := (root_size hF).1
  have hg2 := hg
  rw [groups_cnt] at hg
  obtain ⟨_, hn⟩ := term_blk hF hok hg (L.length - 1) (by omega)
  rw [sizeF_right hR] at h1 h2 ⊢
  have hl := termAt_length hF hok (L.length - 1) (by omega) (by omega)
  have hv := termAt_leaves hF hok (L.length - 1) (by omega) (by omega)
  refine ⟨lo, hG, hP, hl, ?_, fun y hy h7 => ?_⟩
  · unfold leavesN
    rw [List.take_length]
    exact hv
  · obtain ⟨g, _, g2, g3, g4⟩ := hn y hy h7
    have := (num_bd (L := L) (i := g) (by omega) g3).2
    rw [g4, groups_cnt]; omega
/-- Has a list of nodes a Group of a number? -/
def hasG (l : List Tm) (n : Nat) : Bool := l.any fun y => y.kind == 7 && y.n == (n : Int)
/-- The groups' numbers of a list of nodes. -/
def groupsT (l : List Tm) : List Nat := (List.range 10).filter (hasG l)
/-- The greatest one. -/
def topT (l : List Tm) : Nat := (groupsT l).getLastD 0
theorem hasG_nil (n : Nat) : hasG [] n = false := rfl
theorem hasG_snoc (l : List Tm) (x : Tm) (n : Nat) : hasG (l ++ [x]) n = (hasG l n || (x.kind == 7 && x.n == (n : Int))) := by
  unfold hasG; rw [List.any_append]; simp
theorem groupsT_lt {l : List Tm} {n : Nat} (h : n ∈ groupsT l) : n < 10 ∧ hasG l n = true := by
  unfold groupsT at h
  rw [List.mem_filter] at h
  exact ⟨List.mem_range.1 h.1, h.2⟩
theorem getLastD_mem (t : List Nat) (a : Nat) : t.getLastD a ∈ a :: t := by
  induction t generalizing a with
  | nil => simp
  | cons b t ih => rw [List.getLastD_cons]; exact List.mem_cons_of_mem _ (ih b)
theorem topT_mem {l : List Tm} (h : groupsT l ≠ []) : topT l ∈ groupsT l := by
  unfold topT
  cases hL : groupsT l with
  | nil => exact absurd hL h
  | cons a t => rw [List.getLastD_cons]; exact getLastD_mem t a
theorem topT_le (l : List Tm) (G : Nat) (h : ∀ y ∈ l, y.kind = 7 → y.n ≤ (G : Int)) : topT l ≤ G := by
  by_cases he : groupsT l = []
  · unfold topT; rw [he]; simp
  · obtain ⟨_, hh⟩ := groupsT_lt (topT_mem he)
    unfold hasG at hh
    rw [List.any_eq_true] at hh
    obtain ⟨y, hy, hk⟩ := hh
    rw [Bool.and_eq_true, beq_iff_eq, beq_iff_eq] at hk
    have := h y hy hk.1
    omega
theorem topT_9 (l : List Tm) : topT l ≤ 9 := by
  by_cases he : groupsT l = []
  · unfold topT; rw [he]; simp
  · have := (groupsT_lt (topT_mem he)).1; omega
end LowP
end Go.Proofs.Ytddokdjlmdoebaa
