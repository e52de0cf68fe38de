/- Plain facts on lists of nodes: whatever is told of a node by what is told of its kids. No program is in sight. -/
import Derived.Test.YtddokdjlmdoebaaMAsa
set_option linter.unusedVariables false
set_option linter.unusedSimpArgs false
namespace Go.Proofs.Ytddokdjlmdoebaa
open SetP
namespace AstP
section
variable {α : Type} (f : Nat → Nd → List α → α)
/-- What is told of the things that stand behind a list, the last one first; i is the list's first node. -/
def gF : Nat → List Nd → List α → List α
  | _, [], st => st
  | i, x :: l, st => gF (i + 1) l (f i x (st.take x.kids.toNat).reverse :: st.drop x.kids.toNat)
theorem gF_append (i : Nat) (l m : List Nd) (st : List α) : gF f i (l ++ m) st = gF f (i + l.length) m (gF f i l st) := by
  induction l generalizing i st with
  | nil => rfl
  | cons x l ih => rw [List.cons_append, gF, ih, gF, List.length_cons, show i + 1 + l.length = i + (l.length + 1) by omega]
def gS (L : List Nd) (k : Nat) : List α := gF f 0 (L.take k) []
theorem gS_succ {L : List Nd} {k : Nat} (hk : k < L.length) : gS f L (k + 1) = f k (L.getD k ndEmpty) ((gS f L k).take (L.getD k ndEmpty).kids.toNat).reverse :: (gS f L k).drop (L.getD k ndEmpty).kids.toNat := by
  unfold gS
  rw [take_more hk, gF_append, List.length_take, Nat.min_eq_left (by omega), Nat.zero_add]; rfl
theorem gS_length {L : List Nd} {k : Nat} (hk : k ≤ L.length) : (gS f L k).length = (St L k).length := by
  induction k with
  | zero => simp [gS, gF, St, stF]
  | succ k ih =>
    rw [gS_succ f (by omega), St_succ (by omega)]
    simp [ih (by omega)]
variable [Inhabited α]
/-- What is told of node i. -/
def val (L : List Nd) (i : Nat) : α := (gS f L (i + 1)).headD default
theorem gS_get {L : List Nd} {k : Nat} (hk : k ≤ L.length) : ∀ j, j < (St L k).length → (gS f L k)[j]? = some (val f L (kidAt L k j)) := by
  induction k with
  | zero => intro j hj; simp [St, stF] at hj
  | succ k ih =>
    intro j hj
    rw [gS_succ f (by omega)]
    rw [St_succ (by omega)] at hj
    cases j with
    | zero =>
      have e : kidAt L (k + 1) 0 = k := by unfold kidAt; simp
      rw [e]
      unfold val
      rw [gS_succ f (by omega)]; rfl
    | succ j =>
      rw [List.length_cons, List.length_drop] at hj
      rw [List.getElem?_cons_succ, List.getElem?_drop, ih (by omega) _ (by omega)]
      have e : kidAt L (k + 1) (j + 1) = kidAt L k ((L.getD k ndEmpty).kids.toNat + j) := by
        unfold kidAt
        rw [St_succ (by omega), List.take_succ_cons, List.sum_cons, List.take_add, List.sum_append]
        unfold sizeAt
        omega
      rw [e]
theorem kids_stack {L : List Nd} {k : Nat} (hF : formedF L = true) (hk : k < L.length) : ((gS f L k).take (L.getD k ndEmpty).kids.toNat).reverse = (kidsF L (k : Int)).map (val f L) := by
  rw [kidsF_at hF hk, List.map_reverse]
  congr 1
  have hat := formed_at hF hk
  have hl := gS_length f (L := L) (k := k) (by omega)
  apply List.ext_getElem?
  intro j
  by_cases hj : j < (L.getD k ndEmpty).kids.toNat
  · rw [List.getElem?_take_of_lt hj, gS_get f (by omega) j (by omega)]
    unfold kidsRev
    rw [List.getElem?_map, List.getElem?_map, List.getElem?_range hj]; rfl
  · rw [List.getElem?_eq_none (by rw [List.length_take]; omega), List.getElem?_eq_none (by rw [List.length_map, kidsRev_length]; omega)]
theorem val_kids {L : List Nd} {k : Nat} (hF : formedF L = true) (hk : k < L.length) : val f L k = f k (L.getD k ndEmpty) ((kidsF L (k : Int)).map (val f L)) := by
  rw [← kids_stack f hF hk]
  unfold val
  rw [gS_succ f hk]; rfl
/-- The whole's. -/
theorem gF_root {L : List Nd} (hF : formedF L = true) : gF f 0 L [] = [val f L (L.length - 1)] := by
  have h1 : runF L 0 = some 1 := by unfold formedF at hF; simpa using hF
  have h0 : 0 < L.length := by
    cases L with
    | nil => simp [runF] at h1
    | cons x l => simp
  have hst := runF_st L [] 1 h1
  have e : St L L.length = stF L [] := by unfold St; rw [List.take_length]
  have hl := gS_length f (L := L) (k := L.length) (Nat.le_refl _)
  have eg : gS f L L.length = gF f 0 L [] := by unfold gS; rw [List.take_length]
  have h2 := gS_get f (L := L) (k := L.length) (Nat.le_refl _) 0 (by rw [e]; omega)
  have e0 : kidAt L L.length 0 = L.length - 1 := by unfold kidAt; simp
  rw [e0] at h2
  rw [e] at hl
  rw [eg] at h2 hl
  have : (gF f 0 L []).length = 1 := by omega
  obtain ⟨a, ha⟩ := List.length_eq_one_iff.1 this
  rw [ha] at h2 ⊢
  simp at h2
  rw [h2]
end
end AstP
end Go.Proofs.Ytddokdjlmdoebaa
