/- Plain facts on lists of nodes: a tree in a Group, and two trees in an Alt. No program is in sight. -/
import Derived.Test.YtddokdjlmdoebaaMAsi
import Derived.Test.YtddokdjlmdoebaaMAsk
import Derived.Test.YtddokdjlmdoebaaAstN
set_option linter.unusedVariables false
set_option linter.unusedSimpArgs false
namespace Go.Proofs.Ytddokdjlmdoebaa
open SetP
namespace AstP
section prefix_
variable {L X : List Nd} {k : Nat}
theorem pre_get (hk : k < L.length) : (L ++ X).getD k ndEmpty = L.getD k ndEmpty := by
  rw [List.getD_eq_getElem?_getD, List.getElem?_append_left hk, ← List.getD_eq_getElem?_getD]
theorem pre_St (hk : k ≤ L.length) : St (L ++ X) k = St L k := by unfold St; rw [List.take_append_of_le_length hk]
theorem pre_size (hk : k < L.length) : sizeAt (L ++ X) k = sizeAt L k := by unfold sizeAt; rw [pre_St (by omega), pre_get hk]
theorem pre_kids (hF : formedF L = true) (hG : formedF (L ++ X) = true) (hk : k < L.length) : kidsF (L ++ X) (k : Int) = kidsF L (k : Int) := by
  rw [kidsF_at hF hk, kidsF_at hG (by rw [List.length_append]; omega), pre_get hk]
  have e : kidAt (L ++ X) k = kidAt L k := by funext j; unfold kidAt; rw [pre_St (by omega)]
  unfold kidsRev
  rw [e]
theorem pre_groups (hk : k ≤ L.length) : groupsF (L ++ X) k = groupsF L k := by
  induction k with
  | zero => rfl
  | succ k ih => rw [groupsF, groupsF, ih (by omega), pre_get (by omega)]
end prefix_
theorem runF_of {L : List Nd} (h : formedF L = true) : runF L 0 = some 1 := by unfold formedF at h; simpa using h
theorem of_runF {L : List Nd} (h : runF L 0 = some 1) : formedF L = true := by unfold formedF; rw [h]; rfl
theorem runF_more (l : List Nd) (t s u : Int) (hs : 0 ≤ s) (h : runF l t = some u) : runF l (t + s) = some (u + s) := by
  induction l generalizing t with
  | nil => rw [runF] at h ⊢; cases h; rfl
  | cons x l ih =>
    rw [runF] at h ⊢
    split at h
    · cases h
    · rw [if_neg (by omega)]
      have := ih _ h
      rw [← this]; congr 1; omega
theorem stF_more (l : List Nd) (st rest : List Nat) (u : Int) (h : runF l st.length = some u) : stF l (st ++ rest) = stF l st ++ rest := by
  induction l generalizing st with
  | nil => rfl
  | cons x l ih =>
    rw [runF] at h
    split at h
    · cases h
    · have hle : x.kids.toNat ≤ st.length := by omega
      rw [stF, stF, List.take_append_of_le_length hle, List.drop_append_of_le_length hle, ← List.cons_append]
      refine ih _ ?_
      rw [← h]; congr 1; simp; omega
def ndGroup : Nd := ⟨3, 1, 0, 0, fun _ => false⟩
def ndAlt : Nd := ⟨6, 2, 0, 0, fun _ => false⟩
theorem last_get (L : List Nd) (x : Nd) : (L ++ [x]).getD L.length ndEmpty = x := by
  rw [List.getD_eq_getElem?_getD, List.getElem?_append_right (Nat.le_refl _)]; simp
theorem formed_group {L : List Nd} (h : formedF L = true) : formedF (L ++ [ndGroup]) = true := by
  apply of_runF
  rw [runF_append, runF_of h]; rfl
theorem formed_two {L M : List Nd} (hL : formedF L = true) (hM : formedF M = true) : formedF (L ++ M ++ [ndAlt]) = true := by
  apply of_runF
  have := runF_more M 0 1 1 (by omega) (runF_of hM)
  rw [runF_append, runF_append, runF_of hL]
  show (runF M 1).bind (fun u => runF [ndAlt] u) = some 1
  rw [show (1 : Int) = 0 + 1 by rfl, this]; rfl
theorem St_root {L : List Nd} (h : formedF L = true) : St L L.length = [L.length] := by
  have h1 := runF_st L [] 1 (by have := runF_of h; simpa using this)
  have e : St L L.length = stF L [] := by unfold St; rw [List.take_length]
  rw [← e] at h1
  have h2 := St_sum (L := L) (k := L.length) (Nat.le_refl _)
  match hs : St L L.length, h1 with
  | [a], _ => rw [hs] at h2; simp at h2; rw [h2]
  | [], h1 => simp at h1
  | a :: b :: l, h1 => simp at h1; omega
theorem right_parts {L : List Nd} (h : rightF L = true) : formedF L = true ∧ (∀ j, j < L.length → nodeOk L j = true) ∧ groupsF L L.length ≤ 9 := by
  unfold rightF at h
  simp only [Bool.and_eq_true, decide_eq_true_eq, List.all_eq_true, List.mem_range] at h
  exact ⟨h.1, h.2.1, h.2.2⟩
theorem right_split {P : List Nd} {n : Nat} (hn : P.length = n + 1) (hF : formedF P = true) (h : ∀ j, j < n → nodeOk P j = true) : rightF P = (nodeOk P n && decide (groupsF P (n + 1) ≤ 9)) := by
  unfold rightF
  rw [hF, hn, List.range_succ, List.all_append]
  have : (List.range n).all (nodeOk P) = true := by rw [List.all_eq_true]; intro j hj; exact h j (by simpa using hj)
  rw [this]; simp
theorem pre_ok {L X : List Nd} {k : Nat} (hF : formedF L = true) (hG : formedF (L ++ X) = true) (hk : k < L.length) : nodeOk (L ++ X) k = nodeOk L k := by
  unfold nodeOk
  rw [pre_get hk, pre_kids hF hG hk]
  congr 1
  rw [Bool.eq_iff_iff, List.all_eq_true, List.all_eq_true]
  have e : ∀ j ∈ kidsF L (k : Int), kindAt (L ++ X) j = kindAt L j := fun j hj => by
    unfold kindAt
    rw [pre_get (by have := kidsF_lt hF hk hj; omega)]
  have e2 : kindAt (L ++ X) k = kindAt L k := by unfold kindAt; rw [pre_get hk]
  constructor
  · intro h j hj; have := h j hj; rwa [e j hj, e2] at this
  · intro h j hj; have := h j hj; rwa [e j hj, e2]
theorem right_group {L : List Nd} (h : rightF L = true) : rightF (L ++ [ndGroup]) = decide (groupsF L L.length < 9) := by
  obtain ⟨hF, hok, _⟩ := right_parts h
  have hG := formed_group hF
  rw [right_split (n := L.length) (by simp) hG fun j hj => by rw [pre_ok hF hG hj]; exact hok j hj]
  have hroot : nodeOk (L ++ [ndGroup]) L.length = true := by
    unfold nodeOk kindAt
    rw [last_get]
    have h1 : aloneB ndGroup = true := by decide +kernel
    rw [h1, Bool.true_and, List.all_eq_true]
    intro j _
    rfl
  rw [hroot, Bool.true_and]
  have hg : groupsF (L ++ [ndGroup]) (L.length + 1) = groupsF L L.length + 1 := by
    rw [groupsF, last_get, pre_groups (Nat.le_refl _)]; rfl
  rw [hg, Bool.eq_iff_iff]; simp; omega
section two
variable {L M Y : List Nd} {k : Nat}
theorem mid_get (hk : k < M.length) : (L ++ (M ++ Y)).getD (L.length + k) ndEmpty = M.getD k ndEmpty := by
  rw [List.getD_eq_getElem?_getD, List.getElem?_append_right (by omega), Nat.add_sub_cancel_left, List.getElem?_append_left hk, ← List.getD_eq_getElem?_getD]
theorem run_take (hM : formedF M = true) (k : Nat) : ∃ u, runF (M.take k) 0 = some u := by
  have h := runF_of hM
  rw [← List.take_append_drop k M, runF_append] at h
  cases hr : runF (M.take k) 0 with
  | none => rw [hr] at h; cases h
  | some u => exact ⟨u, rfl⟩
theorem mid_St (hL : formedF L = true) (hM : formedF M = true) (hk : k ≤ M.length) : St (L ++ (M ++ Y)) (L.length + k) = St M k ++ [L.length] := by
  have e : (L ++ (M ++ Y)).take (L.length + k) = L ++ M.take k := by
    rw [List.take_append, List.take_of_length_le (by omega), Nat.add_sub_cancel_left, List.take_append_of_le_length hk]
  have eL : stF L [] = [L.length] := by have := St_root hL; unfold St at this; rwa [List.take_length] at this
  unfold St
  rw [e, stF_append, eL]
  obtain ⟨u, hu⟩ := run_take hM k
  have := stF_more (M.take k) [] [L.length] u (by simpa using hu)
  simpa using this
theorem mid_kids (hL : formedF L = true) (hM : formedF M = true) (hG : formedF (L ++ (M ++ Y)) = true) (hk : k < M.length) : kidsF (L ++ (M ++ Y)) ((L.length + k : Nat) : Int) = (kidsF M (k : Int)).map (L.length + ·) := by
  rw [kidsF_at hM hk, kidsF_at hG (by simp; omega), mid_get hk, List.map_reverse]
  congr 1
  unfold kidsRev
  rw [List.map_map]
  apply List.map_congr_left
  intro j hj
  have hat := formed_at hM hk
  have hj' : j < (St M k).length := by have := List.mem_range.1 hj; omega
  have := kid_at (L := M) hk hj'
  unfold kidAt
  simp only [Function.comp]
  rw [mid_St hL hM (by omega), List.take_append_of_le_length (by omega)]
  omega
theorem mid_ok (hL : formedF L = true) (hM : formedF M = true) (hG : formedF (L ++ (M ++ Y)) = true) (hk : k < M.length) : nodeOk (L ++ (M ++ Y)) (L.length + k) = nodeOk M k := by
  unfold nodeOk
  rw [mid_get hk, mid_kids hL hM hG hk]
  congr 1
  rw [List.all_map]
  have e2 : kindAt (L ++ (M ++ Y)) (L.length + k) = kindAt M k := by unfold kindAt; rw [mid_get hk]
  rw [Bool.eq_iff_iff, List.all_eq_true, List.all_eq_true]
  have e : ∀ j ∈ kidsF M (k : Int), kindAt (L ++ (M ++ Y)) (L.length + j) = kindAt M j := fun j hj => by
    unfold kindAt
    rw [mid_get (by have := kidsF_lt hM hk hj; omega)]
  constructor
  · intro h j hj; have := h j hj; simp only [Function.comp] at this; rwa [e j hj, e2] at this
  · intro h j hj; have := h j hj; simp only [Function.comp]; rwa [e j hj, e2]
theorem mid_groups (hk : k ≤ M.length) : groupsF (L ++ (M ++ Y)) (L.length + k) = groupsF L L.length + groupsF M k := by
  induction k with
  | zero => exact pre_groups (Nat.le_refl _)
  | succ k ih => rw [← Nat.add_assoc, groupsF, groupsF, ih (by omega), mid_get (by omega)]; split <;> omega
end two
theorem right_two {L M : List Nd} (hL : rightF L = true) (hM : rightF M = true) :
    rightF (L ++ M ++ [ndAlt]) = ((kindAt L (L.length - 1) != 6 && kindAt M (M.length - 1) != 6) && decide (groupsF L L.length + groupsF M M.length ≤ 9)) := by
  obtain ⟨fL, okL, _⟩ := right_parts hL
  obtain ⟨fM, okM, _⟩ := right_parts hM
  have hG := formed_two fL fM
  rw [List.append_assoc] at hG ⊢
  obtain ⟨pL, _⟩ := root_size fL
  obtain ⟨pM, _⟩ := root_size fM
  rw [right_split (n := L.length + M.length) (by simp; omega) hG fun j hj => by
    by_cases h : j < L.length
    · rw [pre_ok fL hG h]; exact okL j h
    · obtain ⟨k, rfl⟩ : ∃ k, j = L.length + k := ⟨j - L.length, by omega⟩
      rw [mid_ok fL fM hG (by omega)]; exact okM k (by omega)]
  have hlast : (L ++ (M ++ [ndAlt])).getD (L.length + M.length) ndEmpty = ndAlt := by
    rw [← List.append_assoc, ← List.length_append, last_get]
  have hg : groupsF (L ++ (M ++ [ndAlt])) (L.length + M.length + 1) = groupsF L L.length + groupsF M M.length := by
    rw [groupsF, hlast, mid_groups (Nat.le_refl _)]; rfl
  have hk : kidsF (L ++ (M ++ [ndAlt])) ((L.length + M.length : Nat) : Int) = [L.length - 1, L.length + (M.length - 1)] := by
    rw [kidsF_at hG (by simp), hlast]
    have h2 : ndAlt.kids.toNat = 2 := rfl
    rw [h2]
    have hs := mid_St (L := L) (M := M) (Y := [ndAlt]) fL fM (Nat.le_refl _)
    rw [St_root fM] at hs
    unfold kidsRev
    have hr : List.range 2 = [0, 1] := rfl
    rw [hr]
    show [kidAt _ _ 1, kidAt _ _ 0] = _
    unfold kidAt
    rw [hs]
    simp
    omega
  have hroot : nodeOk (L ++ (M ++ [ndAlt])) (L.length + M.length) = (kindAt L (L.length - 1) != 6 && kindAt M (M.length - 1) != 6) := by
    unfold nodeOk
    rw [hk, hlast]
    have h1 : aloneB ndAlt = true := by decide +kernel
    have k0 : kindAt (L ++ (M ++ [ndAlt])) (L.length + M.length) = 6 := by unfold kindAt; rw [hlast]; rfl
    have k1 : kindAt (L ++ (M ++ [ndAlt])) (L.length - 1) = kindAt L (L.length - 1) := by unfold kindAt; rw [pre_get (by omega)]
    have k2 : kindAt (L ++ (M ++ [ndAlt])) (L.length + (M.length - 1)) = kindAt M (M.length - 1) := by unfold kindAt; rw [mid_get (by omega)]
    rw [h1, Bool.true_and, List.all_cons, List.all_cons, List.all_nil, Bool.and_true, k0, k1, k2]
    rfl
  rw [hroot, hg]

/-- The groups' numbers in a Group. -/
theorem numbers_group {L : List Nd} (hF : formedF L = true) : (∀ j, j < L.length → grp L j = true → numAt (L ++ [ndGroup]) j = numAt L j + 1) ∧ numAt (L ++ [ndGroup]) L.length = 1 := by
  have hG := formed_group hF
  have hroot := (root_size hG).2
  have hlen : (L ++ [ndGroup]).length = L.length + 1 := by simp
  rw [hlen, Nat.add_sub_cancel] at hroot
  have hf0 : fst (L ++ [ndGroup]) L.length = 0 := by unfold fst; rw [hroot]; omega
  have hgl : grp (L ++ [ndGroup]) L.length = true := by unfold grp; rw [last_get]; rfl
  have hfst : ∀ j, j < L.length → fst (L ++ [ndGroup]) j = fst L j := fun j hj => by unfold fst; rw [pre_size hj]
  have hgrp : ∀ j, j < L.length → grp (L ++ [ndGroup]) j = grp L j := fun j hj => by unfold grp; rw [pre_get hj]
  have hprec : ∀ j k, j < L.length → k < L.length → prec (L ++ [ndGroup]) j k = prec L j k := fun j k hj hk => by unfold prec; rw [hfst j hj, hfst k hk]
  constructor
  · intro j hj hg
    unfold numAt
    rw [hlen]
    rw [hgrp j hj, hg, if_pos rfl, if_pos rfl]
    unfold rankIn
    rw [cnt, Nat.zero_add, hgl]
    have hp : prec (L ++ [ndGroup]) j L.length = true := by
      rw [prec_iff, hf0]
      rcases Nat.eq_zero_or_pos (fst (L ++ [ndGroup]) j) with h | h
      · right; omega
      · left; exact h
    rw [hp]
    congr 1
    exact cnt_congr fun k _ hk => by rw [hgrp k (by omega), hprec j k hj (by omega)]
  · unfold numAt
    rw [hgl, if_pos rfl, hlen]
    unfold rankIn
    rw [cnt, Nat.zero_add, hgl, prec_self]
    have : cnt (fun k => grp (L ++ [ndGroup]) k && prec (L ++ [ndGroup]) L.length k) 0 L.length = 0 := cnt_none fun k _ hk => by
      have hp : prec (L ++ [ndGroup]) L.length k = false := by
        rw [Bool.eq_false_iff]
        intro h
        have := (prec_iff _ _ _).1 h
        rw [hf0] at this; omega
      rw [hp, Bool.and_false]
    rw [this]; rfl
end AstP
end Go.Proofs.Ytddokdjlmdoebaa
