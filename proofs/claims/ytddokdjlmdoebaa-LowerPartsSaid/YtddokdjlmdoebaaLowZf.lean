/- Plain facts on terms of trees: two trees in an Alt. No program is in sight. -/
import Derived.Test.YtddokdjlmdoebaaMLoD
import Derived.Test.YtddokdjlmdoebaaAstO
set_option linter.unusedVariables false
set_option linter.unusedSimpArgs false
namespace Go.Proofs.Ytddokdjlmdoebaa
open SetP AstP
namespace LowP
section
variable {α : Type} (f : Nat → Nd → List α → α)
theorem gF_more (l : List Nd) (i : Nat) (st rest : List α) (u : Int) (h : runF l st.length = some u) : gF f i l (st ++ rest) = gF f i l st ++ rest := by
  induction l generalizing st i with
  | nil => rfl
  | cons x l ih =>
    rw [runF] at h
    split at h
    · cases h
    · have hle : x.kids.toNat ≤ st.length := by omega
      rw [gF, gF, List.take_append_of_le_length hle, List.drop_append_of_le_length hle, ← List.cons_append]
      refine ih (i + 1) _ ?_
      rw [← h]; congr 1; simp; omega
theorem gF_at (hf : ∀ i j x K, f i x K = f j x K) (l : List Nd) (i j : Nat) (st : List α) : gF f i l st = gF f j l st := by
  induction l generalizing i j st with
  | nil => rfl
  | cons x l ih => rw [gF, gF, hf i j, ih (i + 1) (j + 1)]
variable [Inhabited α]
theorem val_last {L : List Nd} {x : Nd} : val f (L ++ [x]) L.length = f L.length x ((gF f 0 L []).take x.kids.toNat).reverse := by
  unfold val
  rw [gS_succ f (by simp), last_get]
  have : gS f (L ++ [x]) L.length = gF f 0 L [] := by unfold gS; rw [List.take_left]
  rw [this]; rfl
theorem two_stack (hf : ∀ i j x K, f i x K = f j x K) {L M : List Nd} (hL : formedF L = true) (hM : formedF M = true) : gF f 0 (L ++ M) [] = [val f M (M.length - 1), val f L (L.length - 1)] := by
  rw [gF_append, gF_root f hL, gF_at f hf M (0 + L.length) 0]
  have hm : runF M 0 = some 1 := by unfold formedF at hM; simpa using hM
  have := gF_more f M 0 [] [val f L (L.length - 1)] 1 hm
  rw [List.nil_append] at this
  rw [this, gF_root f hM]; rfl
theorem val_pre {L X : List Nd} {i : Nat} (h : i < L.length) : val f (L ++ X) i = val f L i := by
  unfold val gS
  rw [List.take_append_of_le_length (by omega)]
end
theorem null_pre {L X : List Nd} {i : Nat} (h : i < L.length) : nullAt (L ++ X) i = nullAt L i := val_pre nullN h
theorem null_two {L M : List Nd} (hL : formedF L = true) (hM : formedF M = true) : nullAt (L ++ M ++ [ndAlt]) (L.length + M.length) = (nullAt L (L.length - 1) || nullAt M (M.length - 1)) := by
  have h := val_last nullN (L := L ++ M) (x := ndAlt)
  rw [two_stack nullN (fun _ _ _ _ => rfl) hL hM, List.length_append] at h
  refine h.trans ?_
  show ([val nullN L (L.length - 1), val nullN M (M.length - 1)] : List Bool).any id = _
  simp [nullAt]
theorem size_two {L M : List Nd} (hL : formedF L = true) (hM : formedF M = true) : szAt (L ++ M ++ [ndAlt]) (L.length + M.length) =
    (capI ((sumS [szAt L (L.length - 1), szAt M (M.length - 1)]).1 + 1), capI (sumS [szAt L (L.length - 1), szAt M (M.length - 1)]).2) := by
  have h := val_last sizeN (L := L ++ M) (x := ndAlt)
  rw [two_stack sizeN (fun _ _ _ _ => rfl) hL hM, List.length_append] at h
  unfold szAt
  rw [h]
  rfl
theorem capI_of {x : Int} (h : x ≤ 1000000) : capI x = x := by unfold capI; rw [if_pos h]
/-- What is told of how great two trees in an Alt are. -/
theorem size_two_at {L M : List Nd} (hL : rightF L = true) (hM : rightF M = true) (hA : rightF (L ++ M ++ [ndAlt]) = true) (a b c d n k : Int) (h1 : sizeF L = (a, b)) (h2 : sizeF M = (c, d)) (h3 : sizeF (L ++ M ++ [ndAlt]) = (n, k)) :
    (a + c + 1 < 1000000 → n = a + c + 1) ∧ (b + d < 1000000 → k = b + d) ∧ 0 ≤ a ∧ a ≤ 1000000 ∧ 0 ≤ b ∧ b ≤ 1000000 ∧ 0 ≤ c ∧ c ≤ 1000000 ∧ 0 ≤ d ∧ d ≤ 1000000 ∧ 0 ≤ n ∧ n ≤ 1000000 ∧ 0 ≤ k ∧ k ≤ 1000000 := by
  obtain ⟨fL, okL, _⟩ := right_parts hL
  obtain ⟨fM, okM, _⟩ := right_parts hM
  obtain ⟨fA, okA, _⟩ := right_parts hA
  have pL := (root_size fL).1
  have pM := (root_size fM).1
  have e1 : szAt L (L.length - 1) = (a, b) := by rw [← h1]; unfold sizeF; rw [if_pos hL]
  have e2 : szAt M (M.length - 1) = (c, d) := by rw [← h2]; unfold sizeF; rw [if_pos hM]
  have hl : (L ++ M ++ [ndAlt]).length - 1 = L.length + M.length := by simp
  have e3 : szAt (L ++ M ++ [ndAlt]) (L.length + M.length) = (n, k) := by rw [← h3]; unfold sizeF; rw [if_pos hA, hl]
  have b1 := szAt_bd fL okL (L.length - 1) (by omega)
  have b2 := szAt_bd fM okM (M.length - 1) (by omega)
  have b3 := szAt_bd fA okA (L.length + M.length) (by simp)
  rw [e1] at b1
  rw [e2] at b2
  rw [e3] at b3
  have e4 := size_two fL fM
  rw [e3, e1, e2] at e4
  unfold Bd at b1 b2 b3
  simp only at b1 b2 b3
  have e5 : sumS [(a, b), (c, d)] = (capI (capI (0 + a) + c), capI (capI (0 + b) + d)) := rfl
  rw [e5, capI_of (by omega : (0 : Int) + a ≤ 1000000), capI_of (by omega : (0 : Int) + b ≤ 1000000)] at e4
  have e6 : n = capI (capI (0 + a + c) + 1) := congrArg (fun p : Int × Int => p.1) e4
  have e7 : k = capI (capI (0 + b + d)) := congrArg (fun p : Int × Int => p.2) e4
  refine ⟨fun h => ?_, fun h => ?_, by omega, by omega, by omega, by omega, by omega, by omega, by omega, by omega, by omega, by omega, by omega, by omega⟩
  · rw [e6, capI_of (by omega : (0 : Int) + a + c ≤ 1000000), capI_of (by omega)]; omega
  · rw [e7, capI_of (by omega : (0 : Int) + b + d ≤ 1000000), capI_of (by omega)]; omega
end LowP
end Go.Proofs.Ytddokdjlmdoebaa
