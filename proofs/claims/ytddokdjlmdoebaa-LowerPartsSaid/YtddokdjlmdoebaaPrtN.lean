/- Plain facts on nodes of trees: what a node is, by its kind. No program is in sight. -/
import Derived.Test.YtddokdjlmdoebaaParP
import Derived.Test.YtddokdjlmdoebaaAstO
set_option linter.unusedVariables false
set_option linter.unusedSimpArgs false
namespace Go.Proofs.Ytddokdjlmdoebaa
open Go.RowKit SetP BrkP LexP AstP
namespace ParP
/-- What is told of a node. -/
def keyN (x : Nd) : Int × Int × Int × Int × List Bool := (x.kind, x.kids, x.n, x.m, (List.range 256).map x.set)
def keys (l : List Nd) := l.map keyN
theorem keys_append (l m : List Nd) : keys (l ++ m) = keys l ++ keys m := by unfold keys; rw [List.map_append]
theorem key_set {f g : Nat → Bool} (h : same f g = true) : (List.range 256).map f = (List.range 256).map g :=
  List.map_congr_left fun x hx => same_iff.1 h x (List.mem_range.1 hx)
theorem set_key {f g : Nat → Bool} (h : (List.range 256).map f = (List.range 256).map g) : same f g = true :=
  same_iff.2 fun x hx => by
    have := congrArg (fun l => l[x]?) h
    simpa [hx] using this
theorem emptyB_key {x : Nd} (h : emptyB x = true) : (List.range 256).map x.set = (List.range 256).map noSet := key_set h
theorem bare_parts {x : Nd} (h : bareB x = true) : emptyB x = true ∧ x.n = 0 ∧ x.m = 0 := by
  unfold bareB at h; simp only [Bool.and_eq_true, beq_iff_eq] at h; exact ⟨h.1, h.2.1, h.2.2⟩
/-- What a node is, by its kind. -/
inductive NodeIs (x : Nd) : Prop where
  | empty (hk : x.kind = 1) (hn : x.kids = 0) (h : keyN x = keyN ndE)
  | set (hk : x.kind = 2) (hn : x.kids = 0) (h : keyN x = keyN (ndS x.set))
  | group (hk : x.kind = 3) (hn : x.kids = 1) (h : keyN x = keyN ndG)
  | rep (hk : x.kind = 4) (hn : x.kids = 1) (hr : rightB x.n x.m = true) (h : keyN x = keyN (ndR x.n x.m))
  | cat (hk : x.kind = 5) (n : Nat) (hn : x.kids = n) (h2 : 2 ≤ n) (h : keyN x = keyN (ndC n))
  | alt (hk : x.kind = 6) (n : Nat) (hn : x.kids = n) (h2 : 2 ≤ n) (h : keyN x = keyN (ndA n))
theorem nodeIs {x : Nd} (h : aloneB x = true) : NodeIs x := by
  unfold aloneB at h
  split at h
  · rename_i hk
    simp only [Bool.and_eq_true, beq_iff_eq] at h hk
    obtain ⟨b1, b2, b3⟩ := bare_parts h.2
    exact .empty hk h.1 (by unfold keyN; rw [hk, h.1, b2, b3, emptyB_key b1]; rfl)
  split at h
  · rename_i hk
    simp only [Bool.and_eq_true, beq_iff_eq] at h hk
    exact .set hk h.1 (by unfold keyN; rw [hk, h.1, h.2.1, h.2.2]; rfl)
  split at h
  · rename_i hk
    simp only [Bool.and_eq_true, beq_iff_eq] at h hk
    obtain ⟨b1, b2, b3⟩ := bare_parts h.2
    exact .group hk h.1 (by unfold keyN; rw [hk, h.1, b2, b3, emptyB_key b1]; rfl)
  split at h
  · rename_i hk
    simp only [Bool.and_eq_true, beq_iff_eq] at h hk
    exact .rep hk h.1 h.2.2 (by unfold keyN; rw [hk, h.1, emptyB_key h.2.1]; rfl)
  split at h
  · rename_i hk
    simp only [Bool.and_eq_true, Bool.or_eq_true, beq_iff_eq, decide_eq_true_eq] at h hk
    obtain ⟨b1, b2, b3⟩ := bare_parts h.2
    obtain ⟨n, hn⟩ := Int.eq_ofNat_of_zero_le (show 0 ≤ x.kids by omega)
    rcases hk with hk | hk
    · exact .cat hk n hn (by omega) (by unfold keyN; rw [hk, hn, b2, b3, emptyB_key b1]; rfl)
    · exact .alt hk n hn (by omega) (by unfold keyN; rw [hk, hn, b2, b3, emptyB_key b1]; rfl)
  · cases h
theorem nodeOk_parts {L : List Nd} {k : Nat} (h : nodeOk L k = true) : aloneB (L.getD k ndEmpty) = true ∧ ∀ j ∈ kidsF L (k : Int), holdsB (kindAt L k) (kindAt L j) = true := by
  unfold nodeOk at h
  simp only [Bool.and_eq_true, List.all_eq_true] at h
  exact h
end ParP
end Go.Proofs.Ytddokdjlmdoebaa
