/- LowerParts: two trees in an Alt have the nodes and leaves of both: the law returns true for every input. No condition. -/
import Derived.Test.YtddokdjlmdoebaaRows
import Derived.Test.YtddokdjlmdoebaaLaw11d
import Derived.Test.YtddokdjlmdoebaaOpenN
import Derived.Test.YtddokdjlmdoebaaOpenZ
import Derived.OpenShut
set_option linter.unusedVariables false
set_option linter.unusedSimpArgs false
namespace Go.Proofs.Ytddokdjlmdoebaa
open Go.ChangeShapes Go.WideShapes Go.ChangeAt Go.RowKit SetP AstP

set_option maxRecDepth 100000 in
set_option maxHeartbeats 2000000 in
theorem lowerParts_lifted (os : Os) (started : os.Started) (H : Type) (enc : TypeId × Value → H) :
    ReturnsInHanded {} Try.checked os 5 .any (Rows.lowerPartsSpec.pre6 enc Try.prog Try.f5 Rows.lowerPartsRow.domain false) (Rows.lowerPartsSpec.post enc Try.prog Try.f5 false true false false) := by
  refine returnsInHanded_of_change (C := Try.checked) law_own started (by kernel_rfl) Try.func5
    (ChangeSpec.witness6 (enc := enc) (C := Try.checked) false ⟨#[], #[.slice none 0 0, .slice none 0 0], []⟩ 8 (by kernel_rfl) (by kernel_rfl) (by kernel_rfl) (by kernel_rfl)) ?_
  intro W base args ds gs before hval0 hW hcnd _
  have hval : ∀ (j : Nat) t v, Try.f5.params[j]? = some t → args[j]? = some v → Value.okWide Try.prog W .any base t v := hval0
  have hW' := hW
  obtain ⟨p, q, hA0, hV, rfl, hfz, hnd⟩ := hW
  have hA : DataW.TrodAll enc Try.prog W 0 (fun _ => true) true Try.f5.params.toList args.toList ds p := hA0
  rw [Try.params5] at hA hval
  obtain ⟨v0, v1, d0, d1, p0, p1, rfl, rfl, rfl, h0, h1⟩ := trodAll_two hA
  obtain ⟨rfl, rfl⟩ := trodVars_none hV
  have h0' := h0
  have h1' := h1
  clear hA0 hval0
  simp only [List.append_nil] at hW'
  have hlt : ∀ z ∈ p0 ++ p1, z.block < W.heap.size := fun z hz => hW'.lt z (by simpa using hz)
  obtain ⟨fu, hf⟩ := h0
  obtain ⟨A, n, c, rfl, _, hcame⟩ := nodes_came (hval 0 22 v0 rfl rfl) hf
  obtain ⟨fu1, hf1⟩ := h1
  obtain ⟨A', n', c', rfl, _, hcame'⟩ := nodes_came (hval 1 22 v1 rfl rfl) hf1
  refine (lparts_any A A' c c' n n' W hcame hcame').mono fun e W' ⟨he, hb⟩ => ?_
  subst he
  exact ⟨_, rfl, post_law (pv := []) hW' (trodAll_mk1 (shut_bool Try.underlying4 _)) (trodAll_mk2 (Below.trod law_laid (by kernel_rfl) (of_decide_eq_true (by kernel_rfl)) h0' hb (fun z hz => hlt z (by simp [hz]))) (Below.trod law_laid (by kernel_rfl) (of_decide_eq_true (by kernel_rfl)) h1' hb (fun z hz => hlt z (by simp [hz])))) rfl hb⟩

set_option maxRecDepth 100000 in
theorem lowerParts_holds : Rows.LowerPartsSaid :=
  OpenClaim.holds_of_wide 5 Try.f5 rfl rfl rfl rfl rfl rfl rfl ⟨rfl, rfl, rfl, rfl, rfl⟩ rfl rfl rfl rfl rfl (by kernel_rfl) Try.func5 (by kernel_rfl)
    (of_decide_eq_true (by kernel_rfl)) (by unfold Func.isWrapper; first | (rw [if_pos (by decide +kernel)]; kernel_rfl) | (rw [if_neg (by decide +kernel)]; exact ⟨rfl, rfl⟩))
    (fun os started H enc _ => lowerParts_lifted os started H enc)
#print axioms lowerParts_holds
end Go.Proofs.Ytddokdjlmdoebaa
