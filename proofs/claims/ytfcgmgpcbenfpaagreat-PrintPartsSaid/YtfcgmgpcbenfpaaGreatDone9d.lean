/- PrintParts: the text of a Group is in parentheses, and an Alt of two trees has the text of both, with a bar between: the law returns true for every input. No condition. -/
import Derived.Test.YtfcgmgpcbenfpaaGreatRows
import Derived.Test.YtfcgmgpcbenfpaaGreatLaw9d
import Derived.Test.YtfcgmgpcbenfpaaGreatOpenN
import Derived.Test.YtfcgmgpcbenfpaaGreatOpenZ
import Derived.OpenShut
set_option linter.unusedVariables false
set_option linter.unusedSimpArgs false
namespace Go.Proofs.YtfcgmgpcbenfpaaGreat
open Go.ChangeShapes Go.WideShapes Go.ChangeAt Go.RowKit SetP AstP

set_option maxRecDepth 100000 in
set_option maxHeartbeats 2000000 in
theorem printParts_lifted (os : Os) (started : os.Started) (H : Type) (enc : TypeId × Value → H) :
    ReturnsInHanded {} Tryz.checked os 8 .any (Rows.printPartsSpec.pre6 enc Tryz.prog Tryz.f8 Rows.printPartsRow.domain false) (Rows.printPartsSpec.post enc Tryz.prog Tryz.f8 false true false false) := by
  refine returnsInHanded_of_change (C := Tryz.checked) law_own started (by kernel_rfl) Tryz.func8
    (ChangeSpec.witness6 (enc := enc) (C := Tryz.checked) false ⟨#[], #[.slice none 0 0, .slice none 0 0], []⟩ 8 (by kernel_rfl) (by kernel_rfl) (by kernel_rfl) (by kernel_rfl)) ?_
  intro W base args ds gs before hval0 hW hcnd _
  have hval : ∀ (j : Nat) t v, Tryz.f8.params[j]? = some t → args[j]? = some v → Value.okWide Tryz.prog W .any base t v := hval0
  have hW' := hW
  obtain ⟨p, q, hA0, hV, rfl, hfz, hnd⟩ := hW
  have hA : DataW.TrodAll enc Tryz.prog W 0 (fun _ => true) true Tryz.f8.params.toList args.toList ds p := hA0
  rw [Tryz.params8] at hA hval
  obtain ⟨v0, v1, d0, d1, p0, p1, rfl, rfl, rfl, h0, h1⟩ := trodAll_two hA
  obtain ⟨rfl, rfl⟩ := trodVars_none hV
  have h0' := h0
  have h1' := h1
  clear hA0 hval0
  simp only [List.append_nil] at hW'
  have hlt : ∀ z ∈ p0 ++ p1, z.block < W.heap.size := fun z hz => hW'.lt z (by simpa using hz)
  obtain ⟨fu, hf⟩ := h0
  obtain ⟨A, n, c, rfl, _, hcame⟩ := nodes_came (hval 0 28 v0 rfl rfl) hf
  obtain ⟨fu1, hf1⟩ := h1
  obtain ⟨A', n', c', rfl, _, hcame'⟩ := nodes_came (hval 1 28 v1 rfl rfl) hf1
  refine (parts9_any A A' c c' n n' W hcame hcame').mono fun e W' ⟨he, hb⟩ => ?_
  subst he
  exact ⟨_, rfl, post_law (pv := []) hW' (trodAll_mk1 (shut_bool Tryz.underlying4 _)) (trodAll_mk2 (Below.trod law_laid (by kernel_rfl) (of_decide_eq_true (by kernel_rfl)) h0' hb (fun z hz => hlt z (by simp [hz]))) (Below.trod law_laid (by kernel_rfl) (of_decide_eq_true (by kernel_rfl)) h1' hb (fun z hz => hlt z (by simp [hz])))) rfl hb⟩

set_option maxRecDepth 100000 in
theorem printParts_holds : Rows.PrintPartsSaid :=
  OpenClaim.holds_of_wide 8 Tryz.f8 rfl rfl rfl rfl rfl rfl rfl ⟨rfl, rfl, rfl, rfl, rfl⟩ rfl rfl rfl rfl rfl (by kernel_rfl) Tryz.func8 (by kernel_rfl)
    (of_decide_eq_true (by kernel_rfl)) (by unfold Func.isWrapper; first | (rw [if_pos (by decide +kernel)]; kernel_rfl) | (rw [if_neg (by decide +kernel)]; exact ⟨rfl, rfl⟩))
    (fun os started H enc _ => printParts_lifted os started H enc)
#print axioms printParts_holds
end Go.Proofs.YtfcgmgpcbenfpaaGreat
