/- AstKids: the kids of any node of any list are the document's: the law returns true for every input. No condition. -/
import Derived.Test.YtgkfdjfoakbibaaRows
import Derived.Test.YtgkfdjfoakbibaaLaw6a
import Derived.Test.YtgkfdjfoakbibaaOpenN
import Derived.Test.YtgkfdjfoakbibaaOpenZ
import Derived.OpenShut
namespace Go.Proofs.Ytgkfdjfoakbibaa
open Go.ChangeShapes Go.WideShapes Go.ChangeAt Go.RowKit SetP AstP

set_option maxRecDepth 100000 in
set_option maxHeartbeats 2000000 in
theorem astKids_lifted (os : Os) (started : os.Started) (H : Type) (enc : TypeId × Value → H) :
    ReturnsInHanded {} Try.checked os 9 .any (Rows.astKidsSpec.pre6 enc Try.prog Try.f9 Rows.astKidsRow.domain false) (Rows.astKidsSpec.post enc Try.prog Try.f9 false true false false) := by
  refine returnsInHanded_of_change (C := Try.checked) law_own started (by kernel_rfl) Try.func9
    (ChangeSpec.witness6 (enc := enc) (C := Try.checked) false ⟨#[], #[.slice none 0 0, .int .i64 0], []⟩ 8 (by kernel_rfl) (by kernel_rfl) (by kernel_rfl) (by kernel_rfl)) ?_
  intro W base args ds gs before hval0 hW hcnd _
  have hval : ∀ (j : Nat) t v, Try.f9.params[j]? = some t → args[j]? = some v → Value.okWide Try.prog W .any base t v := hval0
  have hW' := hW
  obtain ⟨p, q, hA0, hV, rfl, hfz, hnd⟩ := hW
  have hA : DataW.TrodAll enc Try.prog W 0 (fun _ => true) true Try.f9.params.toList args.toList ds p := hA0
  rw [Try.params9] at hA hval
  obtain ⟨v0, v1, d0, d1, p0, p1, rfl, rfl, rfl, h0, h1⟩ := trodAll_two hA
  obtain ⟨rfl, rfl⟩ := trodVars_none hV
  have h0' := h0
  obtain ⟨i, rfl, rfl, rfl, wi⟩ := open_int Try.underlying3 (hval 1 3 v1 rfl rfl) h1
  clear hA0 hval0
  simp only [List.append_nil] at hW'
  have hlt : ∀ z ∈ p0, z.block < W.heap.size := fun z hz => hW'.lt z (by simpa using hz)
  obtain ⟨fu, hf⟩ := h0
  obtain ⟨A, n, c, rfl, _, hcame⟩ := nodes_came (hval 0 37 v0 rfl rfl) hf
  refine (astkids_any A c n i W hcame).mono fun e W' ⟨he, hb⟩ => ?_
  subst he
  exact ⟨_, rfl, post_law (pv := []) hW' (trodAll_mk1 (shut_bool Try.underlying4 _)) (trodAll_mk2 (Below.trod law_laid (by kernel_rfl) (of_decide_eq_true (by kernel_rfl)) h0' hb (by simpa using hlt)) (shut_int Try.underlying3 wi)) rfl hb⟩

theorem astKids_holds : Rows.AstKidsSaid :=
  OpenClaim.holds_of_wide 9 Try.f9 rfl rfl rfl rfl rfl rfl rfl ⟨rfl, rfl, rfl, rfl, rfl⟩ rfl rfl rfl rfl rfl (by kernel_rfl) Try.func9 (by kernel_rfl)
    (of_decide_eq_true (by kernel_rfl)) (by unfold Func.isWrapper; first | (rw [if_pos (by decide +kernel)]; kernel_rfl) | (rw [if_neg (by decide +kernel)]; exact ⟨rfl, rfl⟩))
    (fun os started H enc _ => astKids_lifted os started H enc)
#print axioms astKids_holds
end Go.Proofs.Ytgkfdjfoakbibaa
