/- LexBytes: of any byte the text of the set that has it alone is read as a word of that set, with nothing left; a bracket, or a backslash, is not needed where the byte begins no other word: the law returns true for every byte. No condition. -/
import Derived.Test.YtddokdjlmdoebaaRows
import Derived.Test.YtddokdjlmdoebaaLaw5e
import Derived.Test.YtddokdjlmdoebaaOpenZ
import Derived.OpenShut
namespace Go.Proofs.Ytddokdjlmdoebaa
open Go.ChangeShapes Go.WideShapes Go.ChangeAt Go.RowKit SetP

theorem byte_wf {x : Int} (h : (Lit.int .u8 x).wf = true) : 0 ≤ x ∧ x < 256 := by
  simp [Lit.wf, IntKind.min, IntKind.max, IntKind.signed, IntKind.bits] at h
  exact ⟨by omega, by omega⟩
set_option maxRecDepth 100000 in
set_option maxHeartbeats 2000000 in
theorem lexBytes_lifted (os : Os) (started : os.Started) (H : Type) (enc : TypeId × Value → H) :
    ReturnsInHanded {} Try.checked os 12 .any (Rows.lexBytesSpec.pre6 enc Try.prog Try.f12 Rows.lexBytesRow.domain false) (Rows.lexBytesSpec.post enc Try.prog Try.f12 false true false false) := by
  refine returnsInHanded_of_change (C := Try.checked) law_own started (by kernel_rfl) Try.func12
    (ChangeSpec.witness6 (enc := enc) (C := Try.checked) false ⟨#[], #[.int .u8 0], []⟩ 8 (by kernel_rfl) (by kernel_rfl) (by kernel_rfl) (by kernel_rfl)) ?_
  intro W base args ds gs before hval0 hW hcnd _
  have hval : ∀ (j : Nat) t v, Try.f12.params[j]? = some t → args[j]? = some v → Value.okWide Try.prog W .any base t v := hval0
  have hW' := hW
  obtain ⟨p, q, hA0, hV, rfl, hfz, hnd⟩ := hW
  have hA : DataW.TrodAll enc Try.prog W 0 (fun _ => true) true Try.f12.params.toList args.toList ds p := hA0
  rw [Try.params12] at hA hval
  obtain ⟨v0, d0, rfl, rfl, h0⟩ := trodAll_one hA
  obtain ⟨rfl, rfl⟩ := trodVars_none hV
  obtain ⟨b, rfl, rfl, rfl, wb⟩ := open_int Try.underlying5 (hval 0 5 v0 rfl rfl) h0
  clear hA0 hval0
  simp only [List.append_nil] at hW'
  obtain ⟨b0, b1⟩ := byte_wf wb
  obtain ⟨c, hc⟩ : ∃ c : UInt8, b = (c.toNat : Int) := ⟨UInt8.ofNat b.toNat, by simp; omega⟩
  subst hc
  refine (bytes5_any c W).mono fun e W' ⟨he, hb⟩ => ?_
  subst he
  exact ⟨_, rfl, post_law (pv := []) hW' (trodAll_mk1 (shut_bool Try.underlying4 _)) (trodAll_mk1 (shut_int Try.underlying5 wb)) rfl hb⟩

set_option maxRecDepth 100000 in
theorem lexBytes_holds : Rows.LexBytesSaid :=
  OpenClaim.holds_of_wide 12 Try.f12 rfl rfl rfl rfl rfl rfl rfl ⟨rfl, rfl, rfl, rfl, rfl⟩ rfl rfl rfl rfl rfl (by kernel_rfl) Try.func12 (by kernel_rfl)
    (of_decide_eq_true (by kernel_rfl)) (by unfold Func.isWrapper; first | (rw [if_pos (by decide +kernel)]; kernel_rfl) | (rw [if_neg (by decide +kernel)]; exact ⟨rfl, rfl⟩))
    (fun os started H enc _ => lexBytes_lifted os started H enc)
#print axioms lexBytes_holds
end Go.Proofs.Ytddokdjlmdoebaa
