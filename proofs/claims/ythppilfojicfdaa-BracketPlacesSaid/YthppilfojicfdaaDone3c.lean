/- BracketPlaces: where a bracket stands in a text is told, but changes nothing; its set is that of its range, or with ^ ahead the bytes that are not in it: the law returns true for every input. No condition. -/
import Derived.Test.YthppilfojicfdaaRows
import Derived.Test.YthppilfojicfdaaLaw3c
import Derived.Test.YthppilfojicfdaaOpenA
import Derived.OpenShut
namespace Go.Proofs.Ythppilfojicfdaa
open Go.ChangeShapes Go.WideShapes Go.ChangeAt Go.RowKit SetP

theorem byte_wf {x : Int} (h : (Lit.int .u8 x).wf = true) : 0 ≤ x ∧ x < 256 := by
  simp [Lit.wf, IntKind.min, IntKind.max, IntKind.signed, IntKind.bits] at h
  exact ⟨by omega, by omega⟩
theorem byte_of {x : Int} (h : 0 ≤ x ∧ x < 256) : ∃ b : UInt8, x = (b.toNat : Int) :=
  ⟨UInt8.ofNat x.toNat, by rw [UInt8.toNat_ofNat_of_lt' (by simp; omega)]; omega⟩
set_option maxRecDepth 100000 in
set_option maxHeartbeats 2000000 in
theorem bracketPlaces_lifted (os : Os) (started : os.Started) (H : Type) (enc : TypeId × Value → H) :
    ReturnsInHanded {} Try.checked os 13 .any (Rows.bracketPlacesSpec.pre6 enc Try.prog Try.f13 Rows.bracketPlacesRow.domain false) (Rows.bracketPlacesSpec.post enc Try.prog Try.f13 false true false false) := by
  refine returnsInHanded_of_change (C := Try.checked) law_own started (by kernel_rfl) Try.func13
    (ChangeSpec.witness6 (enc := enc) (C := Try.checked) false ⟨#[], #[.string ⟨#[]⟩, .int .u8 0, .int .u8 0], []⟩ 8 (by kernel_rfl) (by kernel_rfl) (by kernel_rfl) (by kernel_rfl)) ?_
  intro W base args ds gs before hval0 hW hcnd _
  have hval : ∀ (j : Nat) t v, Try.f13.params[j]? = some t → args[j]? = some v → Value.okWide Try.prog W .any base t v := hval0
  have hW' := hW
  obtain ⟨p, q, hA0, hV, rfl, hfz, hnd⟩ := hW
  have hA : DataW.TrodAll enc Try.prog W 0 (fun _ => true) true Try.f13.params.toList args.toList ds p := hA0
  rw [Try.params13] at hA hval
  obtain ⟨v0, v1, v2, d0, d1, d2, p0, p1, p2, rfl, rfl, rfl, h0, h1, h2⟩ := trodAll_three hA
  obtain ⟨rfl, rfl⟩ := trodVars_none hV
  obtain ⟨s, rfl, rfl, rfl, hs⟩ := Go.ChangeMaps.open_string Try.underlying9 (hval 0 9 v0 rfl rfl) h0
  obtain ⟨lo, rfl, rfl, rfl, wl⟩ := open_int Try.underlying5 (hval 1 5 v1 rfl rfl) h1
  obtain ⟨hi, rfl, rfl, rfl, wh⟩ := open_int Try.underlying5 (hval 2 5 v2 rfl rfl) h2
  obtain ⟨lo, rfl⟩ := byte_of (byte_wf wl)
  obtain ⟨hi, rfl⟩ := byte_of (byte_wf wh)
  clear hA0 hval0
  simp only [List.append_nil] at hW'
  refine (places3_any s lo hi W).mono fun e W' ⟨he, hb⟩ => ?_
  subst he
  exact ⟨_, rfl, post_law (pv := []) hW' (trodAll_mk1 (shut_bool Try.underlying4 _)) (trodAll_mk3 (Go.ChangeMaps.shut_string Try.underlying9 hs) (shut_int Try.underlying5 wl) (shut_int Try.underlying5 wh)) rfl hb⟩

theorem bracketPlaces_holds : Rows.BracketPlacesSaid :=
  OpenClaim.holds_of_wide 13 Try.f13 rfl rfl rfl rfl rfl rfl rfl ⟨rfl, rfl, rfl, rfl, rfl⟩ rfl rfl rfl rfl rfl (by kernel_rfl) Try.func13 (by kernel_rfl)
    (of_decide_eq_true (by kernel_rfl)) (by unfold Func.isWrapper; first | (rw [if_pos (by decide +kernel)]; kernel_rfl) | (rw [if_neg (by decide +kernel)]; exact ⟨rfl, rfl⟩))
    (fun os started H enc _ => bracketPlaces_lifted os started H enc)
#print axioms bracketPlaces_holds
end Go.Proofs.Ythppilfojicfdaa
