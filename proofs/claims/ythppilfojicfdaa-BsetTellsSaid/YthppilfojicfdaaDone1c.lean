/- BsetTells: whether any byte is in any set, sets with more bytes, ranges, and what comes of any two sets, are the document's: the law returns true for every input. No condition. -/
import Derived.Test.YthppilfojicfdaaRows
import Derived.Test.YthppilfojicfdaaLaw1c
import Derived.Test.YthppilfojicfdaaOpenA
import Derived.OpenShut
namespace Go.Proofs.Ythppilfojicfdaa
open Go.ChangeShapes Go.WideShapes Go.ChangeAt Go.RowKit SetP

theorem law_laid : laidOutB Try.prog = true := by kernel_rfl
theorem byte_wf {x : Int} (h : (Lit.int .u8 x).wf = true) : 0 ≤ x ∧ x < 256 := by
  simp [Lit.wf, IntKind.min, IntKind.max, IntKind.signed, IntKind.bits] at h
  exact ⟨by omega, by omega⟩
theorem byte_cells : Try.prog.cellsOf 5 = 1 := by kernel_rfl

set_option maxRecDepth 100000 in
set_option maxHeartbeats 2000000 in
theorem bsetTells_lifted (os : Os) (started : os.Started) (H : Type) (enc : TypeId × Value → H) :
    ReturnsInHanded {} Try.checked os 5 .any (Rows.bsetTellsSpec.pre6 enc Try.prog Try.f5 Rows.bsetTellsRow.domain false) (Rows.bsetTellsSpec.post enc Try.prog Try.f5 false true false false) := by
  refine returnsInHanded_of_change (C := Try.checked) law_own started (by kernel_rfl) Try.func5
    (ChangeSpec.witness6 (enc := enc) (C := Try.checked) false ⟨#[], #[.agg #[.int .u64 0, .int .u64 0, .int .u64 0, .int .u64 0], .agg #[.int .u64 0, .int .u64 0, .int .u64 0, .int .u64 0], .agg #[.int .u8 0, .int .u8 0, .slice none 0 0]], []⟩ 8 (by kernel_rfl) (by kernel_rfl) (by kernel_rfl) (by kernel_rfl)) ?_
  intro W base args ds gs before hval0 hW hcnd _
  have hval : ∀ (j : Nat) t v, Try.f5.params[j]? = some t → args[j]? = some v → Value.okWide Try.prog W .any base t v := hval0
  have hW' := hW
  obtain ⟨p, q, hA0, hV, rfl, hfz, hnd⟩ := hW
  have hA : DataW.TrodAll enc Try.prog W 0 (fun _ => true) true Try.f5.params.toList args.toList ds p := hA0
  rw [Try.params5] at hA hval
  obtain ⟨v0, v1, v2, d0, d1, d2, p0, p1, p2, rfl, rfl, rfl, h0, h1, h2⟩ := trodAll_three hA
  obtain ⟨rfl, rfl⟩ := trodVars_none hV
  have h2' := h2
  obtain ⟨a, rfl, rfl, rfl⟩ := open_set (hval 0 24 v0 rfl rfl) h0
  obtain ⟨b, rfl, rfl, rfl⟩ := open_set (hval 1 24 v1 rfl rfl) h1
  obtain ⟨c0, c1, c2, y0, y1, y2, m, rfl, rfl, rfl, hy0, hy1, hy2⟩ := Go.Joins.open_agg3 Try.underlying41 (by kernel_rfl) (by kernel_rfl) (hval 2 41 v2 rfl rfl) h2
  obtain ⟨x, e0, rfl, wx⟩ := DataW.trod_int Try.underlying5 hy0
  obtain ⟨y, e1, rfl, wy⟩ := DataW.trod_int Try.underlying5 hy1
  simp at e0 e1
  subst e0 e1
  clear hA0 hval0
  simp only [List.append_nil] at hW'
  obtain ⟨bx0, bx1⟩ := byte_wf wx
  obtain ⟨by0, by1⟩ := byte_wf wy
  have hlt : ∀ z ∈ y2.2, z.block < W.heap.size := fun z hz => hW'.lt z (by simpa using hz)
  obtain ⟨A, n, c, l, rfl, hl⟩ : ∃ A n c l, c2 = .slice A n c ∧ BytesAt W W.heap.size A n c l := by
    rcases open_ints Try.underlying25 Try.underlying5 byte_cells hy2 with ⟨hcs, _⟩ | ⟨ad, len, cap, zs, hcs, _, hlc, hcm, hzl, _, hcell, hwz⟩
    · simp at hcs
      exact ⟨none, 0, 0, [], hcs, rfl, by omega, fun i hi => by omega, .inl rfl⟩
    · simp at hcs
      simp at hzl
      refine ⟨some ad, len, cap, zs.take len, hcs, by simp; omega, by unfold maxLen at hcm; omega, fun i hi => ?_, ?_⟩
      · have hz : (zs.take len).getD i 0 = zs[i]'(by omega) := by
          rw [List.getD_eq_getElem?_getD, List.getElem?_take_of_lt hi, List.getElem?_eq_getElem (by omega)]; rfl
        rw [hz]
        exact byte_wf (hwz _ (List.getElem_mem _))
      · rcases Nat.eq_zero_or_pos len with h | h
        · exact .inl h
        · obtain ⟨bb, off, rfl, hc⟩ := ints_at hcell (by omega)
          refine .inr ⟨bb, off, rfl, block_lt_of_cell (hc 0 (by omega)), fun i hi => ?_⟩
          rw [hc i (by omega)]
          congr 2
          rw [List.getD_eq_getElem?_getD, List.getD_eq_getElem?_getD, List.getElem?_take_of_lt hi]
  refine (tells_any a b x y A n c l bx0 bx1 by0 by1 W hl).mono fun e W' ⟨he, hb⟩ => ?_
  subst he
  exact ⟨_, rfl, post_law (pv := []) hW' (trodAll_mk1 (shut_bool Try.underlying4 _)) (trodAll_mk3 (set_trod a) (set_trod b) (Below.trod law_laid (by kernel_rfl) (of_decide_eq_true (by kernel_rfl)) h2' hb (by simpa using hlt))) rfl hb⟩

theorem bsetTells_holds : Rows.BsetTellsSaid :=
  OpenClaim.holds_of_wide 5 Try.f5 rfl rfl rfl rfl rfl rfl rfl ⟨rfl, rfl, rfl, rfl, rfl⟩ rfl rfl rfl rfl rfl (by kernel_rfl) Try.func5 (by kernel_rfl)
    (of_decide_eq_true (by kernel_rfl)) (by unfold Func.isWrapper; first | (rw [if_pos (by decide +kernel)]; kernel_rfl) | (rw [if_neg (by decide +kernel)]; exact ⟨rfl, rfl⟩))
    (fun os started H enc _ => bsetTells_lifted os started H enc)
#print axioms bsetTells_holds
end Go.Proofs.Ythppilfojicfdaa
