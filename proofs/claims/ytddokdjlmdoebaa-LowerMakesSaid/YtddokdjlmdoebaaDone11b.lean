/- LowerMakes: the term of any tree, within any limits, or the error, is the document's: the law returns true for every input. No condition. -/
import Derived.Test.YtddokdjlmdoebaaRows
import Derived.Test.YtddokdjlmdoebaaLaw11b
import Derived.Test.YtddokdjlmdoebaaOpenN
import Derived.Test.YtddokdjlmdoebaaOpenZ
import Derived.OpenShut
set_option linter.unusedVariables false
set_option linter.unusedSimpArgs false
namespace Go.Proofs.Ytddokdjlmdoebaa
open Go.ChangeShapes Go.WideShapes Go.ChangeAt Go.RowKit SetP AstP
set_option maxRecDepth 100000 in
theorem limits_cells : Try.prog.cellsOf 30 = 3 := by kernel_rfl
set_option maxRecDepth 100000 in
theorem limits_open {H : Type} {enc : TypeId × Value → H} {w : World} {base b0 : Nat} {spare : Nat → Bool} {held : Bool} {r : Reach} {v : Value} {d : DataW H} {p : List MemPlace} (hv : Value.okWide Try.prog w r b0 30 v) (h : DataW.Trod enc Try.prog w base spare held 30 v d p) :
    ∃ a b c : Int, v = .agg #[.int .i64 a, .int .i64 b, .int .i64 c] := by
  obtain ⟨cs, rfl, hs⟩ := okWide_struct Try.underlying30 hv
  rw [limits_cells] at hs
  obtain ⟨fuel, hf⟩ := h
  obtain ⟨xs, k, _, _, _, hxl, hf⟩ := DataW.trod_struct Try.underlying30 hf
  have hl : (Value.agg cs).cells.toList.length = 3 := by simpa [Value.cells] using hs
  generalize hcs : (Value.agg cs).cells.toList = l at *
  have hcs2 : cs.toList = l := by rw [← hcs]; rfl
  match l, hl with
  | [v0, v1, v2], _ =>
    have hx3 : xs.length = 3 := hxl
    match xs, hx3 with
    | [y0, y1, y2], _ =>
      have g0 : DataW.trod enc Try.prog w base spare held k 3 [v0] = some y0 := by have h := hf 0 _ rfl; simpa [int_cells] using h
      have g1 : DataW.trod enc Try.prog w base spare held k 3 [v1] = some y1 := by have h := hf 1 _ rfl; simpa [int_cells] using h
      have g2 : DataW.trod enc Try.prog w base spare held k 3 [v2] = some y2 := by have h := hf 2 _ rfl; simpa [int_cells] using h
      obtain ⟨a0, e0, _, _⟩ := DataW.trod_int Try.underlying3 g0
      obtain ⟨a1, e1, _, _⟩ := DataW.trod_int Try.underlying3 g1
      obtain ⟨a2, e2, _, _⟩ := DataW.trod_int Try.underlying3 g2
      simp at e0 e1 e2
      subst e0 e1 e2
      exact ⟨a0, a1, a2, by rw [show cs = #[Value.int .i64 a0, .int .i64 a1, .int .i64 a2] from Array.toList_inj.1 hcs2]⟩

set_option maxRecDepth 100000 in
set_option maxHeartbeats 2000000 in
theorem lowerMakes_lifted (os : Os) (started : os.Started) (H : Type) (enc : TypeId × Value → H) :
    ReturnsInHanded {} Try.checked os 4 .any (Rows.lowerMakesSpec.pre6 enc Try.prog Try.f4 Rows.lowerMakesRow.domain false) (Rows.lowerMakesSpec.post enc Try.prog Try.f4 false true false false) := by
  refine returnsInHanded_of_change (C := Try.checked) law_own started (by kernel_rfl) Try.func4
    (ChangeSpec.witness6 (enc := enc) (C := Try.checked) false ⟨#[], #[.slice none 0 0, .agg #[.int .i64 0, .int .i64 0, .int .i64 0]], []⟩ 8 (by kernel_rfl) (by kernel_rfl) (by kernel_rfl) (by kernel_rfl)) ?_
  intro W base args ds gs before hval0 hW hcnd _
  have hval : ∀ (j : Nat) t v, Try.f4.params[j]? = some t → args[j]? = some v → Value.okWide Try.prog W .any base t v := hval0
  have hW' := hW
  obtain ⟨p, q, hA0, hV, rfl, hfz, hnd⟩ := hW
  have hA : DataW.TrodAll enc Try.prog W 0 (fun _ => true) true Try.f4.params.toList args.toList ds p := hA0
  rw [Try.params4] at hA hval
  obtain ⟨v0, v1, d0, d1, p0, p1, rfl, rfl, rfl, h0, h1⟩ := trodAll_two hA
  obtain ⟨rfl, rfl⟩ := trodVars_none hV
  have h0' := h0
  have h1' := h1
  obtain ⟨T, P, S, rfl⟩ := limits_open (hval 1 30 v1 rfl rfl) h1
  clear hA0
  simp only [List.append_nil] at hW'
  have hlt : ∀ z ∈ p0 ++ p1, z.block < W.heap.size := fun z hz => hW'.lt z (by simpa using hz)
  obtain ⟨fu, hf⟩ := h0
  obtain ⟨A, n, c, rfl, _, hcame⟩ := nodes_came (hval 0 22 v0 rfl rfl) hf
  clear hval0
  refine (lmakes_any A c n T P S W hcame).mono fun e W' ⟨he, hb⟩ => ?_
  subst he
  exact ⟨_, rfl, post_law (pv := []) hW' (trodAll_mk1 (shut_bool Try.underlying4 _)) (trodAll_mk2 (Below.trod law_laid (by kernel_rfl) (of_decide_eq_true (by kernel_rfl)) h0' hb (fun z hz => hlt z (by simp [hz]))) (Below.trod law_laid (by kernel_rfl) (of_decide_eq_true (by kernel_rfl)) h1' hb (fun z hz => hlt z (by simp [hz])))) rfl hb⟩

set_option maxRecDepth 100000 in
theorem lowerMakes_holds : Rows.LowerMakesSaid :=
  OpenClaim.holds_of_wide 4 Try.f4 rfl rfl rfl rfl rfl rfl rfl ⟨rfl, rfl, rfl, rfl, rfl⟩ rfl rfl rfl rfl rfl (by kernel_rfl) Try.func4 (by kernel_rfl)
    (of_decide_eq_true (by kernel_rfl)) (by unfold Func.isWrapper; first | (rw [if_pos (by decide +kernel)]; kernel_rfl) | (rw [if_neg (by decide +kernel)]; exact ⟨rfl, rfl⟩))
    (fun os started H enc _ => lowerMakes_lifted os started H enc)
#print axioms lowerMakes_holds
end Go.Proofs.Ytddokdjlmdoebaa
