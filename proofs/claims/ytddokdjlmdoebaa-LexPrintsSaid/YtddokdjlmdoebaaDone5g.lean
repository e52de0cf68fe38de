/- LexPrints: the text of any set, and of any word, is the document's: the law returns true for every word. No condition. -/
import Derived.Test.YtddokdjlmdoebaaRows
import Derived.Test.YtddokdjlmdoebaaLaw5a
import Derived.Test.YtddokdjlmdoebaaOpenZ
import Derived.Laws.IdiomArrays
import Derived.Lib.SmallJoins
import Derived.OpenShut
namespace Go.Proofs.Ytddokdjlmdoebaa
open Go.ChangeShapes Go.WideShapes Go.ChangeAt Go.RowKit SetP LexP

theorem word_wf5 {x : Int} (h : (Lit.int .u64 x).wf = true) : 0 ≤ x ∧ x < 18446744073709551616 := by
  simp [Lit.wf, IntKind.min, IntKind.max, IntKind.signed, IntKind.bits] at h
  exact ⟨by omega, by omega⟩
set_option maxRecDepth 100000 in
theorem w5_cells : Try.prog.cellsOf 57 = 9 := by kernel_rfl
set_option maxRecDepth 100000 in
theorem u5_cells : Try.prog.cellsOf 39 = 1 := by kernel_rfl
set_option maxRecDepth 100000 in
theorem int5_cells : Try.prog.cellsOf 3 = 1 := by kernel_rfl
set_option maxRecDepth 100000 in
theorem set5_cells : Try.prog.cellsOf 41 = 4 := by kernel_rfl
theorem okWide_struct {P : Program} {w : World} {r : Reach} {base : Nat} {t : TypeId} {fs : Array Field} {v : Value} (ht : P.underlying t = some (.struct fs)) (h : Value.okWide P w r base t v) : ∃ cs, v = .agg cs ∧ cs.size = P.cellsOf t := by
  simp only [Value.okWide, ht] at h
  obtain ⟨cs, h1, h2, _⟩ := h
  exact ⟨cs, h1, h2⟩
section
variable {H : Type} {enc : TypeId × Value → H} {w : World} {base : Nat} {spare : Nat → Bool} {held : Bool}
set_option maxRecDepth 100000 in
theorem word_open {n : Nat} {cs : List Value} {y : DataW H × List MemPlace} (hl : cs.length = 9) (h : DataW.trod enc Try.prog w base spare held n 57 cs = some y) : ∃ x : Wd, cs = (wdCells x).toList := by
  obtain ⟨xs, k, _, _, _, hxl, hf⟩ := DataW.trod_struct Try.underlying57 h
  match cs, hl with
  | [v0, v1, v2, v3, v4, v5, v6, v7, v8], _ =>
    have hx5 : xs.length = 6 := hxl
    match xs, hx5 with
    | [y0, y1, y2, y3, y4, y5], _ =>
      have g0 : DataW.trod enc Try.prog w base spare held k 3 [v0] = some y0 := by have h := hf 0 _ rfl; simpa [int5_cells] using h
      have g1 : DataW.trod enc Try.prog w base spare held k 3 [v1] = some y1 := by have h := hf 1 _ rfl; simpa [int5_cells] using h
      have g2 : DataW.trod enc Try.prog w base spare held k 3 [v2] = some y2 := by have h := hf 2 _ rfl; simpa [int5_cells] using h
      have g3 : DataW.trod enc Try.prog w base spare held k 41 [v3, v4, v5, v6] = some y3 := by have h := hf 3 _ rfl; simpa [set5_cells] using h
      have g4 : DataW.trod enc Try.prog w base spare held k 3 [v7] = some y4 := by have h := hf 4 _ rfl; simpa [int5_cells] using h
      have g5 : DataW.trod enc Try.prog w base spare held k 3 [v8] = some y5 := by have h := hf 5 _ rfl; simpa [int5_cells] using h
      obtain ⟨a0, e0, _, _⟩ := DataW.trod_int Try.underlying3 g0
      obtain ⟨a1, e1, _, _⟩ := DataW.trod_int Try.underlying3 g1
      obtain ⟨a2, e2, _, _⟩ := DataW.trod_int Try.underlying3 g2
      obtain ⟨a7, e7, _, _⟩ := DataW.trod_int Try.underlying3 g4
      obtain ⟨a8, e8, _, _⟩ := DataW.trod_int Try.underlying3 g5
      obtain ⟨z0, z1, z2, z3, n', _, h0, h1, h2, h3⟩ := trod_array4 Try.underlying41 u5_cells g3
      obtain ⟨a, e3, _, wa⟩ := DataW.trod_int Try.underlying39 h0
      obtain ⟨b, e4, _, wb⟩ := DataW.trod_int Try.underlying39 h1
      obtain ⟨c, e5, _, wc⟩ := DataW.trod_int Try.underlying39 h2
      obtain ⟨q, e6, _, wq⟩ := DataW.trod_int Try.underlying39 h3
      simp at e0 e1 e2 e3 e4 e5 e6 e7 e8
      subst e0 e1 e2 e3 e4 e5 e6 e7 e8
      obtain ⟨g0, g1, g2, g3⟩ := wd_of (word_wf5 wa) (word_wf5 wb) (word_wf5 wc) (word_wf5 wq)
      exact ⟨⟨a0, a1, a2, ofW a b c q, a7, a8⟩, by
        show _ = [Value.int .i64 a0, .int .i64 a1, .int .i64 a2, .int .u64 (wd (ofW a b c q) 0), .int .u64 (wd (ofW a b c q) 1), .int .u64 (wd (ofW a b c q) 2), .int .u64 (wd (ofW a b c q) 3), .int .i64 a7, .int .i64 a8]
        rw [← g0, ← g1, ← g2, ← g3]⟩
set_option maxRecDepth 100000 in
theorem word_came {r : Reach} {b0 fuel : Nat} {v : Value} {y : DataW H × List MemPlace} (hv : Value.okWide Try.prog w r b0 57 v) (h : DataW.trod enc Try.prog w base spare held fuel 57 v.cells.toList = some y) : ∃ x : Wd, v = wdV x := by
  obtain ⟨cs, rfl, hs⟩ := okWide_struct Try.underlying57 hv
  rw [w5_cells] at hs
  obtain ⟨x, hx⟩ := word_open (cs := cs.toList) (by simpa using hs) (by simpa [Value.cells] using h)
  refine ⟨x, ?_⟩
  unfold wdV
  congr 1
  apply Array.toList_inj.1 hx
end
set_option maxRecDepth 100000 in
set_option maxHeartbeats 2000000 in
theorem lexPrints_lifted (os : Os) (started : os.Started) (H : Type) (enc : TypeId × Value → H) :
    ReturnsInHanded {} Try.checked os 13 .any (Rows.lexPrintsSpec.pre6 enc Try.prog Try.f13 Rows.lexPrintsRow.domain false) (Rows.lexPrintsSpec.post enc Try.prog Try.f13 false true false false) := by
  refine returnsInHanded_of_change (C := Try.checked) law_own started (by kernel_rfl) Try.func13
    (ChangeSpec.witness6 (enc := enc) (C := Try.checked) false ⟨#[], #[.agg #[.int .i64 0, .int .i64 0, .int .i64 0, .int .u64 0, .int .u64 0, .int .u64 0, .int .u64 0, .int .i64 0, .int .i64 0]], []⟩ 8 (by kernel_rfl) (by kernel_rfl) (by kernel_rfl) (by kernel_rfl)) ?_
  intro W base args ds gs before hval0 hW hcnd _
  have hval : ∀ (j : Nat) t v, Try.f13.params[j]? = some t → args[j]? = some v → Value.okWide Try.prog W .any base t v := hval0
  have hW' := hW
  obtain ⟨p, q, hA0, hV, rfl, hfz, hnd⟩ := hW
  have hA : DataW.TrodAll enc Try.prog W 0 (fun _ => true) true Try.f13.params.toList args.toList ds p := hA0
  rw [Try.params13] at hA hval
  obtain ⟨v0, d0, rfl, rfl, h0⟩ := trodAll_one hA
  obtain ⟨rfl, rfl⟩ := trodVars_none hV
  have h0' := h0
  simp only [List.append_nil] at hW'
  obtain ⟨fuel, hf⟩ := h0
  obtain ⟨x, rfl⟩ := word_came (hval 0 57 v0 rfl rfl) hf
  clear hA0 hval0
  refine (prints5_any x W).mono fun e W' ⟨he, hb⟩ => ?_
  subst he
  exact ⟨_, rfl, post_law (pv := []) hW' (trodAll_mk1 (shut_bool Try.underlying4 _)) (trodAll_mk1 (Below.trod law_laid (by kernel_rfl) (of_decide_eq_true (by kernel_rfl)) h0' hb (fun z hz => hW'.lt z (by simpa using hz)))) rfl hb⟩

set_option maxRecDepth 100000 in
theorem lexPrints_holds : Rows.LexPrintsSaid :=
  OpenClaim.holds_of_wide 13 Try.f13 rfl rfl rfl rfl rfl rfl rfl ⟨rfl, rfl, rfl, rfl, rfl⟩ rfl rfl rfl rfl rfl (by kernel_rfl) Try.func13 (by kernel_rfl)
    (of_decide_eq_true (by kernel_rfl)) (by unfold Func.isWrapper; first | (rw [if_pos (by decide +kernel)]; kernel_rfl) | (rw [if_neg (by decide +kernel)]; exact ⟨rfl, rfl⟩))
    (fun os started H enc _ => lexPrints_lifted os started H enc)
#print axioms lexPrints_holds
end Go.Proofs.Ytddokdjlmdoebaa
