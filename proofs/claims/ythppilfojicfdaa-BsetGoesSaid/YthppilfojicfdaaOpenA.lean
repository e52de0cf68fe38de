/- A set that comes in, opened and shut. -/
import Derived.Test.YthppilfojicfdaaProg
import Derived.Test.YthppilfojicfdaaSetP
import Derived.Test.YthppilfojicfdaaMem
import Derived.ProofKit
import Derived.Laws.IdiomArrays
import Derived.Lib.SmallJoins
namespace Go.Proofs.Ythppilfojicfdaa
open Go.ChangeShapes Go.WideShapes Go.ChangeAt Go.RowKit SetP

theorem set_cells : Try.prog.cellsOf 24 = 4 := by kernel_rfl
theorem word_cells : Try.prog.cellsOf 22 = 1 := by kernel_rfl
theorem word_wf {x : Int} (h : (Lit.int .u64 x).wf = true) : 0 ≤ x ∧ x < 18446744073709551616 := by
  simp [Lit.wf, IntKind.min, IntKind.max, IntKind.signed, IntKind.bits] at h
  exact ⟨by omega, by omega⟩
theorem okWide_array {P : Program} {w : World} {r : Reach} {base : Nat} {t e : TypeId} {n : Nat} {v : Value} (ht : P.underlying t = some (.array n e)) (h : Value.okWide P w r base t v) : ∃ cs, v = .agg cs ∧ cs.size = P.cellsOf t := by
  simp only [Value.okWide, ht] at h
  obtain ⟨cs, h1, h2, _⟩ := h
  exact ⟨cs, h1, h2⟩

theorem law_own : ownKnob Try.prog.godebug = none := by kernel_rfl
/-- The last step of a law's row: true is handed back, and of what was there nothing has turned. -/
theorem post_law {H : Type} {enc : TypeId × Value → H} {P : Program} {f : Func} {s : ChangeSpec} {W W' : World} {args : Array Value} {v : Value} {ds gs : List (DataW H)} {before pa pv : List MemPlace}
    (hW : DataW.Whole enc P f.params.toList s.vars false W args.toList ds gs before)
    (hres : DataW.TrodAll enc P W' W.heap.size (fun _ => false) false f.resultTypes.toList (v.resultList f.resultTypes.size) (s.fn H (ds ++ gs)).results [])
    (hargs : DataW.TrodAll enc P W' 0 (fun b => decide (b < W.heap.size)) true f.params.toList args.toList (s.fn H (ds ++ gs)).args pa)
    (hvars : DataW.TrodVars enc P W' (fun b => decide (b < W.heap.size)) s.vars (s.fn H (ds ++ gs)).vars pv)
    (hb : Below W.heap.size W W') : s.post enc P f false true false false W args v W' :=
  ⟨ds, gs, before, [], pa, pv, hW, hres, hargs, hvars, hb.frame _, fun h => by cases h⟩

section
variable {H : Type} {enc : TypeId × Value → H} {w : World} {base : Nat} {spare : Nat → Bool} {held : Bool}
theorem set_trod (f : Nat → Bool) : DataW.Trod enc Try.prog w base spare held 24 (setV f) (.agg [.lit (.int .u64 (wd f 0)), .lit (.int .u64 (wd f 1)), .lit (.int .u64 (wd f 2)), .lit (.int .u64 (wd f 3))]) [] := by
  have hw : ∀ i, (Lit.int .u64 (wd f i)).wf = true := fun i => WalkArith.wf_u64 (by have := wd_nonneg f i; have := wd_lt f i; omega)
  refine ⟨2, ?_⟩
  simp [DataW.trod, Value.cells, Try.underlying24, Try.underlying22, word_cells, set_cells, hw, List.range, List.range.loop]
theorem open_set {r : Reach} {b0 : Nat} {v : Value} {d : DataW H} {p : List MemPlace} (hv : Value.okWide Try.prog w r b0 24 v) (h : DataW.Trod enc Try.prog w base spare held 24 v d p) :
    ∃ f : Nat → Bool, v = setV f ∧ d = .agg [.lit (.int .u64 (wd f 0)), .lit (.int .u64 (wd f 1)), .lit (.int .u64 (wd f 2)), .lit (.int .u64 (wd f 3))] ∧ p = [] := by
  obtain ⟨cs, rfl, hs⟩ := okWide_array Try.underlying24 hv
  rw [set_cells] at hs
  obtain ⟨c0, c1, c2, c3, rfl⟩ := Go.Joins.array4 hs
  obtain ⟨fuel, hf⟩ := h
  obtain ⟨y0, y1, y2, y3, n, hx, h0, h1, h2, h3⟩ := trod_array4 Try.underlying24 word_cells (by simpa [Value.cells] using hf)
  obtain ⟨a, e0, rfl, wa⟩ := DataW.trod_int Try.underlying22 h0
  obtain ⟨b, e1, rfl, wb⟩ := DataW.trod_int Try.underlying22 h1
  obtain ⟨c, e2, rfl, wc⟩ := DataW.trod_int Try.underlying22 h2
  obtain ⟨q, e3, rfl, wq⟩ := DataW.trod_int Try.underlying22 h3
  simp at e0 e1 e2 e3 hx
  subst e0 e1 e2 e3
  obtain ⟨rfl, rfl⟩ := hx
  obtain ⟨g0, g1, g2, g3⟩ := wd_of (word_wf wa) (word_wf wb) (word_wf wc) (word_wf wq)
  refine ⟨ofW a b c q, ?_, ?_, rfl⟩
  · rw [setV, ← g0, ← g1, ← g2, ← g3]
  · rw [← g0, ← g1, ← g2, ← g3]
end
end Go.Proofs.Ythppilfojicfdaa
