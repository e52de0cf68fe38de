/- A list of nodes that comes in, opened. -/
import Derived.Test.YtddokdjlmdoebaaProg
import Derived.Test.YtddokdjlmdoebaaMAsa
import Derived.ProofKit
import Derived.Laws.IdiomArrays
import Derived.Lib.SmallJoins
import Derived.Deep.SlicePairs
import Derived.OpenShut
set_option linter.unusedVariables false
set_option linter.unusedSimpArgs false
namespace Go.Proofs.Ytddokdjlmdoebaa
open Go.ChangeShapes Go.WideShapes Go.ChangeAt Go.RowKit SetP AstP
theorem word_wf {x : Int} (h : (Lit.int .u64 x).wf = true) : 0 ≤ x ∧ x < 18446744073709551616 := by
  simp [Lit.wf, IntKind.min, IntKind.max, IntKind.signed, IntKind.bits] at h
  exact ⟨by omega, by omega⟩
set_option maxRecDepth 100000 in
theorem node_cells : Try.prog.cellsOf 43 = 8 := by kernel_rfl
set_option maxRecDepth 100000 in
theorem word_cells : Try.prog.cellsOf 39 = 1 := by kernel_rfl
set_option maxRecDepth 100000 in
theorem int_cells : Try.prog.cellsOf 3 = 1 := by kernel_rfl
set_option maxRecDepth 100000 in
theorem set_cells : Try.prog.cellsOf 41 = 4 := by kernel_rfl
section
variable {H : Type} {enc : TypeId × Value → H} {w : World} {base : Nat} {spare : Nat → Bool} {held : Bool}
set_option maxRecDepth 100000 in
theorem node_open {n : Nat} {cs : List Value} {y : DataW H × List MemPlace} (hl : cs.length = 8) (h : DataW.trod enc Try.prog w base spare held n 43 cs = some y) : ∃ x : Nd, cs = (ndCells x).toList := by
  obtain ⟨xs, k, _, _, _, hxl, hf⟩ := DataW.trod_struct Try.underlying43 h
  match cs, hl with
  | [v0, v1, v2, v3, v4, v5, v6, v7], _ =>
    have hx5 : xs.length = 5 := hxl
    match xs, hx5 with
    | [y0, y1, y2, y3, y4], _ =>
      have g0 : DataW.trod enc Try.prog w base spare held k 3 [v0] = some y0 := by have h := hf 0 _ rfl; simpa [int_cells] using h
      have g1 : DataW.trod enc Try.prog w base spare held k 3 [v1] = some y1 := by have h := hf 1 _ rfl; simpa [int_cells] using h
      have g2 : DataW.trod enc Try.prog w base spare held k 3 [v2] = some y2 := by have h := hf 2 _ rfl; simpa [int_cells] using h
      have g3 : DataW.trod enc Try.prog w base spare held k 3 [v3] = some y3 := by have h := hf 3 _ rfl; simpa [int_cells] using h
      have g4 : DataW.trod enc Try.prog w base spare held k 41 [v4, v5, v6, v7] = some y4 := by have h := hf 4 _ rfl; simpa [set_cells] using h
      obtain ⟨a0, e0, _, _⟩ := DataW.trod_int Try.underlying3 g0
      obtain ⟨a1, e1, _, _⟩ := DataW.trod_int Try.underlying3 g1
      obtain ⟨a2, e2, _, _⟩ := DataW.trod_int Try.underlying3 g2
      obtain ⟨a3, e3, _, _⟩ := DataW.trod_int Try.underlying3 g3
      obtain ⟨z0, z1, z2, z3, n', _, h0, h1, h2, h3⟩ := trod_array4 Try.underlying41 word_cells g4
      obtain ⟨a, e4, _, wa⟩ := DataW.trod_int Try.underlying39 h0
      obtain ⟨b, e5, _, wb⟩ := DataW.trod_int Try.underlying39 h1
      obtain ⟨c, e6, _, wc⟩ := DataW.trod_int Try.underlying39 h2
      obtain ⟨q, e7, _, wq⟩ := DataW.trod_int Try.underlying39 h3
      simp at e0 e1 e2 e3 e4 e5 e6 e7
      subst e0 e1 e2 e3 e4 e5 e6 e7
      obtain ⟨g0, g1, g2, g3⟩ := wd_of (word_wf wa) (word_wf wb) (word_wf wc) (word_wf wq)
      exact ⟨⟨a0, a1, a2, a3, ofW a b c q⟩, by
        show _ = [Value.int .i64 a0, .int .i64 a1, .int .i64 a2, .int .i64 a3, .int .u64 (wd (ofW a b c q) 0), .int .u64 (wd (ofW a b c q) 1), .int .u64 (wd (ofW a b c q) 2), .int .u64 (wd (ofW a b c q) 3)]
        rw [← g0, ← g1, ← g2, ← g3]⟩
set_option maxRecDepth 100000 in
/-- A list of nodes that came in. -/
theorem nodes_came {r : Reach} {b0 : Nat} {fuel : Nat} {v : Value} {x : DataW H × List MemPlace} (hv : Value.okWide Try.prog w r b0 22 v) (h : DataW.trod enc Try.prog w 0 (fun _ => true) true fuel 22 v.cells.toList = some x) :
    ∃ A n c, v = .slice A n c ∧ n ≤ 9223372036854775807 ∧ ∀ (_ : n ≤ 60), ∃ L : List Nd, L.length = n ∧ NodesAt w w.heap.size A L := by
  obtain ⟨a0, len0, cap0, rfl⟩ := okWide_slice Try.underlying22 hv
  have hcells : (Value.slice a0 len0 cap0).cells.toList = [.slice a0 len0 cap0] := rfl
  rw [hcells] at h
  rcases Go.Deep.open_slice Try.underlying22 h with ⟨hcs, _⟩ | ⟨a, len, cap, m, n, D, Pl, hcs, _, hlc, hcm, hmm, _, hx⟩
  · simp only [List.cons.injEq, and_true] at hcs
    exact ⟨none, 0, 0, hcs, by omega, fun _ => ⟨[], rfl, by simp, .inl rfl⟩⟩
  · simp only [List.cons.injEq, and_true] at hcs
    refine ⟨some a, len, cap, hcs, by unfold maxLen at hcm; omega, fun h60 => ?_⟩
    have hmm' : m = cap := hmm
    have each : ∀ i, i < len → ∃ x : Nd, ∀ f, f < 8 → w.cell? ((a.add (i * 8)).add f) = (ndCells x)[f]? := by
      intro i hi
      obtain ⟨cs', h1, h2⟩ := hx i (by omega)
      rw [node_cells] at h1
      obtain ⟨_, hl, hc⟩ := World.cells?_some h1
      obtain ⟨x, rfl⟩ := node_open hl h2
      exact ⟨x, fun f hf => by rw [hc f hf, Array.getElem?_toList]⟩
    have : Inhabited Nd := ⟨ndEmpty⟩
    obtain ⟨q, hq⟩ := Go.Deep.choose_lt each
    refine ⟨(List.range len).map q, by simp, by simp; omega, ?_⟩
    rcases Nat.eq_zero_or_pos len with h0 | h0
    · exact .inl (by simpa using h0)
    · obtain ⟨b, off, spot⟩ := a
      have hc0 := hq 0 h0 0 (by omega)
      have hspot : spot = none := by
        cases spot with
        | none => rfl
        | some s =>
          exfalso
          have := World.cell?_spot (show w.cell? _ = some (.int .i64 (q 0).kind) from hc0)
          simp [Addr.add] at this
      subst hspot
      have hc0' : w.cell? ⟨b, off, none⟩ = some (.int .i64 (q 0).kind) := by simpa [Addr.add] using hc0
      refine .inr ⟨b, off, rfl, block_lt_of_cell hc0', fun j hj f hf => ?_⟩
      have hj' : j < len := by simpa using hj
      have := hq j hj' f hf
      have e : ((⟨b, off, none⟩ : Addr).add (j * 8)).add f = ⟨b, off + j * 8 + f, none⟩ := by rw [Addr.add_lit, Addr.add_lit]
      rw [e] at this
      rw [this, List.getD_eq_getElem?_getD, List.getElem?_eq_getElem (by simpa using hj')]
      simp
end
end Go.Proofs.Ytddokdjlmdoebaa
