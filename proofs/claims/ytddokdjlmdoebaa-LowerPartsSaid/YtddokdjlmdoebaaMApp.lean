/- Lists of nodes, put one behind the other: what the walks of the laws want. -/
import Derived.Test.YtddokdjlmdoebaaProg
import Derived.WalkKit
import Derived.WalkSpells
import Derived.WalkLawsBesides
import Derived.Handy
import Derived.Lib.Hide
import Derived.Test.YtddokdjlmdoebaaLaw7
import Derived.Test.YtddokdjlmdoebaaAstO
import Derived.Test.YtddokdjlmdoebaaMAsi
import Derived.Test.YtddokdjlmdoebaaMMem
set_option linter.unusedVariables false
set_option linter.unusedSimpArgs false
namespace Go.Proofs.Ytddokdjlmdoebaa
open Go.RowKit SetP AstP
theorem flatD_cell (L : List Nd) : ∀ u ∈ flatD L, u.oneCell' = true := by
  intro u hu
  unfold flatD at hu
  obtain ⟨x, _, hx⟩ := List.mem_flatMap.1 hu
  simp at hx
  rcases hx with rfl | rfl | rfl | rfl | rfl | rfl | rfl | rfl <;> rfl
theorem NodesAt.cells7 {w : World} {B b off : Nat} {L : List Nd} (h : NodesAt w B (some ⟨b, off, none⟩) L) : ∀ j u, (flatD L)[j]? = some u → w.cell? ((⟨b, off, none⟩ : Addr).add j) = some u := by
  intro j u hu
  have hj : j < L.length * 8 := by rw [← flatD_length7]; exact (List.getElem?_eq_some_iff.1 hu).1
  rcases h.2 with h0 | ⟨b', off', e, _, hc⟩
  · omega
  · cases e
    have h1 := hc (j / 8) (by omega) (j % 8) (by omega)
    have h2 := flatD_get L (j / 8) (j % 8) (by omega) (by omega)
    have e : j / 8 * 8 + j % 8 = j := by omega
    rw [e] at h2
    rw [Addr.add_lit, show off + j = off + j / 8 * 8 + j % 8 by omega, h1, ← h2]
    exact hu
theorem flatD_append (L M : List Nd) : flatD (L ++ M) = flatD L ++ flatD M := by unfold flatD; rw [List.flatMap_append]
theorem flatD_group : flatD [ndGroup] = (#[.int .i64 3, .int .i64 1, .int .i64 0, .int .i64 0, .int .u64 0, .int .u64 0, .int .u64 0, .int .u64 0] : Array Value).toList := by
  simp [flatD, ndGroup, ndCells, wd_zero]
theorem flatD_alt : flatD [ndAlt] = (#[.int .i64 6, .int .i64 2, .int .i64 0, .int .i64 0, .int .u64 0, .int .u64 0, .int .u64 0, .int .u64 0] : Array Value).toList := by
  simp [flatD, ndAlt, ndCells, wd_zero]
/-- A slice that is made empty. -/
theorem row_none (W : World) : (W.alloc (.cells #[] 43)).ownsRow W.heap.size 43 8 (.slice (some ⟨W.heap.size, 0, none⟩) 0 0) 0 [] := row_lit (Slab.new _ _ _) (Nat.le_refl _) rfl (by unfold maxLen; omega)
end Go.Proofs.Ytddokdjlmdoebaa

/- Appending, behind a guard. -/
namespace Go.Proofs.Ytddokdjlmdoebaa
open Go.RowKit
/-- As wpList_append_own, behind a guard that lets the operation be. -/
theorem wpList_append_own_w {P : Program} (w : World) {ops : Array Oper} {rest : List Oper} {o : Oper} {a : Act} {Q : Exit → Act → World → Prop} (hw : Region.wanted o (yielded ops a.tmps) = true) (s x : Operand) (t : TypeId)
    (ho : o.op = .call { callee := .builtin .append, args := #[s, x], argTypes := #[t, t] })
    (base : Nat) (e : TypeId) (i : TypeInfo) (z : Value) (size bytes : Nat) (ht : P.underlying t = some (.slice e)) (hi : P.info? e = some i) (hz : i.zero = some z)
    (hsize : i.size = size) (hby : i.bytes = bytes) (hzs : z.cells.size = size) (hsz : 0 < size)
    (v : Value) (n : Nat) (xs : List Value) (hs : a.eval s = v) (hown : w.ownsRow base e size v n xs)
    (ad : Addr) (m c : Nat) (news : List Value) (hx : a.eval x = .slice (some ad) m c) (hl : news.length = m * size) (hnews : ∀ j u, news[j]? = some u → w.cell? (ad.add j) = some u) (h1 : ∀ u ∈ news, u.oneCell' = true)
    (h63 : n + m ≤ maxLen) (hbytes : (n + m) * bytes ≤ 140737488355328) (hbase : base ≤ w.heap.size)
    (h : ∀ v' w', w'.ownsRow base e size v' (n + m) (xs ++ news) → w.grownBy w' v.ownBlock → (v' = .slice none 0 0 ↔ v = .slice none 0 0 ∧ m = 0) → wpList P ops Q rest (a.put o.dst v') w') : wpList P ops Q (o :: rest) a w := by
  unfold wpList
  rw [if_pos hw]
  exact .inl (wp_append_own w s x t ho base e i z size bytes ht hi hz hsize hby hzs hsz v n xs hs hown ad m c news hx hl hnews h1 h63 hbytes hbase h)
theorem wpList_append_elem_w {P : Program} (W : World) {ops : Array Oper} {rest : List Oper} {o : Oper} {a : Act} {Q : Exit → Act → World → Prop} (hw : Region.wanted o (yielded ops a.tmps) = true) (s x : Operand) (t : TypeId)
    (ho : o.op = .call { callee := .builtin .append, args := #[s, x], argTypes := #[t, t] })
    (base : Nat) (e : TypeId) (i : TypeInfo) (z : Value) (size bytes : Nat) (ht : P.underlying t = some (.slice e)) (hi : P.info? e = some i) (hz : i.zero = some z)
    (hsize : i.size = size) (hby : i.bytes = bytes) (hzs : z.cells.size = size) (hsz : 0 < size)
    (A : Option Addr) (n c : Nat) (xs : List Value) (hs : a.eval s = .slice A n c) (hown : W.ownsRow base e size (.slice A n c) n xs)
    (cs : Array Value) (g : Nat) (hx : a.eval x = .slice (some ⟨g, 0, none⟩) 1 1) (hg : g = W.heap.size) (hl : cs.size = size) (h1 : ∀ u ∈ cs.toList, u.oneCell' = true)
    (h63 : n + 1 ≤ maxLen) (hbytes : (n + 1) * bytes ≤ 140737488355328) (hbase : base ≤ W.heap.size)
    (h : ∀ A' c' w', w'.ownsRow base e size (.slice A' (n + 1) c') (n + 1) (xs ++ cs.toList) → Below base W w' → wpList P ops Q rest (a.put o.dst (.slice A' (n + 1) c')) w') :
    wpList P ops Q (o :: rest) a (W.alloc (.cells cs e)) := by
  subst hg
  refine wpList_append_own_w _ hw s x t ho base e i z size bytes ht hi hz hsize hby hzs hsz _ n xs hs (hown.alloc _) ⟨W.heap.size, 0, none⟩ 1 1 cs.toList hx (by simp [hl]) ?_ h1 h63 hbytes (by simp; omega) ?_
  · intro j u hu
    have e1 : (⟨W.heap.size, 0, none⟩ : Addr).add j = ⟨W.heap.size, j, none⟩ := by unfold Addr.add; split <;> simp_all
    rw [e1, World.cell?_alloc_new, ← hu]
    simp
  · intro v' w' hown' hgr _
    obtain ⟨A', c', rfl⟩ := row_shape hown'
    refine h A' c' w' hown' ?_
    have h0 : Below base W (W.alloc (.cells cs e)) := (Below.refl _ _).alloc hbase _
    exact h0.grown hgr (by simp; omega) (fun k hk => (hown.lt k hk).1)
end Go.Proofs.Ytddokdjlmdoebaa
