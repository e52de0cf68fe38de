/- Words for the parser's memory; the walks of its small methods. -/
import Derived.Test.YtddokdjlmdoebaaProg
import Derived.WalkKit
import Derived.WalkSpells
import Derived.WalkLawsBesides
import Derived.Handy
import Derived.Lib.Hide
import Derived.Deep.QuietTactic
import Derived.Test.YtddokdjlmdoebaaParP
import Derived.Test.YtddokdjlmdoebaaMAsa
import Derived.Test.YtddokdjlmdoebaaMMem
import Derived.Deep.RegionHeld3
import Derived.Deep.RegionWith
import Derived.Deep.RegionLaw
set_option linter.unusedVariables false
set_option linter.unusedSimpArgs false
namespace Go.Proofs.Ytddokdjlmdoebaa
open Go.RowKit SetP BrkP LexP AstP ParP
section
variable {w : World} {base n c g : Nat} {e : TypeId} {size : Nat} {xs : List Value}
/-- A row of one's own, with a cell set. -/
theorem row_poke (h : w.ownsRow base e size (.slice (some ⟨g, 0, none⟩) n c) n xs) (i : Nat) (u : Value) :
    (w.setCell ⟨g, i, none⟩ u).ownsRow base e size (.slice (some ⟨g, 0, none⟩) n c) n (xs.set i u) := by
  refine ⟨by rw [List.length_set]; exact h.1, ?_⟩
  rcases h.2 with ⟨hv, _⟩ | ⟨g', cap, cur, hv, hg, hh, hc, hx, hs, ht⟩
  · cases hv
  · cases hv
    refine .inr ⟨g, c, cur.setIfInBounds i u, rfl, hg, Slab.set hh i u, hc, hx, by simpa using hs, ?_⟩
    rw [Array.toList_setIfInBounds, ← ht, List.take_set]
theorem row_far {v : Value} (h : w.ownsRow base e size v n xs) {b : Nat} (hne : v.ownBlock ≠ some b) (i : Nat) (u : Value) : (w.setCell ⟨b, i, none⟩ u).ownsRow base e size v n xs := by
  refine ⟨h.1, ?_⟩
  rcases h.2 with ⟨rfl, rfl⟩ | ⟨g', cap, cur, rfl, hg, hh, hc, hx, hs, ht⟩
  · exact .inl ⟨rfl, rfl⟩
  · exact .inr ⟨g', cap, cur, rfl, hg, Slab.far hh (fun e => hne (by rw [← e]; rfl)) u, hc, hx, hs, ht⟩
end
/-- append(s, x) at a step of a region that draws: s a row of one's own, x in a block that is known whole. -/
theorem step_append_at {P : Program} {ops : Array Oper} {o : Oper} {a : Act} {w : World} {K : Act → World → Prop} {Q : Exit → Act → World → Prop} {E : Prop} (W W0 : World)
    (hg : o.guard = none) (s x : Operand) (t : TypeId) (hop : o.op = Op.call { callee := Callee.builtin Builtin.append, args := #[s, x], argTypes := #[t, t] })
    (base : Nat) (e : TypeId) (i : TypeInfo) (z : Value) (size bytes : Nat) (ht : P.underlying t = some (.slice e)) (hi : P.info? e = some i) (hz : i.zero = some z) (hsize : i.size = size) (hby : i.bytes = bytes) (hzs : z.cells.size = size) (hsz : 0 < size)
    (hh : w.heap = W.heap) (hb : Below base W0 w)
    (A : Option Addr) (n c : Nat) (xs : List Value) (hs : a.eval s = .slice A n c) (hown : W.ownsRow base e size (.slice A n c) n xs)
    (gx : Nat) (cs : Array Value) (hx : a.eval x = .slice (some ⟨gx, 0, none⟩) 1 1) (hnew : Slab W gx cs e) (hl : cs.size = size) (h1 : ∀ u ∈ cs.toList, u.oneCell' = true)
    (h63 : n + 1 ≤ maxLen) (hbytes : (n + 1) * bytes ≤ 140737488355328) (hbase : base ≤ w.heap.size)
    (hK : ∀ A' c' w', w'.ownsRow base e size (.slice A' (n + 1) c') (n + 1) (xs ++ cs.toList) → Below base W0 w' → Aside W w' (.slice A n c) (.slice A' (n + 1) c') → K (a.put o.dst (.slice A' (n + 1) c')) w') :
    if Region.wanted o (yielded ops a.tmps) = true then Oper.wp P o a w K Q else E := by
  have hw : Region.wanted o (yielded ops a.tmps) = true := by simp [Region.wanted, hg]
  rw [if_pos hw]
  have hown' : w.ownsRow base e size (.slice A n c) n xs := by unfold World.ownsRow at hown ⊢; rw [hh]; exact hown
  have hnew' : Slab w gx cs e := by unfold Slab at hnew ⊢; rw [hh]; exact hnew
  obtain ⟨v', w', hrun, r1, r2, _, r4⟩ := run_append_own_at (P := P) w base t o.type e i z size bytes ht hi hz hsize hby hzs hsz (.slice A n c) n xs hown' ⟨gx, 0, none⟩ 1 1 cs.toList (by simp [hl]) (fun j u hu => by
    have e1 : (⟨gx, 0, none⟩ : Addr).add j = ⟨gx, j, none⟩ := by unfold Addr.add; split <;> simp_all
    rw [e1, hnew'.cell, ← hu]; simp) h1 h63 hbytes hbase
  obtain ⟨A', c', rfl⟩ := row_shape r1
  unfold Oper.wp
  simp [execOp, hop, resolve, invoke, builtin, hs, hx, hrun, Result.andThen]
  refine hK A' c' w' r1 (hb.grown r2 hbase (fun k hk => (hown'.lt k hk).1)) fun k cs' t' hk hne => ?_
  have hk' : Slab w k cs' t' := by unfold Slab at hk ⊢; rw [hh]; exact hk
  refine ⟨hk'.grown r2 (fun e => hne e.symm), ?_⟩
  rcases r4 with e | e
  · rw [e]; exact hne
  · rw [e]
    have := hk'.lt
    simp; omega
/-- The levels' cells, the outmost level first. -/
def flatV : List (Nat × Nat) → List Value
  | [] => []
  | (p, r) :: v => flatV v ++ [.int .i64 (p : Int), .int .i64 (r : Int)]
theorem flatV_length (l : List (Nat × Nat)) : (flatV l).length = l.length * 2 := by
  induction l with
  | nil => rfl
  | cons x l ih => obtain ⟨p, r⟩ := x; rw [flatV, List.length_append, ih, List.length_cons]; simp; omega
theorem flatV_top (p r : Nat) (v : List (Nat × Nat)) : (flatV ((p, r) :: v))[v.length * 2]? = some (.int .i64 (p : Int)) ∧ (flatV ((p, r) :: v))[v.length * 2 + 1]? = some (.int .i64 (r : Int)) := by
  rw [flatV, List.getElem?_append_right (by rw [flatV_length]; omega), List.getElem?_append_right (by rw [flatV_length]; omega), flatV_length]
  rw [show v.length * 2 - v.length * 2 = 0 by omega, show v.length * 2 + 1 - v.length * 2 = 1 by omega]
  exact ⟨rfl, rfl⟩
theorem flatV_set0 (p r p' : Nat) (v : List (Nat × Nat)) : (flatV ((p, r) :: v)).set (v.length * 2) (.int .i64 (p' : Int)) = flatV ((p', r) :: v) := by
  rw [flatV, flatV, ← flatV_length, List.set_append_right _ _ (Nat.le_refl _), Nat.sub_self]; rfl
theorem flatV_set1 (p r r' : Nat) (v : List (Nat × Nat)) : (flatV ((p, r) :: v)).set (v.length * 2 + 1) (.int .i64 (r' : Int)) = flatV ((p, r') :: v) := by
  rw [flatV, flatV, ← flatV_length, List.set_append_right _ _ (Nat.le_add_right _ _), Nat.add_sub_cancel_left]; rfl
theorem flatV_cut (x : Nat × Nat) (v : List (Nat × Nat)) : (flatV (x :: v)).take (v.length * 2) = flatV v := by
  obtain ⟨p, r⟩ := x
  rw [flatV, ← flatV_length, List.take_left]
def flatD (L : List Nd) : List Value := L.flatMap fun x => (ndCells x).toList
theorem flatD_snoc (L : List Nd) (x : Nd) : flatD (L ++ [x]) = flatD L ++ (ndCells x).toList := by unfold flatD; rw [List.flatMap_append]; simp
def ndZero7 : Value := .agg #[.int .i64 0, .int .i64 0, .int .i64 0, .int .i64 0, .int .u64 0, .int .u64 0, .int .u64 0, .int .u64 0]
set_option maxRecDepth 100000 in
theorem info_node7 : (Try.prog.info? 43).map (fun i => (i.zero, i.size, i.bytes)) = some (some ndZero7, 8, 64) := by kernel_rfl
set_option maxRecDepth 100000 in
theorem info_level : (Try.prog.info? 144).map (fun i => (i.zero, i.size, i.bytes)) = some (some (.agg #[.int .i64 0, .int .i64 0]), 2, 16) := by kernel_rfl
/-- The reader's own cells. -/
abbrev prCells (s : ByteArray) (a : Nat) (x : PS) (Ao : Option Addr) (co gl cl : Nat) : Array Value :=
  #[.string s, .int .i64 (a : Int), .slice Ao x.out.length co, .slice (some ⟨gl, 0, none⟩) x.lv.length cl, .int .i64 (x.groups : Int)]
/-- The reader, its nodes and its levels, in memory. -/
structure RAt (w : World) (B g : Nat) (s : ByteArray) (a : Nat) (x : PS) (Ao : Option Addr) (co gl cl : Nat) : Prop where
  slab : Slab w g (prCells s a x Ao co gl cl) 102
  out : w.ownsRow B 43 8 (.slice Ao x.out.length co) x.out.length (flatD x.out)
  lv : w.ownsRow B 144 2 (.slice (some ⟨gl, 0, none⟩) x.lv.length cl) x.lv.length (flatV x.lv)
  ap : Apart (.slice Ao x.out.length co) (.slice (some ⟨gl, 0, none⟩) x.lv.length cl)
  n1 : (Value.slice Ao x.out.length co).ownBlock ≠ some g
  n2 : gl ≠ g
  hB : B ≤ g
theorem RAt.keep {w w' : World} {B g : Nat} {s : ByteArray} {a : Nat} {x : PS} {Ao : Option Addr} {co gl cl : Nat} (h : RAt w B g s a x Ao co gl cl) (hb : Below w.heap.size w w') : RAt w' B g s a x Ao co gl cl :=
  ⟨h.slab.call hb, row_call h.out hb, row_call h.lv hb, h.ap, h.n1, h.n2, h.hB⟩
theorem RAt.le {w : World} {B g : Nat} {s : ByteArray} {a : Nat} {x : PS} {Ao : Option Addr} {co gl cl : Nat} (h : RAt w B g s a x Ao co gl cl) : B ≤ w.heap.size := Nat.le_trans h.hB (Nat.le_of_lt h.slab.lt)
theorem RAt.cap {w : World} {B g : Nat} {s : ByteArray} {a : Nat} {x : PS} {Ao : Option Addr} {co gl cl : Nat} (h : RAt w B g s a x Ao co gl cl) : x.lv.length ≤ cl ∧ B ≤ gl ∧ gl < w.heap.size ∧ ∀ j, j < x.lv.length * 2 → w.cell? ⟨gl, j, none⟩ = (flatV x.lv)[j]? := by
  obtain ⟨cur, h1, h2, h3, h4, h5⟩ := row_slab h.lv
  refine ⟨h5, h3, h1.lt, fun j hj => ?_⟩
  rw [h1.cell, ← h2, List.getElem?_take_of_lt hj]; simp
abbrev pp (g : Nat) : Value := .pointer (some ⟨g, 0, none⟩)
abbrev rat (w : World) (B g : Nat) (s : ByteArray) (a : Nat) (x : PS) : Prop := ∃ Ao co gl cl, RAt w B g s a x Ao co gl cl
set_option maxRecDepth 100000 in
set_option maxHeartbeats 2000000 in
theorem left_any {B g : Nat} {s : ByteArray} {a : Nat} {x : PS} {Ao : Option Addr} {co gl cl : Nat} {w : World} (h : RAt w B g s a x Ao co gl cl) (hs : s.size ≤ 1000000) (ha : a ≤ 1000000) : Calls Try.prog 105 #[pp g] w fun e w' => e = .returned (.bool (decide (a < s.size))) ∧ Below w.heap.size w w' := by
  obtain ⟨c0, f0⟩ := h.slab.facts
  clear h
  have e : decide ((a : Int) < (s.size : Int)) = decide (a < s.size) := by rw [Bool.eq_iff_iff]; simp
  cases hd : decide (a < s.size)
  all_goals
    rw [hd] at e
    go_enter Try.func105, Try.ntmps105
    go_wp2_with fail
    go_quiet (fail)
    go_wp2
    go_ret
    exact ⟨rfl, below_drewN (Below.refl _ _) _⟩
set_option maxRecDepth 100000 in
set_option maxHeartbeats 2000000 in
theorem top_any {B g : Nat} {s : ByteArray} {a : Nat} {x : PS} {Ao : Option Addr} {co gl cl : Nat} {w : World} (h : RAt w B g s a x Ao co gl cl) (p r : Nat) (v : List (Nat × Nat)) (hv : x.lv = (p, r) :: v) (hl : v.length ≤ 1000000) :
    Calls Try.prog 110 #[pp g] w fun e w' => e = .returned (.pointer (some ⟨gl, v.length * 2, none⟩)) ∧ Below w.heap.size w w' := by
  obtain ⟨c0, f0⟩ := h.slab.facts
  have hlen : x.lv.length = v.length + 1 := by rw [hv]; rfl
  unfold prCells at c0
  rw [hlen] at c0
  clear h hv hlen
  go_enter Try.func110, Try.ntmps110
  go_wp2_with fail
  go_quiet (fail)
  go_wp2
  go_ret
  exact ⟨rfl, below_drewN (Below.refl _ _) _⟩
section
variable {w : World} {B g : Nat} {s : ByteArray} {a : Nat} {o : List Nd} {p r : Nat} {v : List (Nat × Nat)} {G : Nat} {Ao : Option Addr} {co gl cl : Nat}
theorem RAt.out_ne {x : PS} (h : RAt w B g s a x Ao co gl cl) : (Value.slice Ao x.out.length co).ownBlock ≠ some gl := fun e => h.ap gl e rfl
/-- The inmost row has so many pieces. -/
theorem RAt.poke0 (h : RAt w B g s a ⟨o, (p, r) :: v, G⟩ Ao co gl cl) (p' : Nat) : RAt (w.setCell ⟨gl, v.length * 2, none⟩ (.int .i64 (p' : Int))) B g s a ⟨o, (p', r) :: v, G⟩ Ao co gl cl :=
  ⟨h.slab.far (fun e => h.n2 e.symm) _, row_far h.out h.out_ne _ _, by have := row_poke h.lv (v.length * 2) (.int .i64 (p' : Int)); rw [flatV_set0] at this; exact this, h.ap, h.n1, h.n2, h.hB⟩
/-- So many rows ended. -/
theorem RAt.poke1 (h : RAt w B g s a ⟨o, (p, r) :: v, G⟩ Ao co gl cl) (r' : Nat) : RAt (w.setCell ⟨gl, v.length * 2 + 1, none⟩ (.int .i64 (r' : Int))) B g s a ⟨o, (p, r') :: v, G⟩ Ao co gl cl :=
  ⟨h.slab.far (fun e => h.n2 e.symm) _, row_far h.out h.out_ne _ _, by have := row_poke h.lv (v.length * 2 + 1) (.int .i64 (r' : Int)); rw [flatV_set1] at this; exact this, h.ap, h.n1, h.n2, h.hB⟩
/-- The inmost level is gone. -/
theorem RAt.cut (h : RAt w B g s a ⟨o, (p, r) :: v, G⟩ Ao co gl cl) : RAt (w.setCell ⟨g, 3, none⟩ (.slice (some ⟨gl, 0, none⟩) v.length cl)) B g s a ⟨o, v, G⟩ Ao co gl cl := by
  refine ⟨h.slab.set 3 _, row_far h.out h.n1 _ _, ?_, fun k hk => h.ap k hk, h.n1, h.n2, h.hB⟩
  have h1 := row_cut h.lv (m := v.length) (by simp)
  rw [flatV_cut] at h1
  exact row_far h1 (fun e => h.n2 (by injection e)) _ _
/-- The text was read so far. -/
theorem RAt.goto {x : PS} (h : RAt w B g s a x Ao co gl cl) (a' : Nat) : RAt (w.setCell ⟨g, 1, none⟩ (.int .i64 (a' : Int))) B g s a' x Ao co gl cl :=
  ⟨h.slab.set 1 _, row_far h.out h.n1 _ _, row_far h.lv (fun e => h.n2 (by injection e)) _ _, h.ap, h.n1, h.n2, h.hB⟩
theorem RAt.many {x : PS} (h : RAt w B g s a x Ao co gl cl) (G' : Nat) : RAt (w.setCell ⟨g, 4, none⟩ (.int .i64 (G' : Int))) B g s a ⟨x.out, x.lv, G'⟩ Ao co gl cl :=
  ⟨h.slab.set 4 _, row_far h.out h.n1 _ _, row_far h.lv (fun e => h.n2 (by injection e)) _ _, h.ap, h.n1, h.n2, h.hB⟩
theorem RAt.tops (h : RAt w B g s a ⟨o, (p, r) :: v, G⟩ Ao co gl cl) : w.cell? ⟨gl, v.length * 2, none⟩ = some (.int .i64 (p : Int)) ∧ w.cell? ⟨gl, v.length * 2 + 1, none⟩ = some (.int .i64 (r : Int)) ∧ w.frozen? ⟨gl, v.length * 2, none⟩ = false ∧ w.frozen? ⟨gl, v.length * 2 + 1, none⟩ = false := by
  obtain ⟨_, _, _, h4⟩ := h.cap
  obtain ⟨cur, h1, _⟩ := row_slab h.lv
  have ht := flatV_top p r v
  refine ⟨by rw [h4 _ (by show _ < (v.length + 1) * 2; omega)]; exact ht.1, by rw [h4 _ (by show _ < (v.length + 1) * 2; omega)]; exact ht.2, h1.frozen _, h1.frozen _⟩
end
theorem RAt.more {w w5 : World} {B g : Nat} {s : ByteArray} {a : Nat} {x : PS} {Ao A5 : Option Addr} {co gl cl q5 : Nat} {nd : Nd} (h : RAt w B g s a x Ao co gl cl) (o5 : Slab w5 g (prCells s a x Ao co gl cl) 102)
    (hown : w5.ownsRow B 43 8 (.slice A5 (x.out.length + 1) q5) (x.out.length + 1) (flatD x.out ++ (ndCells nd).toList)) (lv : w5.ownsRow B 144 2 (.slice (some ⟨gl, 0, none⟩) x.lv.length cl) x.lv.length (flatV x.lv))
    (ap : Apart (.slice A5 (x.out.length + 1) q5) (.slice (some ⟨gl, 0, none⟩) x.lv.length cl)) (hx : (Value.slice A5 (x.out.length + 1) q5).ownBlock ≠ some g) :
    RAt (w5.setCell ⟨g, 2, none⟩ (.slice A5 (x.out.length + 1) q5)) B g s a (putN nd x) A5 q5 gl cl := by
  have e : (putN nd x).out.length = x.out.length + 1 := by simp [putN]
  refine ⟨?_, ?_, row_far lv (fun e => h.n2 (by injection e)) _ _, ?_, ?_, h.n2, h.hB⟩
  · unfold prCells; rw [e]; exact o5.set 2 _
  · rw [e, show (putN nd x).out = x.out ++ [nd] from rfl, flatD_snoc]; exact row_far hown hx _ _
  · rw [e]; exact ap
  · rw [e]; exact hx
/-- A node more, the levels where they were. -/
abbrev put1 (B g : Nat) (s : ByteArray) (a : Nat) (x : PS) (gl cl : Nat) (w : World) (e : Ending) (w' : World) : Prop := e = .returned (.tuple #[]) ∧ Below B w w' ∧ ∃ Ao co, RAt w' B g s a x Ao co gl cl
set_option maxRecDepth 100000 in
set_option maxHeartbeats 2000000 in
theorem put_any (nd : Nd) (cs : Array Value) (hcs : ndCells nd = cs) {B g : Nat} {s : ByteArray} {a : Nat} {x : PS} {Ao : Option Addr} {co gl cl : Nat} {w : World} (h : RAt w B g s a x Ao co gl cl) (hn : x.out.length ≤ 10000000) :
    Calls Try.prog 111 #[pp g, .agg cs] w (put1 B g s a (putN nd x) gl cl w) := by
  obtain ⟨i0, hi, hz0, hz1, hz2⟩ := info_parts info_node7
  have HI := Lib.hid hi; clear hi
  have HZ0 := Lib.hid hz0; clear hz0
  have HZ1 := Lib.hid hz1; clear hz1
  have HZ2 := Lib.hid hz2; clear hz2
  subst hcs
  have h0 := h.keep ((Below.refl w.heap.size w).alloc (Nat.le_refl _) (.cells (ndCells nd) 43))
  have hle := h.le
  have HB0 := Lib.hid ((Below.refl B w).alloc h.le (.cells (ndCells nd) 43))
  have hsz : B ≤ (w.alloc (.cells (ndCells nd) 43)).heap.size := by simp; omega
  have p0 : Slab (w.alloc (.cells (ndCells nd) 43)) w.heap.size (ndCells nd) 43 := Slab.new _ _ _
  have H0 := Lib.hid h0
  have hown := h0.out
  obtain ⟨c0, f0⟩ := h0.slab.facts
  obtain ⟨c1, f1⟩ := p0.facts
  clear h0 h p0
  unfold prCells at c0
  go_enter Try.func111, Try.ntmps111
  go_wp2_with fail
  have p2 : Slab ((w.alloc (.cells (ndCells nd) 43)).alloc (.cells (ndCells nd) 43)) (w.heap.size + 1) (ndCells nd) 43 := Slab.newAt _ _ _ (by simp)
  have H1 := Lib.hid (H0.out.keep ((Below.refl _ _).alloc (Nat.le_refl _) (.cells (ndCells nd) 43)))
  obtain ⟨c2, f2⟩ := H1.out.slab.facts
  unfold prCells at c2
  go_region_law (refine step_append_at ((w.alloc (.cells (ndCells nd) 43)).alloc (.cells (ndCells nd) 43)) w rfl (.tmp 8) (.tmp 10) 22 rfl B 43 i0 _ _ _ Try.underlying22 HI.out HZ0.out HZ1.out HZ2.out rfl (by decide) rfl (by have hb := HB0.out; (repeat' (first | (with_reducible exact Below.refl _ _) | (with_reducible assumption) | (with_reducible refine Below.alloc ?_ ?_ _) | (with_reducible refine Below.drew ?_) | (with_reducible refine below_set ?_ ?_ _) | (with_reducible refine below_call ?_ ?_ (by assumption)) | (with_reducible exact Below.size (by assumption)) | omega | go_size))) _ _ _ _ (by simp [Act.eval, Act.put]) H1.out.out (w.heap.size + 1) (ndCells nd) (by simp [Act.eval, Act.put]) p2 rfl (by simp [Value.oneCell']) (by unfold maxLen; omega) (by omega) (by first | omega | (simp; omega)) ?_; intro A5 q5 w5 hown5 hbl5 has5; obtain ⟨o5, hx5⟩ := has5 _ _ _ H1.out.slab H1.out.n1; obtain ⟨lv5, ap5⟩ := row_aside H1.out.lv has5 H1.out.ap; obtain ⟨c5, f5⟩ := o5.facts; unfold prCells at c5; have HB5 := Lib.hid hbl5; clear hbl5 has5)
  all_goals
    first | go_end0 | refine bodyPost_ret (results_none rfl _ _ _) rfl ?_
    refine ⟨rfl, below_set HB5.out H0.out.hB _, A5, q5, H1.out.more o5 hown5 lv5 ap5 hx5⟩
end Go.Proofs.Ytddokdjlmdoebaa
