/- Words for memory: a block that is known whole; what a call leaves as it was; a slice that reads as a list. No program is in sight. -/
import Derived.WalkKit
import Derived.WalkSpells
import Derived.Handy
import Derived.Lib.Hide
import Derived.Deep.Draws
import Derived.OwnWalk
namespace Go.Proofs.Ytgkfdjfoakbibaa
open Go.RowKit

theorem bcell {W w1 : World} (hb : Below W.heap.size W w1) : (∀ b o, b < W.heap.size → w1.cell? ⟨b, o, none⟩ = W.cell? ⟨b, o, none⟩) ∧ (∀ b o, b < W.heap.size → w1.frozen? ⟨b, o, none⟩ = W.frozen? ⟨b, o, none⟩) :=
  ⟨fun b o h => hb.cell (p := ⟨b, o, none⟩) h, fun b o h => hb.frozen (p := ⟨b, o, none⟩) h⟩

theorem below_call {B : Nat} {a W w1 : World} (h : Below B a W) (hB : B ≤ W.heap.size) (hb : Below W.heap.size W w1) : Below B a w1 := h.trans (hb.mono hB)
theorem below_set {B : Nat} {a w : World} (h : Below B a w) {b i : Nat} (hp : B ≤ b) (u : Value) : Below B a (w.setCell ⟨b, i, none⟩ u) := h.setCell (p := ⟨b, i, none⟩) hp u
theorem below_drewN {B : Nat} {a w : World} (h : Below B a w) (n : Nat) : Below B a (w.drewN n) := ⟨h.os, h.tape, h.output, h.size, h.block⟩

theorem below_grown {W W' : World} (h : Below W.heap.size W W') (row : Option Nat) : W.grownBy W' row := ⟨h.os, h.tape, h.output, h.size, fun k hk _ => h.block k hk⟩
theorem ret_v {a b : Value} (h : a = b) : Ending.returned a = .returned b := by rw [h]

/-- Block g is just the cells cs, of the element type t, none of them frozen. -/
def Slab (w : World) (g : Nat) (cs : Array Value) (t : TypeId) : Prop := w.heap[g]? = some (.cells cs t (0, 0))
section
variable {w w' : World} {g : Nat} {cs : Array Value} {t : TypeId}
theorem Slab.lt (h : Slab w g cs t) : g < w.heap.size := (Array.getElem?_eq_some_iff.1 h).1
theorem Slab.cell (h : Slab w g cs t) (i : Nat) : w.cell? ⟨g, i, none⟩ = cs[i]? := by
  unfold Slab at h
  simp [World.cell?, h]
theorem Slab.frozen (h : Slab w g cs t) (i : Nat) : w.frozen? ⟨g, i, none⟩ = false := by
  unfold Slab at h
  simp [World.frozen?, h]
theorem Slab.new (w : World) (cs : Array Value) (t : TypeId) : Slab (w.alloc (.cells cs t)) w.heap.size cs t := by
  unfold Slab
  show (w.heap.push _)[w.heap.size]? = _
  simp
theorem Slab.newAt (w : World) (cs : Array Value) (t : TypeId) {g : Nat} (hg : g = w.heap.size) : Slab (w.alloc (.cells cs t)) g cs t := hg ▸ Slab.new w cs t
theorem Slab.alloc (h : Slab w g cs t) (o : Obj) : Slab (w.alloc o) g cs t := (Below.heap_alloc w o g h.lt).trans h
theorem Slab.drew (h : Slab w g cs t) : Slab w.drew g cs t := h
theorem Slab.drewN (h : Slab w g cs t) (n : Nat) : Slab (w.drewN n) g cs t := h
theorem Slab.set (h : Slab w g cs t) (i : Nat) (u : Value) : Slab (w.setCell ⟨g, i, none⟩ u) g (cs.setIfInBounds i u) t := by
  unfold Slab at h ⊢
  simp [World.setCell, Array.getElem?_modify, h]
theorem Slab.far (h : Slab w g cs t) {b i : Nat} (hp : g ≠ b) (u : Value) : Slab (w.setCell ⟨b, i, none⟩ u) g cs t := (Below.heap_setCell w ⟨b, i, none⟩ u g hp).trans h
theorem Slab.below {B : Nat} (h : Slab w g cs t) (hb : Below B w w') (hg : g < B) : Slab w' g cs t := (hb.block g hg).trans h
theorem Slab.call (h : Slab w g cs t) (hb : Below w.heap.size w w') : Slab w' g cs t := h.below hb h.lt
theorem Slab.grown {row : Option Nat} (h : Slab w g cs t) (hb : w.grownBy w' row) (hg : some g ≠ row) : Slab w' g cs t := (hb.block g h.lt hg).trans h
/-- What the walk wants of a block: its cells, and that none is frozen. -/
theorem Slab.facts (h : Slab w g cs t) : (∀ i, w.cell? ⟨g, i, none⟩ = cs[i]?) ∧ (∀ i, w.frozen? ⟨g, i, none⟩ = false) := ⟨h.cell, h.frozen⟩
end

/-- The slice with n elements that begins at A holds vs, one cell each, in a block below B. -/
def Rd (w : World) (B : Nat) (A : Option Addr) (vs : List Value) : Prop :=
  vs = [] ∨ ∃ b off, A = some ⟨b, off, none⟩ ∧ b < B ∧ ∀ j u, vs[j]? = some u → w.cell? ⟨b, off + j, none⟩ = some u
section
variable {w w' : World} {B B' : Nat} {A : Option Addr} {vs : List Value}
theorem Rd.nil : Rd w B A [] := .inl rfl
theorem Rd.keep (h : Rd w B A vs) (hk : ∀ p : Addr, p.block < B → w'.cell? p = w.cell? p) : Rd w' B A vs := by
  rcases h with h | ⟨b, off, rfl, hb, hc⟩
  · exact .inl h
  · exact .inr ⟨b, off, rfl, hb, fun j u hu => (hk ⟨b, off + j, none⟩ hb).trans (hc j u hu)⟩
theorem Rd.more (h : Rd w B A vs) (hB : B ≤ B') : Rd w B' A vs := by
  rcases h with h | ⟨b, off, rfl, hb, hc⟩
  · exact .inl h
  · exact .inr ⟨b, off, rfl, Nat.lt_of_lt_of_le hb hB, hc⟩
theorem Rd.below (h : Rd w B A vs) (hb : Below B w w') : Rd w' B A vs := h.keep fun _ hp => hb.cell hp
theorem Rd.at_ (h : Rd w B A vs) {k : Nat} (hk : k < vs.length) : ∃ b off, A = some ⟨b, off, none⟩ ∧ b < B ∧ w.cell? ⟨b, off + k, none⟩ = some vs[k] := by
  rcases h with h | ⟨b, off, rfl, hb, hc⟩
  · subst h; simp at hk
  · exact ⟨b, off, rfl, hb, hc k _ (List.getElem?_eq_getElem hk)⟩
theorem Rd.some (h : Rd w B A vs) (hk : 0 < vs.length) : ∃ b off, A = some ⟨b, off, none⟩ ∧ b < B ∧ ∀ j u, vs[j]? = some u → w.cell? ⟨b, off + j, none⟩ = some u := by
  rcases h with h | h
  · subst h; simp at hk
  · exact h
end
section
variable {w w' : World} {base : Nat} {e : TypeId} {size : Nat} {v : Value} {n : Nat} {xs : List Value}
/-- A row of one's own stays so across a call that writes nothing that was there. -/
theorem row_call (h : w.ownsRow base e size v n xs) (hb : Below w.heap.size w w') : w'.ownsRow base e size v n xs :=
  h.kept (below_grown hb none) (by cases hv : v.ownBlock <;> simp)
theorem row_set (h : w.ownsRow base e size v n xs) {p : Addr} (hp : p.block < base) (u : Value) : (w.setCell p u).ownsRow base e size v n xs := ownsRow_setCell_below h hp u
theorem row_shape (h : w.ownsRow base e size v n xs) : ∃ A c, v = .slice A n c := by
  rcases h.2 with ⟨rfl, rfl⟩ | ⟨g, cap, cur, rfl, _⟩
  · exact ⟨_, _, rfl⟩
  · exact ⟨_, _, rfl⟩
theorem row_mono (h : w.ownsRow base e size v n xs) {base' : Nat} (hb : base' ≤ base) : w.ownsRow base' e size v n xs := by
  refine ⟨h.1, ?_⟩
  rcases h.2 with h2 | ⟨g, cap, cur, hv, hg, r⟩
  · exact .inl h2
  · exact .inr ⟨g, cap, cur, hv, Nat.le_trans hb hg, r⟩
/-- The row read: its block, where it has an element. -/
theorem row_at {A : Option Addr} {c : Nat} (h : w.ownsRow base e size (.slice A n c) n xs) (hn : 0 < n) : ∃ g cur, A = some ⟨g, 0, none⟩ ∧ base ≤ g ∧ n ≤ c ∧ Slab w g cur e ∧ cur.size = c * size ∧ cur.toList.take (n * size) = xs := by
  rcases h.2 with ⟨_, rfl⟩ | ⟨g, cap, cur, hv, hg, hh, hc, _, hs, ht⟩
  · omega
  · cases hv
    exact ⟨g, cur, rfl, hg, hc, hh, hs, ht⟩
theorem row_cell {A : Option Addr} {c : Nat} (h : w.ownsRow base e size (.slice A n c) n xs) (hn : 0 < n) : ∃ g, A = some ⟨g, 0, none⟩ ∧ base ≤ g ∧ g < w.heap.size ∧ n ≤ c ∧ ∀ j, j < n * size → w.cell? ⟨g, j, none⟩ = xs[j]? := by
  obtain ⟨g, cur, rfl, hg, hc, hs, hz, ht⟩ := row_at h hn
  refine ⟨g, rfl, hg, hs.lt, hc, fun j hj => ?_⟩
  rw [hs.cell, ← ht, List.getElem?_take_of_lt hj]
  simp
end

/-- append(s, x), s a row of one's own, x in the block that was laid last. -/
theorem wpList_append_elem {P : Program} (W : World) {ops : Array Oper} {rest : List Oper} {o : Oper} {a : Act} {Q : Exit → Act → World → Prop} (hgd : o.guard = none) (s x : Operand) (t : TypeId)
    (ho : o.op = .call { callee := .builtin .append, args := #[s, x], argTypes := #[t, t] })
    (base : Nat) (e : TypeId) (i : TypeInfo) (z : Value) (size bytes : Nat) (ht : P.underlying t = some (.slice e)) (hi : P.info? e = some i) (hz : i.zero = some z)
    (hsize : i.size = size) (hby : i.bytes = bytes) (hzs : z.cells.size = size) (hsz : 0 < size)
    (A : Option Addr) (n c : Nat) (xs : List Value) (hs : a.eval s = .slice A n c) (hown : W.ownsRow base e size (.slice A n c) n xs)
    (cs : Array Value) (g : Nat) (hx : a.eval x = .slice (some ⟨g, 0, none⟩) 1 1) (hg : g = W.heap.size) (hl : cs.size = size) (h1 : ∀ u ∈ cs.toList, u.oneCell' = true)
    (h63 : n + 1 ≤ maxLen) (hbytes : (n + 1) * bytes ≤ 140737488355328) (hbase : base ≤ W.heap.size)
    (h : ∀ A' c' w', w'.ownsRow base e size (.slice A' (n + 1) c') (n + 1) (xs ++ cs.toList) → Below base W w' → wpList P ops Q rest (a.put o.dst (.slice A' (n + 1) c')) w') :
    wpList P ops Q (o :: rest) a (W.alloc (.cells cs e)) := by
  subst hg
  refine wpList_append_own _ hgd s x t ho base e i z size bytes ht hi hz hsize hby hzs hsz _ n xs hs (hown.alloc _) ⟨W.heap.size, 0, none⟩ 1 1 cs.toList hx (by simp [hl]) ?_ h1 h63 hbytes (by simp; omega) ?_
  · intro j u hu
    have e1 : (⟨W.heap.size, 0, none⟩ : Addr).add j = ⟨W.heap.size, j, none⟩ := by unfold Addr.add; split <;> simp_all
    rw [e1, World.cell?_alloc_new, ← hu]
    simp
  · intro v' w' hown' hgr _
    obtain ⟨A', c', rfl⟩ := row_shape hown'
    refine h A' c' w' hown' ?_
    have h0 : Below base W (W.alloc (.cells cs e)) := (Below.refl _ _).alloc hbase _
    exact h0.grown hgr (by simp; omega) (fun k hk => (hown.lt k hk).1)

/-- What a call hands back that makes a row of its own. -/
def RetRow (T : TypeId) (size : Nat) (n : Nat) (xs : List Value) (w : World) (e : Ending) (w' : World) : Prop :=
  ∃ A c, e = .returned (.slice A n c) ∧ w'.ownsRow w.heap.size T size (.slice A n c) n xs ∧ Below w.heap.size w w'
end Go.Proofs.Ytgkfdjfoakbibaa
