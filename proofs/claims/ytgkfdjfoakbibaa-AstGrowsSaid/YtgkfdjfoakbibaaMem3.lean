/- More words for memory: append beside other blocks; a row cut short; a row that a literal begins. No program is in sight. -/
import Derived.Test.YtgkfdjfoakbibaaMem2
import Derived.Maps.AppendAt
namespace Go.Proofs.Ytgkfdjfoakbibaa
open Go.RowKit

/-- Every block but the row's own is as it was, and is not the new row's. -/
def Aside (w w' : World) (v v' : Value) : Prop := ∀ (k : Nat) (cs : Array Value) (t : TypeId), Slab w k cs t → v.ownBlock ≠ some k → Slab w' k cs t ∧ v'.ownBlock ≠ some k
theorem wpList_append_elem_at {P : Program} (W : World) {ops : Array Oper} {rest : List Oper} {o : Oper} {a : Act} {Q : Exit → Act → World → Prop} (hgd : o.guard = none) (s x : Operand) (t : TypeId)
    (ho : o.op = .call { callee := .builtin .append, args := #[s, x], argTypes := #[t, t] })
    (base : Nat) (e : TypeId) (i : TypeInfo) (z : Value) (size bytes : Nat) (ht : P.underlying t = some (.slice e)) (hi : P.info? e = some i) (hz : i.zero = some z)
    (hsize : i.size = size) (hby : i.bytes = bytes) (hzs : z.cells.size = size) (hsz : 0 < size)
    (A : Option Addr) (n c : Nat) (xs : List Value) (hs : a.eval s = .slice A n c) (hown : W.ownsRow base e size (.slice A n c) n xs)
    (cs : Array Value) (g : Nat) (hx : a.eval x = .slice (some ⟨g, 0, none⟩) 1 1) (hg : g = W.heap.size) (hl : cs.size = size) (h1 : ∀ u ∈ cs.toList, u.oneCell' = true)
    (h63 : n + 1 ≤ maxLen) (hbytes : (n + 1) * bytes ≤ 140737488355328) (hbase : base ≤ W.heap.size)
    (h : ∀ A' c' w', w'.ownsRow base e size (.slice A' (n + 1) c') (n + 1) (xs ++ cs.toList) → Below base W w' → Aside W w' (.slice A n c) (.slice A' (n + 1) c') →
      wpList P ops Q rest (a.put o.dst (.slice A' (n + 1) c')) w') :
    wpList P ops Q (o :: rest) a (W.alloc (.cells cs e)) := by
  subst hg
  refine wpList_append_own_at _ hgd s x t ho base e i z size bytes ht hi hz hsize hby hzs hsz _ n xs hs (hown.alloc _) ⟨W.heap.size, 0, none⟩ 1 1 cs.toList hx (by simp [hl]) ?_ h1 h63 hbytes (by simp; omega) ?_
  · intro j u hu
    have e1 : (⟨W.heap.size, 0, none⟩ : Addr).add j = ⟨W.heap.size, j, none⟩ := by unfold Addr.add; split <;> simp_all
    rw [e1, World.cell?_alloc_new, ← hu]
    simp
  · intro v' w' hown' hgr _ hat
    obtain ⟨A', c', rfl⟩ := row_shape hown'
    have h0 : Below base W (W.alloc (.cells cs e)) := (Below.refl _ _).alloc hbase _
    refine h A' c' w' hown' (h0.grown hgr (by simp; omega) (fun k hk => (hown.lt k hk).1)) fun k cs' t' hk hne => ⟨(hk.alloc _).grown hgr (fun e => hne e.symm), ?_⟩
    rcases hat with e | e
    · rw [e]; exact hne
    · rw [e]
      have := hk.lt
      simp; omega
section
variable {w : World} {base : Nat} {e : TypeId} {size : Nat} {n : Nat} {xs : List Value}
/-- A row cut short. -/
theorem row_cut {A : Option Addr} {c m : Nat} (h : w.ownsRow base e size (.slice A n c) n xs) (hm : m ≤ n) : w.ownsRow base e size (.slice A m c) m (xs.take (m * size)) := by
  have hle : m * size ≤ n * size := Nat.mul_le_mul_right _ hm
  refine ⟨by rw [List.length_take, h.1]; omega, ?_⟩
  rcases h.2 with ⟨hv, rfl⟩ | ⟨g, cap, cur, hv, hg, hh, hc, hx, hs, ht⟩
  · obtain rfl : m = 0 := by omega
    exact .inl ⟨hv, rfl⟩
  · cases hv
    exact .inr ⟨g, c, cur, rfl, hg, hh, by omega, hx, hs, by rw [← ht, List.take_take, Nat.min_eq_left hle]⟩
/-- The row that a literal is. -/
theorem row_lit {g : Nat} {cs : Array Value} (h : Slab w g cs e) (hb : base ≤ g) (hn : cs.size = n * size) (hx : n ≤ maxLen) : w.ownsRow base e size (.slice (some ⟨g, 0, none⟩) n n) n cs.toList :=
  ⟨by simpa using hn, .inr ⟨g, n, cs, rfl, hb, h, Nat.le_refl _, hx, hn, List.take_of_length_le (by simp [hn])⟩⟩
/-- A row's whole block. -/
theorem row_slab {g c : Nat} (h : w.ownsRow base e size (.slice (some ⟨g, 0, none⟩) n c) n xs) : ∃ cur, Slab w g cur e ∧ cur.toList.take (n * size) = xs ∧ base ≤ g ∧ cur.size = c * size ∧ n ≤ c := by
  rcases h.2 with ⟨hv, _⟩ | ⟨g', cap, cur, hv, hg, hh, hc, hx, hs, ht⟩
  · cases hv
  · cases hv
    exact ⟨cur, hh, ht, hg, hs, hc⟩
end
theorem slice_at {g g' : Nat} (h : g = g') : Value.slice (some ⟨g, 0, none⟩) 1 1 = Value.slice (some ⟨g', 0, none⟩) 1 1 := by rw [h]
/-- Two slices in two blocks. -/
def Apart (v u : Value) : Prop := ∀ k, v.ownBlock = some k → u.ownBlock ≠ some k
theorem Apart.symm {v u : Value} (h : Apart v u) : Apart u v := fun k hk hv => h k hv hk
/-- A row beside the one that is written. -/
theorem row_aside {w w' : World} {base n : Nat} {e : TypeId} {size : Nat} {xs : List Value} {v v' u : Value} (h : w.ownsRow base e size u n xs) (ha : Aside w w' v v') (hp : Apart v u) : w'.ownsRow base e size u n xs ∧ Apart v' u := by
  rcases h.2 with ⟨rfl, rfl⟩ | ⟨g, cap, cur, rfl, hg, hh, hc, hx, hs, ht⟩
  · exact ⟨⟨h.1, .inl ⟨rfl, rfl⟩⟩, fun k _ hk => by cases hk⟩
  · obtain ⟨h1, h2⟩ := ha g cur e hh (fun hv => hp g hv rfl)
    exact ⟨⟨h.1, .inr ⟨g, cap, cur, rfl, hg, h1, hc, hx, hs, ht⟩⟩, fun k hk hu => h2 (by cases hu; exact hk)⟩
end Go.Proofs.Ytgkfdjfoakbibaa
