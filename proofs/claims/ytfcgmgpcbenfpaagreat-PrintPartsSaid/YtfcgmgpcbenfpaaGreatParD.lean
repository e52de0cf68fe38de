/- Words for the memory of the document's parser; the walks of its row, rows, first. -/
import Derived.Test.YtfcgmgpcbenfpaaGreatProg
import Derived.WalkKit
import Derived.WalkSpells
import Derived.WalkLawsBesides
import Derived.Handy
import Derived.Lib.Hide
import Derived.Test.YtfcgmgpcbenfpaaGreatParA
set_option linter.unusedVariables false
set_option linter.unusedSimpArgs false
namespace Go.Proofs.YtfcgmgpcbenfpaaGreat
open Go.RowKit SetP BrkP LexP AstP ParP
def pcV (v : List (Nat × Nat)) : List Value := (v.map fun y => (Value.int .i64 (y.1 : Int))).reverse
def rwV (v : List (Nat × Nat)) : List Value := (v.map fun y => (Value.int .i64 (y.2 : Int))).reverse
theorem pcV_length (v : List (Nat × Nat)) : (pcV v).length = v.length := by simp [pcV]
theorem rwV_length (v : List (Nat × Nat)) : (rwV v).length = v.length := by simp [rwV]
theorem pcV_cons (p r : Nat) (v : List (Nat × Nat)) : pcV ((p, r) :: v) = pcV v ++ [.int .i64 (p : Int)] := by simp [pcV]
theorem rwV_cons (p r : Nat) (v : List (Nat × Nat)) : rwV ((p, r) :: v) = rwV v ++ [.int .i64 (r : Int)] := by simp [rwV]
theorem pcV_top (p r : Nat) (v : List (Nat × Nat)) : (pcV ((p, r) :: v))[v.length]? = some (.int .i64 (p : Int)) := by
  rw [pcV_cons, List.getElem?_append_right (by rw [pcV_length]; omega), pcV_length, Nat.sub_self]; rfl
theorem rwV_top (p r : Nat) (v : List (Nat × Nat)) : (rwV ((p, r) :: v))[v.length]? = some (.int .i64 (r : Int)) := by
  rw [rwV_cons, List.getElem?_append_right (by rw [rwV_length]; omega), rwV_length, Nat.sub_self]; rfl
theorem pcV_set (p r p' : Nat) (v : List (Nat × Nat)) : (pcV ((p, r) :: v)).set v.length (.int .i64 (p' : Int)) = pcV ((p', r) :: v) := by
  rw [pcV_cons, pcV_cons, ← pcV_length, List.set_append_right _ _ (Nat.le_refl _), Nat.sub_self]; rfl
theorem rwV_set (p r r' : Nat) (v : List (Nat × Nat)) : (rwV ((p, r) :: v)).set v.length (.int .i64 (r' : Int)) = rwV ((p, r') :: v) := by
  rw [rwV_cons, rwV_cons, ← rwV_length, List.set_append_right _ _ (Nat.le_refl _), Nat.sub_self]; rfl
theorem pcV_cut (x : Nat × Nat) (v : List (Nat × Nat)) : (pcV (x :: v)).take (v.length * 1) = pcV v := by
  obtain ⟨p, r⟩ := x
  rw [pcV_cons, Nat.mul_one, ← pcV_length, List.take_left]
theorem rwV_cut (x : Nat × Nat) (v : List (Nat × Nat)) : (rwV (x :: v)).take (v.length * 1) = rwV v := by
  obtain ⟨p, r⟩ := x
  rw [rwV_cons, Nat.mul_one, ← rwV_length, List.take_left]
theorem pcV_r (p r r' : Nat) (v : List (Nat × Nat)) : pcV ((p, r) :: v) = pcV ((p, r') :: v) := by rw [pcV_cons, pcV_cons]
theorem rwV_p (p p' r : Nat) (v : List (Nat × Nat)) : rwV ((p, r) :: v) = rwV ((p', r) :: v) := by rw [rwV_cons, rwV_cons]
set_option maxRecDepth 100000 in
theorem info_int7 : (Tryz.prog.info? 3).map (fun i => (i.zero, i.size, i.bytes)) = some (some (.int .i64 0), 1, 8) := by kernel_rfl
/-- A state's cells. -/
abbrev psCells (x : PS) (Ao : Option Addr) (co gp cp gr cr : Nat) : Array Value :=
  #[.slice Ao x.out.length co, .slice (some ⟨gp, 0, none⟩) x.lv.length cp, .slice (some ⟨gr, 0, none⟩) x.lv.length cr, .int .i64 (x.groups : Int)]
/-- What a state's slices hold. -/
structure StAt (w : World) (B : Nat) (x : PS) (Ao : Option Addr) (co gp cp gr cr : Nat) : Prop where
  out : w.ownsRow B 51 8 (.slice Ao x.out.length co) x.out.length (flatD x.out)
  pc : w.ownsRow B 3 1 (.slice (some ⟨gp, 0, none⟩) x.lv.length cp) x.lv.length (pcV x.lv)
  rw_ : w.ownsRow B 3 1 (.slice (some ⟨gr, 0, none⟩) x.lv.length cr) x.lv.length (rwV x.lv)
  a1 : (Value.slice Ao x.out.length co).ownBlock ≠ some gp
  a2 : (Value.slice Ao x.out.length co).ownBlock ≠ some gr
  ne : gp ≠ gr
  hB : B ≤ w.heap.size
section
variable {w w' : World} {B : Nat} {x : PS} {o : List Nd} {p r : Nat} {v : List (Nat × Nat)} {G : Nat} {Ao : Option Addr} {co gp cp gr cr : Nat}
theorem StAt.keep (h : StAt w B x Ao co gp cp gr cr) (hb : Below w.heap.size w w') : StAt w' B x Ao co gp cp gr cr :=
  ⟨row_call h.out hb, row_call h.pc hb, row_call h.rw_ hb, h.a1, h.a2, h.ne, Nat.le_trans h.hB hb.size⟩
theorem slab_of_row {e : TypeId} {size n c g : Nat} {xs : List Value} (h : w.ownsRow B e size (.slice (some ⟨g, 0, none⟩) n c) n xs) : B ≤ g ∧ g < w.heap.size ∧ n ≤ c ∧ (∀ j, j < n * size → w.cell? ⟨g, j, none⟩ = xs[j]?) ∧ ∀ j, w.frozen? ⟨g, j, none⟩ = false := by
  obtain ⟨cur, h1, h2, h3, h4, h5⟩ := row_slab h
  refine ⟨h3, h1.lt, h5, fun j hj => ?_, fun j => h1.frozen j⟩
  rw [h1.cell, ← h2, List.getElem?_take_of_lt hj]; simp
theorem StAt.tops (h : StAt w B ⟨o, (p, r) :: v, G⟩ Ao co gp cp gr cr) : w.cell? ⟨gp, v.length, none⟩ = some (.int .i64 (p : Int)) ∧ w.cell? ⟨gr, v.length, none⟩ = some (.int .i64 (r : Int)) ∧ w.frozen? ⟨gp, v.length, none⟩ = false ∧ w.frozen? ⟨gr, v.length, none⟩ = false := by
  obtain ⟨_, _, _, h1, h2⟩ := slab_of_row h.pc
  obtain ⟨_, _, _, h3, h4⟩ := slab_of_row h.rw_
  exact ⟨(h1 _ (by show _ < (v.length + 1) * 1; omega)).trans (pcV_top p r v), (h3 _ (by show _ < (v.length + 1) * 1; omega)).trans (rwV_top p r v), h2 _, h4 _⟩
theorem setCell_size (w : World) (a : Addr) (u : Value) : (w.setCell a u).heap.size = w.heap.size := by
  have := (Below.refl 0 w).setCell (p := a) (Nat.zero_le _) u
  simp
theorem StAt.poke0 (h : StAt w B ⟨o, (p, r) :: v, G⟩ Ao co gp cp gr cr) (p' : Nat) : StAt (w.setCell ⟨gp, v.length, none⟩ (.int .i64 (p' : Int))) B ⟨o, (p', r) :: v, G⟩ Ao co gp cp gr cr :=
  ⟨row_far h.out h.a1 _ _, by have := row_poke h.pc v.length (.int .i64 (p' : Int)); rw [pcV_set] at this; exact this,
    by have := row_far h.rw_ (b := gp) (fun e => h.ne (by injection e with e; exact e.symm)) v.length (.int .i64 (p' : Int)); rw [rwV_p p p'] at this; exact this, h.a1, h.a2, h.ne, by rw [setCell_size]; exact h.hB⟩
theorem StAt.poke1 (h : StAt w B ⟨o, (p, r) :: v, G⟩ Ao co gp cp gr cr) (r' : Nat) : StAt (w.setCell ⟨gr, v.length, none⟩ (.int .i64 (r' : Int))) B ⟨o, (p, r') :: v, G⟩ Ao co gp cp gr cr :=
  ⟨row_far h.out h.a2 _ _, by have := row_far h.pc (b := gr) (fun e => h.ne (by injection e)) v.length (.int .i64 (r' : Int)); rw [pcV_r p r r'] at this; exact this,
    by have := row_poke h.rw_ v.length (.int .i64 (r' : Int)); rw [rwV_set] at this; exact this, h.a1, h.a2, h.ne, by rw [setCell_size]; exact h.hB⟩
theorem StAt.cut (h : StAt w B ⟨o, (p, r) :: v, G⟩ Ao co gp cp gr cr) : StAt w B ⟨o, v, G⟩ Ao co gp cp gr cr := by
  have h1 := row_cut h.pc (m := v.length) (by simp)
  have h2 := row_cut h.rw_ (m := v.length) (by simp)
  rw [pcV_cut] at h1
  rw [rwV_cut] at h2
  exact ⟨h.out, h1, h2, h.a1, h.a2, h.ne, h.hB⟩
/-- Blocks that are not the state's. -/
def Free (b : Nat) (Ao : Option Addr) (n co gp gr : Nat) : Prop := (Value.slice Ao n co).ownBlock ≠ some b ∧ gp ≠ b ∧ gr ≠ b
theorem StAt.far (h : StAt w B x Ao co gp cp gr cr) {b : Nat} (hf : Free b Ao x.out.length co gp gr) (i : Nat) (u : Value) : StAt (w.setCell ⟨b, i, none⟩ u) B x Ao co gp cp gr cr :=
  ⟨row_far h.out hf.1 _ _, row_far h.pc (fun e => hf.2.1 (by injection e)) _ _, row_far h.rw_ (fun e => hf.2.2 (by injection e)) _ _, h.a1, h.a2, h.ne, by rw [setCell_size]; exact h.hB⟩
theorem StAt.free (h : StAt w B x Ao co gp cp gr cr) {b : Nat} (hb : w.heap.size ≤ b) : Free b Ao x.out.length co gp gr :=
  ⟨fun e => by have := (h.out.lt _ e).2; omega, fun e => by have := (slab_of_row h.pc).2.1; omega, fun e => by have := (slab_of_row h.rw_).2.1; omega⟩
theorem StAt.many (h : StAt w B x Ao co gp cp gr cr) (G' : Nat) : StAt w B ⟨x.out, x.lv, G'⟩ Ao co gp cp gr cr := ⟨h.out, h.pc, h.rw_, h.a1, h.a2, h.ne, h.hB⟩
end
/-- A node more. -/
theorem StAt.more {w w5 : World} {B : Nat} {x : PS} {Ao A5 : Option Addr} {co gp cp gr cr q5 : Nat} {nd : Nd} (h : StAt w B x Ao co gp cp gr cr)
    (hown : w5.ownsRow B 51 8 (.slice A5 (x.out.length + 1) q5) (x.out.length + 1) (flatD x.out ++ (ndCells nd).toList)) (ha : Aside w w5 (.slice Ao x.out.length co) (.slice A5 (x.out.length + 1) q5)) (hb : B ≤ w5.heap.size) :
    StAt w5 B (putN nd x) A5 q5 gp cp gr cr := by
  have e : (putN nd x).out.length = x.out.length + 1 := by simp [putN]
  obtain ⟨cur, s1, _⟩ := row_slab h.pc
  obtain ⟨cur', s2, _⟩ := row_slab h.rw_
  obtain ⟨p1, p2⟩ := row_aside h.pc ha (fun k hk hg => h.a1 (by rw [hk]; exact hg.symm))
  obtain ⟨r1, r2⟩ := row_aside h.rw_ ha (fun k hk hg => h.a2 (by rw [hk]; exact hg.symm))
  refine ⟨?_, p1, r1, ?_, ?_, h.ne, hb⟩
  · rw [e, show (putN nd x).out = x.out ++ [nd] from rfl, flatD_snoc]; exact hown
  · rw [e]; exact (ha _ _ _ s1 h.a1).2
  · rw [e]; exact (ha _ _ _ s2 h.a2).2
end Go.Proofs.YtfcgmgpcbenfpaaGreat
