/- Walks of the document's parser: a row ends, all rows end. -/
import Derived.Test.YtfcgmgpcbenfpaaGreatProg
import Derived.WalkKit
import Derived.WalkSpells
import Derived.WalkLawsBesides
import Derived.Handy
import Derived.Lib.Hide
import Derived.Test.YtfcgmgpcbenfpaaGreatParD
import Derived.Test.YtfcgmgpcbenfpaaGreatParB
import Derived.Deep.QuietTactic
import Derived.BigQuiet
import Derived.Lib.QuietBelow
set_option linter.unusedVariables false
set_option linter.unusedSimpArgs false
namespace Go.Proofs.YtfcgmgpcbenfpaaGreat
open Go.RowKit SetP BrkP LexP AstP ParP
/-- A state in a box. -/
structure BxAt (w : World) (B g : Nat) (x : PS) (Ao : Option Addr) (co gp cp gr cr : Nat) : Prop where
  slab : Slab w g (psCells x Ao co gp cp gr cr) 57
  st : StAt w B x Ao co gp cp gr cr
  free : Free g Ao x.out.length co gp gr
  hg : B ≤ g
abbrev box (w : World) (cs : Array Value) : World := w.alloc (.cells cs 57)
section
variable {w w' : World} {B g : Nat} {x : PS} {o : List Nd} {p r : Nat} {v : List (Nat × Nat)} {G : Nat} {Ao : Option Addr} {co gp cp gr cr : Nat}
theorem BxAt.keep (h : BxAt w B g x Ao co gp cp gr cr) (hb : Below w.heap.size w w') : BxAt w' B g x Ao co gp cp gr cr := ⟨h.slab.call hb, h.st.keep hb, h.free, h.hg⟩
theorem BxAt.new (h : StAt w B x Ao co gp cp gr cr) : BxAt (box w (psCells x Ao co gp cp gr cr)) B w.heap.size x Ao co gp cp gr cr :=
  ⟨Slab.new _ _ _, h.keep ((Below.refl _ _).alloc (Nat.le_refl _) _), h.free (Nat.le_refl _), h.hB⟩
theorem BxAt.more {w5 : World} {A5 : Option Addr} {q5 : Nat} {nd : Nd} (h : BxAt w B g x Ao co gp cp gr cr)
    (hown : w5.ownsRow B 51 8 (.slice A5 (x.out.length + 1) q5) (x.out.length + 1) (flatD x.out ++ (ndCells nd).toList)) (ha : Aside w w5 (.slice Ao x.out.length co) (.slice A5 (x.out.length + 1) q5)) (hb : B ≤ w5.heap.size) :
    BxAt (w5.setCell ⟨g, 0, none⟩ (.slice A5 (x.out.length + 1) q5)) B g (putN nd x) A5 q5 gp cp gr cr := by
  obtain ⟨o5, hx5⟩ := ha _ _ _ h.slab h.free.1
  have hs := h.st.more hown ha hb
  have e : (putN nd x).out.length = x.out.length + 1 := by simp [putN]
  have hf : Free g A5 (putN nd x).out.length q5 gp gr := ⟨by rw [e]; exact hx5, h.free.2⟩
  refine ⟨?_, hs.far hf _ _, hf, h.hg⟩
  unfold psCells; rw [e]; exact o5.set 0 _
theorem BxAt.poke0 (h : BxAt w B g ⟨o, (p, r) :: v, G⟩ Ao co gp cp gr cr) (p' : Nat) : BxAt (w.setCell ⟨gp, v.length, none⟩ (.int .i64 (p' : Int))) B g ⟨o, (p', r) :: v, G⟩ Ao co gp cp gr cr :=
  ⟨h.slab.far (fun e => h.free.2.1 e.symm) _, h.st.poke0 p', h.free, h.hg⟩
theorem BxAt.poke1 (h : BxAt w B g ⟨o, (p, r) :: v, G⟩ Ao co gp cp gr cr) (r' : Nat) : BxAt (w.setCell ⟨gr, v.length, none⟩ (.int .i64 (r' : Int))) B g ⟨o, (p, r') :: v, G⟩ Ao co gp cp gr cr :=
  ⟨h.slab.far (fun e => h.free.2.2 e.symm) _, h.st.poke1 r', h.free, h.hg⟩
theorem BxAt.many (h : BxAt w B g x Ao co gp cp gr cr) (G' : Nat) : BxAt (w.setCell ⟨g, 3, none⟩ (.int .i64 (G' : Int))) B g ⟨x.out, x.lv, G'⟩ Ao co gp cp gr cr :=
  ⟨h.slab.set 3 _, (h.st.many G').far h.free _ _, h.free, h.hg⟩
theorem BxAt.cut (h : BxAt w B g ⟨o, (p, r) :: v, G⟩ Ao co gp cp gr cr) : BxAt ((w.setCell ⟨g, 2, none⟩ (.slice (some ⟨gr, 0, none⟩) v.length cr)).setCell ⟨g, 1, none⟩ (.slice (some ⟨gp, 0, none⟩) v.length cp)) B g ⟨o, v, G⟩ Ao co gp cp gr cr :=
  ⟨(h.slab.set 2 _).set 1 _, (h.st.cut.far h.free _ _).far h.free _ _, h.free, h.hg⟩
theorem BxAt.lenR (h : BxAt w B g x Ao co gp cp gr cr) : x.lv.length ≤ cp ∧ x.lv.length ≤ cr ∧ B ≤ gp ∧ B ≤ gr := by
  obtain ⟨a1, _, a2, _⟩ := slab_of_row h.st.pc
  obtain ⟨b1, _, b2, _⟩ := slab_of_row h.st.rw_
  exact ⟨a2, b2, a1, b1⟩
end
/-- A state, stored as a result. -/
theorem st_out {w : World} {B g : Nat} {y : PS} {Ao : Option Addr} {co gp cp gr cr : Nat} (h : StAt w B y Ao co gp cp gr cr) (o : Slab w g #[.slice none 0 0, .slice none 0 0, .slice none 0 0, .int .i64 0] 57) (hf : Free g Ao y.out.length co gp gr) :
    Slab ((((w.setCell ⟨g, 0, none⟩ (.slice Ao y.out.length co)).setCell ⟨g, 1, none⟩ (.slice (some ⟨gp, 0, none⟩) y.lv.length cp)).setCell ⟨g, 2, none⟩ (.slice (some ⟨gr, 0, none⟩) y.lv.length cr)).setCell ⟨g, 3, none⟩ (.int .i64 (y.groups : Int))) g (psCells y Ao co gp cp gr cr) 57 ∧
    StAt ((((w.setCell ⟨g, 0, none⟩ (.slice Ao y.out.length co)).setCell ⟨g, 1, none⟩ (.slice (some ⟨gp, 0, none⟩) y.lv.length cp)).setCell ⟨g, 2, none⟩ (.slice (some ⟨gr, 0, none⟩) y.lv.length cr)).setCell ⟨g, 3, none⟩ (.int .i64 (y.groups : Int))) B y Ao co gp cp gr cr :=
  ⟨(((o.set 0 _).set 1 _).set 2 _).set 3 _, (((h.far hf _ _).far hf _ _).far hf _ _).far hf _ _⟩
/-- What a function leaves that hands back a state. -/
def Fr (w w' : World) (n : Nat) (Ao : Option Addr) (co gp gr : Nat) (n' : Nat) (Ao' : Option Addr) (co' gp' gr' : Nat) : Prop :=
  ∀ (k : Nat) (cs : Array Value) (t : TypeId), Slab w k cs t → Free k Ao n co gp gr → Slab w' k cs t ∧ Free k Ao' n' co' gp' gr'
def toSt (B : Nat) (x : PS) (Ao : Option Addr) (co gp gr : Nat) (y : PS) (w : World) (e : Ending) (w' : World) : Prop :=
  ∃ A1 c1 p1 q1 r1 s1, e = .returned (.agg (psCells y A1 c1 p1 q1 r1 s1)) ∧ Below B w w' ∧ StAt w' B y A1 c1 p1 q1 r1 s1 ∧ Fr w w' x.out.length Ao co gp gr y.out.length A1 c1 p1 r1
set_option maxRecDepth 100000 in
set_option maxHeartbeats 2000000 in
theorem rrow_0 {B : Nat} {o : List Nd} {p r : Nat} {v : List (Nat × Nat)} {G : Nat} {Ao : Option Addr} {co gp cp gr cr : Nat} {w : World} (h : StAt w B ⟨o, (p, r) :: v, G⟩ Ao co gp cp gr cr) (hn : o.length ≤ 1000000) (hv : v.length ≤ 1000000) (hp : p ≤ 1000000) (hr : r ≤ 1000000) (t0 : ((p : Int) == 0) = true) (t1 : decide (1 < (p : Int)) = false) : Calls Tryz.prog 86 #[.agg (psCells ⟨o, (p, r) :: v, G⟩ Ao co gp cp gr cr)] w (toSt B ⟨o, (p, r) :: v, G⟩ Ao co gp gr ⟨o ++ [ndE], (0, r + 1) :: v, G⟩ w) := by
  obtain ⟨i0, hi, hz0, hz1, hz2⟩ := info_parts info_node7
  have HI := Lib.hid hi; clear hi
  have HZ0 := Lib.hid hz0; clear hz0
  have HZ1 := Lib.hid hz1; clear hz1
  have HZ2 := Lib.hid hz2; clear hz2
  have h1 : BxAt (box (box w (psCells ⟨o, (p, r) :: v, G⟩ Ao co gp cp gr cr)) #[.slice none 0 0, .slice none 0 0, .slice none 0 0, .int .i64 0]) B w.heap.size ⟨o, (p, r) :: v, G⟩ Ao co gp cp gr cr := (BxAt.new h).keep ((Below.refl _ _).alloc (Nat.le_refl _) _)
  have HB0 := Lib.hid (show Below B w (box (box w (psCells ⟨o, (p, r) :: v, G⟩ Ao co gp cp gr cr)) #[.slice none 0 0, .slice none 0 0, .slice none 0 0, .int .i64 0]) from ((Below.refl B w).alloc h.hB _).alloc (by have := h.hB; simp; omega) _)
  obtain ⟨c1, f1⟩ := h1.slab.facts
  obtain ⟨k0, k1, k2, k3⟩ := h1.st.tops
  have hlen := h1.lenR
  simp only [List.length_cons] at hlen
  obtain ⟨l1, l2, l3, l4⟩ := hlen
  have hB0 : B ≤ w.heap.size := h.hB
  have d1 : gp ≠ w.heap.size := h1.free.2.1
  have d2 : gr ≠ w.heap.size := h1.free.2.2
  have d3 : gp ≠ gr := h1.st.ne
  have F2 := h.free (b := w.heap.size + 1) (by omega)
  have d4 : gp ≠ w.heap.size + 1 := F2.2.1
  have d5 : gr ≠ w.heap.size + 1 := F2.2.2
  have o2 : Slab (box (box w (psCells ⟨o, (p, r) :: v, G⟩ Ao co gp cp gr cr)) #[.slice none 0 0, .slice none 0 0, .slice none 0 0, .int .i64 0]) (w.heap.size + 1) #[.slice none 0 0, .slice none 0 0, .slice none 0 0, .int .i64 0] 57 := Slab.newAt _ _ _ (by simp)
  obtain ⟨c2, f2⟩ := o2.facts
  have O2 := Lib.hid o2; clear o2
  have HF2 := Lib.hid F2; clear F2
  have hown1 := h1.st.out
  have hsz1 := h1.st.hB
  have H1 := Lib.hid h1
  clear h1 h
  unfold psCells at hown1 hsz1
  simp only [List.length_cons] at hown1 hsz1
  unfold psCells at c1 f1 k0 k1 k2 k3 c2 f2
  simp only [List.length_cons] at c1 f1 k0 k1 k2 k3 c2 f2
  show Calls Tryz.prog 86 #[.agg #[.slice Ao o.length co, .slice (some ⟨gp, 0, none⟩) (v.length + 1) cp, .slice (some ⟨gr, 0, none⟩) (v.length + 1) cr, .int .i64 (G : Int)]] w _
  go_enter Tryz.func86, Tryz.ntmps86
  go_wp2_with (at_builtin; go_must (
    (refine wpList_append_elem_at _ ?g1 (.tmp 17) (.tmp 19) 28 ?g2 B 51 i0 ndZero7 8 64 ?g3 ?g4 ?g5 ?g6 ?g7 ?g8 ?g9 _ _ _ _ ?g10 hown1 ?gc ?gg ?g11 ?g12 ?g13 ?g14 ?g15 ?g16 ?g17 ?g18; (case g1 => rfl); (case g2 => rfl); (case g3 => exact Tryz.underlying28); (case g4 => exact HI.out); (case g5 => exact HZ0.out); (case g6 => exact HZ1.out); (case g7 => exact HZ2.out); (case g8 => rfl); (case g9 => decide); (case g10 => rfl); (case g12 => rfl); (case g11 => first | rfl | exact slice_at (by simp)); (case g13 => rfl); (case g14 => simp [Value.oneCell']); (case g15 => unfold maxLen; omega); (case g16 => omega); (case g17 => first | omega | (simp; omega)); intro A5 q5 w5 hown5 hbl5 has5)
    have hown5' : w5.ownsRow B 51 8 (.slice A5 (o.length + 1) q5) (o.length + 1) (flatD o ++ (ndCells (ndE)).toList) := by
      have e := nd_lit 1 (0)
      show w5.ownsRow _ _ _ _ _ (flatD o ++ (ndCells ⟨1, 0, 0, 0, noSet⟩).toList)
      rw [e]; exact hown5
    have h6 := H1.out.more (nd := ndE) hown5' has5 (Nat.le_trans H1.out.st.hB hbl5.size)
    obtain ⟨o5, hx5⟩ := has5 _ _ _ H1.out.slab H1.out.free.1
    obtain ⟨c5, f5⟩ := o5.facts
    have HB6 := Lib.hid (below_set (HB0.out.trans hbl5) h6.hg (i := 0) (.slice A5 (o.length + 1) q5))
    have h6' : BxAt (w5.setCell ⟨w.heap.size, 0, none⟩ (.slice A5 (o.length + 1) q5)) B w.heap.size ⟨o ++ [ndE], (p, r) :: v, G⟩ A5 q5 gp cp gr cr := h6
    obtain ⟨c6, f6⟩ := h6'.slab.facts
    obtain ⟨k60, k61, k62, k63⟩ := h6'.st.tops
    have H6 := Lib.hid h6'
    obtain ⟨o7, hx7⟩ := has5 _ _ _ O2.out HF2.out.1
    have HX7 := Lib.hid hx7; clear hx7
    have HAS := Lib.hid has5
    obtain ⟨c7, f7⟩ := o7.facts
    have O7 := Lib.hid (o7.far (b := w.heap.size) (i := 0) (by omega) (.slice A5 (o.length + 1) q5)); clear o7
    clear hbl5 has5 h6 h6' hown5 hown5' o5 c1 f1 k0 k1 k2 k3 hown1 c2 f2
    unfold psCells at c6 c5
    simp only [List.length_cons] at c6 c5))
  have HE := (H6.out.poke0 0).poke1 (r + 1)
  have hl : (o ++ [ndE]).length = o.length + 1 := by simp
  obtain ⟨S1, S2⟩ := st_out (g := w.heap.size + 1) HE.st ((O7.out.far (fun e => d4 e.symm) _).far (fun e => d5 e.symm) _) ⟨by show (Value.slice A5 (o ++ [ndE]).length q5).ownBlock ≠ _; rw [hl]; exact HX7.out, d4, d5⟩
  simp only [hl, List.length_cons] at S1 S2
  refine bodyPost_ret (results_cell rfl rfl (load_slab (t := 57) (cs := psCells ⟨o ++ [ndE], (0, r + 1) :: v, G⟩ A5 q5 gp cp gr cr) ?_ 57 Tryz.underlying57 rfl (by kernel_rfl))) rfl ⟨_, _, _, _, _, _, rfl, ?_, ?_, ?_⟩
  · exact S1
  · exact below_set (below_set (below_set (below_set (below_set (below_set HB6.out l3 _) l4 _) (by omega) _) (by omega) _) (by omega) _) (by omega) _
  · exact S2
  · intro k cs t hk hf
    have hlt := hk.lt
    obtain ⟨hk5, hx⟩ := HAS.out k cs t ((hk.alloc _).alloc _) hf.1
    exact ⟨((((((hk5.far (by omega) _).far (fun e => hf.2.1 e.symm) _).far (fun e => hf.2.2 e.symm) _).far (by omega) _).far (by omega) _).far (by omega) _).far (by omega) _, by show (Value.slice A5 (o ++ [ndE]).length q5).ownBlock ≠ _; rw [hl]; exact hx, hf.2⟩
set_option maxRecDepth 100000 in
set_option maxHeartbeats 2000000 in
theorem rrow_2 {B : Nat} {o : List Nd} {p r : Nat} {v : List (Nat × Nat)} {G : Nat} {Ao : Option Addr} {co gp cp gr cr : Nat} {w : World} (h : StAt w B ⟨o, (p, r) :: v, G⟩ Ao co gp cp gr cr) (hn : o.length ≤ 1000000) (hv : v.length ≤ 1000000) (hp : p ≤ 1000000) (hr : r ≤ 1000000) (t0 : ((p : Int) == 0) = false) (t1 : decide (1 < (p : Int)) = true) : Calls Tryz.prog 86 #[.agg (psCells ⟨o, (p, r) :: v, G⟩ Ao co gp cp gr cr)] w (toSt B ⟨o, (p, r) :: v, G⟩ Ao co gp gr ⟨o ++ [ndC p], (0, r + 1) :: v, G⟩ w) := by
  obtain ⟨i0, hi, hz0, hz1, hz2⟩ := info_parts info_node7
  have HI := Lib.hid hi; clear hi
  have HZ0 := Lib.hid hz0; clear hz0
  have HZ1 := Lib.hid hz1; clear hz1
  have HZ2 := Lib.hid hz2; clear hz2
  have h1 : BxAt (box (box w (psCells ⟨o, (p, r) :: v, G⟩ Ao co gp cp gr cr)) #[.slice none 0 0, .slice none 0 0, .slice none 0 0, .int .i64 0]) B w.heap.size ⟨o, (p, r) :: v, G⟩ Ao co gp cp gr cr := (BxAt.new h).keep ((Below.refl _ _).alloc (Nat.le_refl _) _)
  have HB0 := Lib.hid (show Below B w (box (box w (psCells ⟨o, (p, r) :: v, G⟩ Ao co gp cp gr cr)) #[.slice none 0 0, .slice none 0 0, .slice none 0 0, .int .i64 0]) from ((Below.refl B w).alloc h.hB _).alloc (by have := h.hB; simp; omega) _)
  obtain ⟨c1, f1⟩ := h1.slab.facts
  obtain ⟨k0, k1, k2, k3⟩ := h1.st.tops
  have hlen := h1.lenR
  simp only [List.length_cons] at hlen
  obtain ⟨l1, l2, l3, l4⟩ := hlen
  have hB0 : B ≤ w.heap.size := h.hB
  have d1 : gp ≠ w.heap.size := h1.free.2.1
  have d2 : gr ≠ w.heap.size := h1.free.2.2
  have d3 : gp ≠ gr := h1.st.ne
  have F2 := h.free (b := w.heap.size + 1) (by omega)
  have d4 : gp ≠ w.heap.size + 1 := F2.2.1
  have d5 : gr ≠ w.heap.size + 1 := F2.2.2
  have o2 : Slab (box (box w (psCells ⟨o, (p, r) :: v, G⟩ Ao co gp cp gr cr)) #[.slice none 0 0, .slice none 0 0, .slice none 0 0, .int .i64 0]) (w.heap.size + 1) #[.slice none 0 0, .slice none 0 0, .slice none 0 0, .int .i64 0] 57 := Slab.newAt _ _ _ (by simp)
  obtain ⟨c2, f2⟩ := o2.facts
  have O2 := Lib.hid o2; clear o2
  have HF2 := Lib.hid F2; clear F2
  have hown1 := h1.st.out
  have hsz1 := h1.st.hB
  have H1 := Lib.hid h1
  clear h1 h
  unfold psCells at hown1 hsz1
  simp only [List.length_cons] at hown1 hsz1
  unfold psCells at c1 f1 k0 k1 k2 k3 c2 f2
  simp only [List.length_cons] at c1 f1 k0 k1 k2 k3 c2 f2
  show Calls Tryz.prog 86 #[.agg #[.slice Ao o.length co, .slice (some ⟨gp, 0, none⟩) (v.length + 1) cp, .slice (some ⟨gr, 0, none⟩) (v.length + 1) cr, .int .i64 (G : Int)]] w _
  go_enter Tryz.func86, Tryz.ntmps86
  go_wp2_with (at_builtin; go_must (
    (refine wpList_append_elem_at _ ?g1 (.tmp 25) (.tmp 28) 28 ?g2 B 51 i0 ndZero7 8 64 ?g3 ?g4 ?g5 ?g6 ?g7 ?g8 ?g9 _ _ _ _ ?g10 hown1 ?gc ?gg ?g11 ?g12 ?g13 ?g14 ?g15 ?g16 ?g17 ?g18; (case g1 => rfl); (case g2 => rfl); (case g3 => exact Tryz.underlying28); (case g4 => exact HI.out); (case g5 => exact HZ0.out); (case g6 => exact HZ1.out); (case g7 => exact HZ2.out); (case g8 => rfl); (case g9 => decide); (case g10 => rfl); (case g12 => rfl); (case g11 => first | rfl | exact slice_at (by simp)); (case g13 => rfl); (case g14 => simp [Value.oneCell']); (case g15 => unfold maxLen; omega); (case g16 => omega); (case g17 => first | omega | (simp; omega)); intro A5 q5 w5 hown5 hbl5 has5)
    have hown5' : w5.ownsRow B 51 8 (.slice A5 (o.length + 1) q5) (o.length + 1) (flatD o ++ (ndCells (ndC p)).toList) := by
      have e := nd_lit 5 ((p : Int))
      show w5.ownsRow _ _ _ _ _ (flatD o ++ (ndCells ⟨5, (p : Int), 0, 0, noSet⟩).toList)
      rw [e]; exact hown5
    have h6 := H1.out.more (nd := ndC p) hown5' has5 (Nat.le_trans H1.out.st.hB hbl5.size)
    obtain ⟨o5, hx5⟩ := has5 _ _ _ H1.out.slab H1.out.free.1
    obtain ⟨c5, f5⟩ := o5.facts
    have HB6 := Lib.hid (below_set (HB0.out.trans hbl5) h6.hg (i := 0) (.slice A5 (o.length + 1) q5))
    have h6' : BxAt (w5.setCell ⟨w.heap.size, 0, none⟩ (.slice A5 (o.length + 1) q5)) B w.heap.size ⟨o ++ [ndC p], (p, r) :: v, G⟩ A5 q5 gp cp gr cr := h6
    obtain ⟨c6, f6⟩ := h6'.slab.facts
    obtain ⟨k60, k61, k62, k63⟩ := h6'.st.tops
    have H6 := Lib.hid h6'
    obtain ⟨o7, hx7⟩ := has5 _ _ _ O2.out HF2.out.1
    have HX7 := Lib.hid hx7; clear hx7
    have HAS := Lib.hid has5
    obtain ⟨c7, f7⟩ := o7.facts
    have O7 := Lib.hid (o7.far (b := w.heap.size) (i := 0) (by omega) (.slice A5 (o.length + 1) q5)); clear o7
    clear hbl5 has5 h6 h6' hown5 hown5' o5 c1 f1 k0 k1 k2 k3 hown1 c2 f2
    unfold psCells at c6 c5
    simp only [List.length_cons] at c6 c5))
  have HE := (H6.out.poke0 0).poke1 (r + 1)
  have hl : (o ++ [ndC p]).length = o.length + 1 := by simp
  obtain ⟨S1, S2⟩ := st_out (g := w.heap.size + 1) HE.st ((O7.out.far (fun e => d4 e.symm) _).far (fun e => d5 e.symm) _) ⟨by show (Value.slice A5 (o ++ [ndC p]).length q5).ownBlock ≠ _; rw [hl]; exact HX7.out, d4, d5⟩
  simp only [hl, List.length_cons] at S1 S2
  refine bodyPost_ret (results_cell rfl rfl (load_slab (t := 57) (cs := psCells ⟨o ++ [ndC p], (0, r + 1) :: v, G⟩ A5 q5 gp cp gr cr) ?_ 57 Tryz.underlying57 rfl (by kernel_rfl))) rfl ⟨_, _, _, _, _, _, rfl, ?_, ?_, ?_⟩
  · exact S1
  · exact below_set (below_set (below_set (below_set (below_set (below_set HB6.out l3 _) l4 _) (by omega) _) (by omega) _) (by omega) _) (by omega) _
  · exact S2
  · intro k cs t hk hf
    have hlt := hk.lt
    obtain ⟨hk5, hx⟩ := HAS.out k cs t ((hk.alloc _).alloc _) hf.1
    exact ⟨((((((hk5.far (by omega) _).far (fun e => hf.2.1 e.symm) _).far (fun e => hf.2.2 e.symm) _).far (by omega) _).far (by omega) _).far (by omega) _).far (by omega) _, by show (Value.slice A5 (o ++ [ndC p]).length q5).ownBlock ≠ _; rw [hl]; exact hx, hf.2⟩
set_option maxRecDepth 100000 in
set_option maxHeartbeats 2000000 in
theorem rrow_1 {B : Nat} {o : List Nd} {p r : Nat} {v : List (Nat × Nat)} {G : Nat} {Ao : Option Addr} {co gp cp gr cr : Nat} {w : World} (h : StAt w B ⟨o, (p, r) :: v, G⟩ Ao co gp cp gr cr) (hn : o.length ≤ 1000000) (hv : v.length ≤ 1000000) (hp : p ≤ 1000000) (hr : r ≤ 1000000) (t0 : ((p : Int) == 0) = false) (t1 : decide (1 < (p : Int)) = false) : Calls Tryz.prog 86 #[.agg (psCells ⟨o, (p, r) :: v, G⟩ Ao co gp cp gr cr)] w (toSt B ⟨o, (p, r) :: v, G⟩ Ao co gp gr ⟨o, (0, r + 1) :: v, G⟩ w) := by
  have h1 : BxAt (box (box w (psCells ⟨o, (p, r) :: v, G⟩ Ao co gp cp gr cr)) #[.slice none 0 0, .slice none 0 0, .slice none 0 0, .int .i64 0]) B w.heap.size ⟨o, (p, r) :: v, G⟩ Ao co gp cp gr cr := (BxAt.new h).keep ((Below.refl _ _).alloc (Nat.le_refl _) _)
  have HB0 := Lib.hid (show Below B w (box (box w (psCells ⟨o, (p, r) :: v, G⟩ Ao co gp cp gr cr)) #[.slice none 0 0, .slice none 0 0, .slice none 0 0, .int .i64 0]) from ((Below.refl B w).alloc h.hB _).alloc (by have := h.hB; simp; omega) _)
  obtain ⟨c1, f1⟩ := h1.slab.facts
  obtain ⟨k0, k1, k2, k3⟩ := h1.st.tops
  have hlen := h1.lenR
  simp only [List.length_cons] at hlen
  obtain ⟨l1, l2, l3, l4⟩ := hlen
  have hB0 : B ≤ w.heap.size := h.hB
  have d1 : gp ≠ w.heap.size := h1.free.2.1
  have d2 : gr ≠ w.heap.size := h1.free.2.2
  have d3 : gp ≠ gr := h1.st.ne
  have F2 := h.free (b := w.heap.size + 1) (by omega)
  have d4 : gp ≠ w.heap.size + 1 := F2.2.1
  have d5 : gr ≠ w.heap.size + 1 := F2.2.2
  have o2 : Slab (box (box w (psCells ⟨o, (p, r) :: v, G⟩ Ao co gp cp gr cr)) #[.slice none 0 0, .slice none 0 0, .slice none 0 0, .int .i64 0]) (w.heap.size + 1) #[.slice none 0 0, .slice none 0 0, .slice none 0 0, .int .i64 0] 57 := Slab.newAt _ _ _ (by simp)
  obtain ⟨c2, f2⟩ := o2.facts
  have O2 := Lib.hid o2; clear o2
  have HF2 := Lib.hid F2; clear F2
  have H1 := Lib.hid h1
  clear h1 h
  unfold psCells at c1 f1 k0 k1 k2 k3 c2 f2
  simp only [List.length_cons] at c1 f1 k0 k1 k2 k3 c2 f2
  show Calls Tryz.prog 86 #[.agg #[.slice Ao o.length co, .slice (some ⟨gp, 0, none⟩) (v.length + 1) cp, .slice (some ⟨gr, 0, none⟩) (v.length + 1) cr, .int .i64 (G : Int)]] w _
  go_enter Tryz.func86, Tryz.ntmps86
  go_wp2_with fail
  have HE := (H1.out.poke0 0).poke1 (r + 1)
  obtain ⟨S1, S2⟩ := st_out (g := w.heap.size + 1) HE.st ((O2.out.far (fun e => d4 e.symm) _).far (fun e => d5 e.symm) _) ⟨HF2.out.1, d4, d5⟩
  simp only [List.length_cons] at S1 S2
  refine bodyPost_ret (results_cell rfl rfl (load_slab (t := 57) (cs := psCells ⟨o, (0, r + 1) :: v, G⟩ Ao co gp cp gr cr) ?_ 57 Tryz.underlying57 rfl (by kernel_rfl))) rfl ⟨_, _, _, _, _, _, rfl, ?_, ?_, ?_⟩
  · exact S1
  · exact below_set (below_set (below_set (below_set (below_set (below_set HB0.out l3 _) l4 _) (by omega) _) (by omega) _) (by omega) _) (by omega) _
  · exact S2
  · intro k cs t hk hf
    have hlt := hk.lt
    exact ⟨((((((((hk.alloc _).alloc _).far (fun e => hf.2.1 e.symm) _).far (fun e => hf.2.2 e.symm) _).far (by omega) _).far (by omega) _).far (by omega) _).far (by omega) _), hf⟩
set_option maxRecDepth 100000 in
theorem rrow_any {B : Nat} {o : List Nd} {p r : Nat} {v : List (Nat × Nat)} {G : Nat} {Ao : Option Addr} {co gp cp gr cr : Nat} {w : World} (h : StAt w B ⟨o, (p, r) :: v, G⟩ Ao co gp cp gr cr) (hn : o.length ≤ 1000000) (hv : v.length ≤ 1000000) (hp : p ≤ 1000000) (hr : r ≤ 1000000) : Calls Tryz.prog 86 #[.agg (psCells ⟨o, (p, r) :: v, G⟩ Ao co gp cp gr cr)] w (toSt B ⟨o, (p, r) :: v, G⟩ Ao co gp gr (endRow ⟨o, (p, r) :: v, G⟩) w) := by
  have he : endRow ⟨o, (p, r) :: v, G⟩ = ⟨o ++ rowN p, (0, r + 1) :: v, G⟩ := rfl
  rw [he]
  unfold rowN
  by_cases h0 : p = 0
  · rw [if_pos h0]
    exact rrow_0 h hn hv hp hr (by rw [beq_iff_eq]; omega) (decide_eq_false (by omega))
  by_cases h1' : 1 < p
  · rw [if_neg h0, if_pos h1']
    exact rrow_2 h hn hv hp hr (by rw [beq_eq_false_iff_ne]; omega) (decide_eq_true (by omega))
  · rw [if_neg h0, if_neg h1', List.append_nil]
    exact rrow_1 h hn hv hp hr (by rw [beq_eq_false_iff_ne]; omega) (decide_eq_false (by omega))
end Go.Proofs.YtfcgmgpcbenfpaaGreat
