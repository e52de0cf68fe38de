/- Walks of the document's parser: all rows end; what bars a word. -/
import Derived.Test.YtfcgmgpcbenfpaaGreatProg
import Derived.WalkKit
import Derived.WalkSpells
import Derived.WalkLawsBesides
import Derived.Handy
import Derived.Lib.Hide
import Derived.Test.YtfcgmgpcbenfpaaGreatParE
import Derived.Deep.QuietTactic
import Derived.Deep.RegionLaw
import Derived.Deep.Cut
import Derived.BigQuiet
import Derived.Lib.QuietBelow
set_option linter.unusedVariables false
set_option linter.unusedSimpArgs false
namespace Go.Proofs.YtfcgmgpcbenfpaaGreat
open Go.RowKit SetP BrkP LexP AstP ParP
theorem Fr.refl (w : World) (n : Nat) (Ao : Option Addr) (co gp gr : Nat) : Fr w w n Ao co gp gr n Ao co gp gr := fun _ _ _ h f => ⟨h, f⟩
theorem Fr.trans {u v w : World} {n n1 n2 : Nat} {Ao A1 A2 : Option Addr} {co gp gr co1 gp1 gr1 co2 gp2 gr2 : Nat} (h : Fr u v n Ao co gp gr n1 A1 co1 gp1 gr1) (k : Fr v w n1 A1 co1 gp1 gr1 n2 A2 co2 gp2 gr2) : Fr u w n Ao co gp gr n2 A2 co2 gp2 gr2 :=
  fun b cs t hb hf => have ⟨h1, h2⟩ := h b cs t hb hf; k b cs t h1 h2
/-- A state, stored over another one. -/
theorem st_over {w : World} {B g : Nat} {y : PS} {Ao : Option Addr} {co gp cp gr cr : Nat} {vs : Array Value} (h : StAt w B y Ao co gp cp gr cr) (o : Slab w g vs 57) (hz : vs.size = 4) (hf : Free g Ao y.out.length co gp gr) (hg : B ≤ g) :
    BxAt ((((w.setCell ⟨g, 0, none⟩ (.slice Ao y.out.length co)).setCell ⟨g, 1, none⟩ (.slice (some ⟨gp, 0, none⟩) y.lv.length cp)).setCell ⟨g, 2, none⟩ (.slice (some ⟨gr, 0, none⟩) y.lv.length cr)).setCell ⟨g, 3, none⟩ (.int .i64 (y.groups : Int))) B g y Ao co gp cp gr cr := by
  refine ⟨?_, (((h.far hf _ _).far hf _ _).far hf _ _).far hf _ _, hf, hg⟩
  have h4 := (((o.set 0 (.slice Ao y.out.length co)).set 1 (.slice (some ⟨gp, 0, none⟩) y.lv.length cp)).set 2 (.slice (some ⟨gr, 0, none⟩) y.lv.length cr)).set 3 (.int .i64 (y.groups : Int))
  have e : (((vs.setIfInBounds 0 (.slice Ao y.out.length co)).setIfInBounds 1 (.slice (some ⟨gp, 0, none⟩) y.lv.length cp)).setIfInBounds 2 (.slice (some ⟨gr, 0, none⟩) y.lv.length cr)).setIfInBounds 3 (.int .i64 (y.groups : Int)) = psCells y Ao co gp cp gr cr := by
    obtain ⟨l⟩ := vs
    match l, hz with
    | [a, b, c, d], _ => rfl
  rw [e] at h4
  exact h4
set_option maxRecDepth 100000 in
set_option maxHeartbeats 2000000 in
theorem rrows_0 {B : Nat} {o : List Nd} {p r : Nat} {v : List (Nat × Nat)} {G : Nat} {Ao : Option Addr} {co gp cp gr cr : Nat} {w : World} (h : StAt w B ⟨o, (p, r) :: v, G⟩ Ao co gp cp gr cr) (hn : o.length ≤ 1000000) (hv : v.length ≤ 1000000) (hp : p ≤ 1000000) (hr : r ≤ 1000000) (t1 : decide (1 < (r : Int) + 1) = false) : Calls Tryz.prog 55 #[.agg (psCells ⟨o, (p, r) :: v, G⟩ Ao co gp cp gr cr)] w (toSt B ⟨o, (p, r) :: v, G⟩ Ao co gp gr ⟨o ++ rowN p, v, G⟩ w) := by
  have hbx := BxAt.new h
  have h1 : BxAt (box (box w (psCells ⟨o, (p, r) :: v, G⟩ Ao co gp cp gr cr)) #[.slice none 0 0, .slice none 0 0, .slice none 0 0, .int .i64 0]) B w.heap.size ⟨o, (p, r) :: v, G⟩ Ao co gp cp gr cr := hbx.keep ((Below.refl _ _).alloc (Nat.le_refl _) _)
  have hB0 : B ≤ w.heap.size := h.hB
  have HB0 := Lib.hid (show Below B w (box (box w (psCells ⟨o, (p, r) :: v, G⟩ Ao co gp cp gr cr)) #[.slice none 0 0, .slice none 0 0, .slice none 0 0, .int .i64 0]) from ((Below.refl B w).alloc h.hB _).alloc (by have := h.hB; simp; omega) _)
  have HF2 := Lib.hid (h.free (b := w.heap.size + 1) (by omega))
  have o2 : Slab (box (box w (psCells ⟨o, (p, r) :: v, G⟩ Ao co gp cp gr cr)) #[.slice none 0 0, .slice none 0 0, .slice none 0 0, .int .i64 0]) (w.heap.size + 1) #[.slice none 0 0, .slice none 0 0, .slice none 0 0, .int .i64 0] 57 := Slab.newAt _ _ _ (by simp)
  have O2 := Lib.hid o2; clear o2
  obtain ⟨c1, f1⟩ := h1.slab.facts
  have H1 := Lib.hid h1
  have C := rrow_any (H1.out.st) hn hv hp hr
  have he : endRow ⟨o, (p, r) :: v, G⟩ = ⟨o ++ rowN p, (0, r + 1) :: v, G⟩ := rfl
  rw [he] at C
  have hn2 : (o ++ rowN p).length ≤ 1000001 := by
    rw [List.length_append]; unfold rowN; split
    · simp; omega
    · split <;> simp <;> omega
  generalize o ++ rowN p = q at *
  clear he h h1 hbx
  unfold psCells at c1 f1 C
  simp only [List.length_cons] at c1 f1 C
  show Calls Tryz.prog 55 #[.agg #[.slice Ao o.length co, .slice (some ⟨gp, 0, none⟩) (v.length + 1) cp, .slice (some ⟨gr, 0, none⟩) (v.length + 1) cr, .int .i64 (G : Int)]] w _
  go_enter Tryz.func55, Tryz.ntmps55
  go_wp2_with fail
  refine C.mono ?_
  rintro e1 w1 ⟨A1, k1, p1, q1, r1, s1, he1, hb1, hs1, hfr1⟩
  have he2 : e1 = .returned (.agg #[.slice A1 q.length k1, .slice (some ⟨p1, 0, none⟩) (v.length + 1) q1, .slice (some ⟨r1, 0, none⟩) (v.length + 1) s1, .int .i64 (G : Int)]) := he1
  clear he1
  subst he2
  obtain ⟨ob, fb⟩ := hfr1 _ _ _ H1.out.slab H1.out.free
  obtain ⟨or_, fr_⟩ := hfr1 _ _ _ O2.out HF2.out
  have hx0 := st_over hs1 ob rfl fb hB0
  have HX := Lib.hid (show BxAt ((((w1.setCell ⟨w.heap.size, 0, none⟩ (.slice A1 q.length k1)).setCell ⟨w.heap.size, 1, none⟩ (.slice (some ⟨p1, 0, none⟩) (v.length + 1) q1)).setCell ⟨w.heap.size, 2, none⟩ (.slice (some ⟨r1, 0, none⟩) (v.length + 1) s1)).setCell ⟨w.heap.size, 3, none⟩ (.int .i64 (G : Int))) B w.heap.size ⟨q, (0, r + 1) :: v, G⟩ A1 k1 p1 q1 r1 s1 from hx0)
  clear hx0
  have HB1 := Lib.hid (show Below B w ((((w1.setCell ⟨w.heap.size, 0, none⟩ (.slice A1 q.length k1)).setCell ⟨w.heap.size, 1, none⟩ (.slice (some ⟨p1, 0, none⟩) (v.length + 1) q1)).setCell ⟨w.heap.size, 2, none⟩ (.slice (some ⟨r1, 0, none⟩) (v.length + 1) s1)).setCell ⟨w.heap.size, 3, none⟩ (.int .i64 (G : Int))) from below_set (below_set (below_set (below_set (HB0.out.trans hb1) hB0 _) hB0 _) hB0 _) hB0 _)
  have HFR := Lib.hid (show Fr w ((((w1.setCell ⟨w.heap.size, 0, none⟩ (.slice A1 q.length k1)).setCell ⟨w.heap.size, 1, none⟩ (.slice (some ⟨p1, 0, none⟩) (v.length + 1) q1)).setCell ⟨w.heap.size, 2, none⟩ (.slice (some ⟨r1, 0, none⟩) (v.length + 1) s1)).setCell ⟨w.heap.size, 3, none⟩ (.int .i64 (G : Int))) o.length Ao co gp gr q.length A1 k1 p1 r1 from fun k cs t hk hf => by
    have hlt := hk.lt
    obtain ⟨h1, h2⟩ := hfr1 k cs t ((hk.alloc _).alloc _) hf
    exact ⟨(((h1.far (by omega) _).far (by omega) _).far (by omega) _).far (by omega) _, h2⟩)
  have OR := Lib.hid (show Slab ((((w1.setCell ⟨w.heap.size, 0, none⟩ (.slice A1 q.length k1)).setCell ⟨w.heap.size, 1, none⟩ (.slice (some ⟨p1, 0, none⟩) (v.length + 1) q1)).setCell ⟨w.heap.size, 2, none⟩ (.slice (some ⟨r1, 0, none⟩) (v.length + 1) s1)).setCell ⟨w.heap.size, 3, none⟩ (.int .i64 (G : Int))) (w.heap.size + 1) #[.slice none 0 0, .slice none 0 0, .slice none 0 0, .int .i64 0] 57 from (((or_.far (by omega) _).far (by omega) _).far (by omega) _).far (by omega) _)
  have FR_ := Lib.hid fr_
  obtain ⟨cb, fb'⟩ := ob.facts
  obtain ⟨cr_, fr'⟩ := or_.facts
  have d1 : p1 ≠ w.heap.size := fb.2.1
  have d2 : r1 ≠ w.heap.size := fb.2.2
  have d3 : p1 ≠ r1 := hs1.ne
  have d4 : p1 ≠ w.heap.size + 1 := fr_.2.1
  have d5 : r1 ≠ w.heap.size + 1 := fr_.2.2
  unfold psCells at cb
  simp only [List.length_cons] at cb
  clear C hb1 hs1 hfr1 ob fb or_ fr_ c1 f1
  go_upto_region 2 with fail
  generalize hW2 : ((((w1.setCell ⟨w.heap.size, 0, none⟩ (.slice A1 q.length k1)).setCell ⟨w.heap.size, 1, none⟩ (.slice (some ⟨p1, 0, none⟩) (v.length + 1) q1)).setCell ⟨w.heap.size, 2, none⟩ (.slice (some ⟨r1, 0, none⟩) (v.length + 1) s1)).setCell ⟨w.heap.size, 3, none⟩ (.int .i64 (G : Int))) = W2
  replace HX := Lib.hid (show BxAt W2 B w.heap.size ⟨q, (0, r + 1) :: v, G⟩ A1 k1 p1 q1 r1 s1 from by rw [← hW2]; exact HX.out)
  replace HB1 := Lib.hid (show Below B w W2 from by rw [← hW2]; exact HB1.out)
  replace HFR := Lib.hid (show Fr w W2 o.length Ao co gp gr q.length A1 k1 p1 r1 from by rw [← hW2]; exact HFR.out)
  replace OR := Lib.hid (show Slab W2 (w.heap.size + 1) #[.slice none 0 0, .slice none 0 0, .slice none 0 0, .int .i64 0] 57 from by rw [← hW2]; exact OR.out)
  clear hW2 cb fb' cr_ fr'
  obtain ⟨kx0, kx1, kx2, kx3⟩ := HX.out.st.tops
  obtain ⟨l1, l2, l3, l4⟩ := HX.out.lenR
  simp only [List.length_cons] at l1 l2
  obtain ⟨cx, fx⟩ := HX.out.slab.facts
  unfold psCells at cx
  simp only [List.length_cons] at cx
  go_upto_region 7 with fail
  have H7 := Lib.hid (show BxAt ((W2.setCell ⟨w.heap.size, 2, none⟩ (.slice (some ⟨r1, 0, none⟩) v.length s1)).setCell ⟨w.heap.size, 1, none⟩ (.slice (some ⟨p1, 0, none⟩) v.length q1)) B w.heap.size ⟨q, v, G⟩ A1 k1 p1 q1 r1 s1 from HX.out.cut)
  have HB7 := Lib.hid (show Below B w ((W2.setCell ⟨w.heap.size, 2, none⟩ (.slice (some ⟨r1, 0, none⟩) v.length s1)).setCell ⟨w.heap.size, 1, none⟩ (.slice (some ⟨p1, 0, none⟩) v.length q1)) from below_set (below_set HB1.out hB0 _) hB0 _)
  have HFR7 := Lib.hid (show Fr w ((W2.setCell ⟨w.heap.size, 2, none⟩ (.slice (some ⟨r1, 0, none⟩) v.length s1)).setCell ⟨w.heap.size, 1, none⟩ (.slice (some ⟨p1, 0, none⟩) v.length q1)) o.length Ao co gp gr (q).length A1 k1 p1 r1 from fun k cs t hk hf => by
    have hlt := hk.lt
    obtain ⟨h1, h2⟩ := HFR.out k cs t hk hf
    exact ⟨(h1.far (by omega) _).far (by omega) _, h2⟩)
  have O7 := Lib.hid (show Slab ((W2.setCell ⟨w.heap.size, 2, none⟩ (.slice (some ⟨r1, 0, none⟩) v.length s1)).setCell ⟨w.heap.size, 1, none⟩ (.slice (some ⟨p1, 0, none⟩) v.length q1)) (w.heap.size + 1) #[.slice none 0 0, .slice none 0 0, .slice none 0 0, .int .i64 0] 57 from (OR.out.far (by omega) _).far (by omega) _)
  clear d1 d2 d3 d4 d5 kx0 kx1 kx2 kx3 l1 l2 l3 l4 hn hv hp hr hn2 t1 cx fx
  generalize hW : ((W2.setCell ⟨w.heap.size, 2, none⟩ (.slice (some ⟨r1, 0, none⟩) v.length s1)).setCell ⟨w.heap.size, 1, none⟩ (.slice (some ⟨p1, 0, none⟩) v.length q1)) = W7
  replace H7 := Lib.hid (show BxAt W7 B w.heap.size ⟨q, v, G⟩ A1 k1 p1 q1 r1 s1 from by rw [← hW]; exact H7.out)
  replace O7 := Lib.hid (show Slab W7 (w.heap.size + 1) #[.slice none 0 0, .slice none 0 0, .slice none 0 0, .int .i64 0] 57 from by rw [← hW]; exact O7.out)
  replace HB7 := Lib.hid (show Below B w W7 from by rw [← hW]; exact HB7.out)
  replace HFR7 := Lib.hid (show Fr w W7 o.length Ao co gp gr (q).length A1 k1 p1 r1 from by rw [← hW]; exact HFR7.out)
  clear hW
  obtain ⟨c7, f7⟩ := H7.out.slab.facts
  obtain ⟨c8, f8⟩ := O7.out.facts
  unfold psCells at c7
  go_wp2
  obtain ⟨S1, S2⟩ := st_out (g := w.heap.size + 1) H7.out.st O7.out FR_.out
  try simp only [List.length_append, List.length_cons, List.length_nil, Nat.zero_add] at S1 S2
  refine bodyPost_ret (results_cell rfl rfl (load_slab (t := 57) (cs := psCells ⟨q, v, G⟩ A1 k1 p1 q1 r1 s1) ?_ 57 Tryz.underlying57 rfl (by kernel_rfl))) rfl ⟨_, _, _, _, _, _, rfl, ?_, ?_, ?_⟩
  · exact S1
  · exact below_set (below_set (below_set (below_set HB7.out (by omega) _) (by omega) _) (by omega) _) (by omega) _
  · exact S2
  · intro k cs t hk hf
    have hlt := hk.lt
    obtain ⟨h1, h2⟩ := HFR7.out k cs t hk hf
    exact ⟨(((h1.far (by omega) _).far (by omega) _).far (by omega) _).far (by omega) _, h2⟩
set_option maxRecDepth 100000 in
set_option maxHeartbeats 2000000 in
theorem rrows_1 {B : Nat} {o : List Nd} {p r : Nat} {v : List (Nat × Nat)} {G : Nat} {Ao : Option Addr} {co gp cp gr cr : Nat} {w : World} (h : StAt w B ⟨o, (p, r) :: v, G⟩ Ao co gp cp gr cr) (hn : o.length ≤ 1000000) (hv : v.length ≤ 1000000) (hp : p ≤ 1000000) (hr : r ≤ 1000000) (t1 : decide (1 < (r : Int) + 1) = true) : Calls Tryz.prog 55 #[.agg (psCells ⟨o, (p, r) :: v, G⟩ Ao co gp cp gr cr)] w (toSt B ⟨o, (p, r) :: v, G⟩ Ao co gp gr ⟨o ++ rowN p ++ [ndA (r + 1)], v, G⟩ w) := by
  obtain ⟨i0, hi, hz0, hz1, hz2⟩ := info_parts info_node7
  have HI := Lib.hid hi; clear hi
  have HZ0 := Lib.hid hz0; clear hz0
  have HZ1 := Lib.hid hz1; clear hz1
  have HZ2 := Lib.hid hz2; clear hz2
  have hbx := BxAt.new h
  have h1 : BxAt (box (box w (psCells ⟨o, (p, r) :: v, G⟩ Ao co gp cp gr cr)) #[.slice none 0 0, .slice none 0 0, .slice none 0 0, .int .i64 0]) B w.heap.size ⟨o, (p, r) :: v, G⟩ Ao co gp cp gr cr := hbx.keep ((Below.refl _ _).alloc (Nat.le_refl _) _)
  have hB0 : B ≤ w.heap.size := h.hB
  have HB0 := Lib.hid (show Below B w (box (box w (psCells ⟨o, (p, r) :: v, G⟩ Ao co gp cp gr cr)) #[.slice none 0 0, .slice none 0 0, .slice none 0 0, .int .i64 0]) from ((Below.refl B w).alloc h.hB _).alloc (by have := h.hB; simp; omega) _)
  have HF2 := Lib.hid (h.free (b := w.heap.size + 1) (by omega))
  have o2 : Slab (box (box w (psCells ⟨o, (p, r) :: v, G⟩ Ao co gp cp gr cr)) #[.slice none 0 0, .slice none 0 0, .slice none 0 0, .int .i64 0]) (w.heap.size + 1) #[.slice none 0 0, .slice none 0 0, .slice none 0 0, .int .i64 0] 57 := Slab.newAt _ _ _ (by simp)
  have O2 := Lib.hid o2; clear o2
  obtain ⟨c1, f1⟩ := h1.slab.facts
  have H1 := Lib.hid h1
  have C := rrow_any (H1.out.st) hn hv hp hr
  have he : endRow ⟨o, (p, r) :: v, G⟩ = ⟨o ++ rowN p, (0, r + 1) :: v, G⟩ := rfl
  rw [he] at C
  have hn2 : (o ++ rowN p).length ≤ 1000001 := by
    rw [List.length_append]; unfold rowN; split
    · simp; omega
    · split <;> simp <;> omega
  generalize o ++ rowN p = q at *
  clear he h h1 hbx
  unfold psCells at c1 f1 C
  simp only [List.length_cons] at c1 f1 C
  show Calls Tryz.prog 55 #[.agg #[.slice Ao o.length co, .slice (some ⟨gp, 0, none⟩) (v.length + 1) cp, .slice (some ⟨gr, 0, none⟩) (v.length + 1) cr, .int .i64 (G : Int)]] w _
  go_enter Tryz.func55, Tryz.ntmps55
  go_wp2_with fail
  refine C.mono ?_
  rintro e1 w1 ⟨A1, k1, p1, q1, r1, s1, he1, hb1, hs1, hfr1⟩
  have he2 : e1 = .returned (.agg #[.slice A1 q.length k1, .slice (some ⟨p1, 0, none⟩) (v.length + 1) q1, .slice (some ⟨r1, 0, none⟩) (v.length + 1) s1, .int .i64 (G : Int)]) := he1
  clear he1
  subst he2
  obtain ⟨ob, fb⟩ := hfr1 _ _ _ H1.out.slab H1.out.free
  obtain ⟨or_, fr_⟩ := hfr1 _ _ _ O2.out HF2.out
  have hx0 := st_over hs1 ob rfl fb hB0
  have HX := Lib.hid (show BxAt ((((w1.setCell ⟨w.heap.size, 0, none⟩ (.slice A1 q.length k1)).setCell ⟨w.heap.size, 1, none⟩ (.slice (some ⟨p1, 0, none⟩) (v.length + 1) q1)).setCell ⟨w.heap.size, 2, none⟩ (.slice (some ⟨r1, 0, none⟩) (v.length + 1) s1)).setCell ⟨w.heap.size, 3, none⟩ (.int .i64 (G : Int))) B w.heap.size ⟨q, (0, r + 1) :: v, G⟩ A1 k1 p1 q1 r1 s1 from hx0)
  clear hx0
  have HB1 := Lib.hid (show Below B w ((((w1.setCell ⟨w.heap.size, 0, none⟩ (.slice A1 q.length k1)).setCell ⟨w.heap.size, 1, none⟩ (.slice (some ⟨p1, 0, none⟩) (v.length + 1) q1)).setCell ⟨w.heap.size, 2, none⟩ (.slice (some ⟨r1, 0, none⟩) (v.length + 1) s1)).setCell ⟨w.heap.size, 3, none⟩ (.int .i64 (G : Int))) from below_set (below_set (below_set (below_set (HB0.out.trans hb1) hB0 _) hB0 _) hB0 _) hB0 _)
  have HFR := Lib.hid (show Fr w ((((w1.setCell ⟨w.heap.size, 0, none⟩ (.slice A1 q.length k1)).setCell ⟨w.heap.size, 1, none⟩ (.slice (some ⟨p1, 0, none⟩) (v.length + 1) q1)).setCell ⟨w.heap.size, 2, none⟩ (.slice (some ⟨r1, 0, none⟩) (v.length + 1) s1)).setCell ⟨w.heap.size, 3, none⟩ (.int .i64 (G : Int))) o.length Ao co gp gr q.length A1 k1 p1 r1 from fun k cs t hk hf => by
    have hlt := hk.lt
    obtain ⟨h1, h2⟩ := hfr1 k cs t ((hk.alloc _).alloc _) hf
    exact ⟨(((h1.far (by omega) _).far (by omega) _).far (by omega) _).far (by omega) _, h2⟩)
  have OR := Lib.hid (show Slab ((((w1.setCell ⟨w.heap.size, 0, none⟩ (.slice A1 q.length k1)).setCell ⟨w.heap.size, 1, none⟩ (.slice (some ⟨p1, 0, none⟩) (v.length + 1) q1)).setCell ⟨w.heap.size, 2, none⟩ (.slice (some ⟨r1, 0, none⟩) (v.length + 1) s1)).setCell ⟨w.heap.size, 3, none⟩ (.int .i64 (G : Int))) (w.heap.size + 1) #[.slice none 0 0, .slice none 0 0, .slice none 0 0, .int .i64 0] 57 from (((or_.far (by omega) _).far (by omega) _).far (by omega) _).far (by omega) _)
  have FR_ := Lib.hid fr_
  obtain ⟨cb, fb'⟩ := ob.facts
  obtain ⟨cr_, fr'⟩ := or_.facts
  have d1 : p1 ≠ w.heap.size := fb.2.1
  have d2 : r1 ≠ w.heap.size := fb.2.2
  have d3 : p1 ≠ r1 := hs1.ne
  have d4 : p1 ≠ w.heap.size + 1 := fr_.2.1
  have d5 : r1 ≠ w.heap.size + 1 := fr_.2.2
  unfold psCells at cb
  simp only [List.length_cons] at cb
  clear C hb1 hs1 hfr1 ob fb or_ fr_ c1 f1
  go_upto_region 2 with fail
  generalize hW2 : ((((w1.setCell ⟨w.heap.size, 0, none⟩ (.slice A1 q.length k1)).setCell ⟨w.heap.size, 1, none⟩ (.slice (some ⟨p1, 0, none⟩) (v.length + 1) q1)).setCell ⟨w.heap.size, 2, none⟩ (.slice (some ⟨r1, 0, none⟩) (v.length + 1) s1)).setCell ⟨w.heap.size, 3, none⟩ (.int .i64 (G : Int))) = W2
  replace HX := Lib.hid (show BxAt W2 B w.heap.size ⟨q, (0, r + 1) :: v, G⟩ A1 k1 p1 q1 r1 s1 from by rw [← hW2]; exact HX.out)
  replace HB1 := Lib.hid (show Below B w W2 from by rw [← hW2]; exact HB1.out)
  replace HFR := Lib.hid (show Fr w W2 o.length Ao co gp gr q.length A1 k1 p1 r1 from by rw [← hW2]; exact HFR.out)
  replace OR := Lib.hid (show Slab W2 (w.heap.size + 1) #[.slice none 0 0, .slice none 0 0, .slice none 0 0, .int .i64 0] 57 from by rw [← hW2]; exact OR.out)
  clear hW2 cb fb' cr_ fr'
  obtain ⟨kx0, kx1, kx2, kx3⟩ := HX.out.st.tops
  obtain ⟨l1, l2, l3, l4⟩ := HX.out.lenR
  simp only [List.length_cons] at l1 l2
  obtain ⟨cx, fx⟩ := HX.out.slab.facts
  unfold psCells at cx
  simp only [List.length_cons] at cx
  have p4 : Slab (W2.alloc (.cells #[.int .i64 6, .int .i64 ((r : Int) + 1), .int .i64 0, .int .i64 0, .int .u64 0, .int .u64 0, .int .u64 0, .int .u64 0] 51)) W2.heap.size #[.int .i64 6, .int .i64 ((r : Int) + 1), .int .i64 0, .int .i64 0, .int .u64 0, .int .u64 0, .int .u64 0, .int .u64 0] 51 := Slab.new _ _ _
  have H4 := Lib.hid (HX.out.keep ((Below.refl _ _).alloc (Nat.le_refl _) (.cells #[.int .i64 6, .int .i64 ((r : Int) + 1), .int .i64 0, .int .i64 0, .int .u64 0, .int .u64 0, .int .u64 0, .int .u64 0] 51)))
  have HB4 := Lib.hid (HB1.out.alloc HX.out.st.hB (.cells #[.int .i64 6, .int .i64 ((r : Int) + 1), .int .i64 0, .int .i64 0, .int .u64 0, .int .u64 0, .int .u64 0, .int .u64 0] 51))
  have hsz4 : B ≤ (W2.alloc (.cells #[.int .i64 6, .int .i64 ((r : Int) + 1), .int .i64 0, .int .i64 0, .int .u64 0, .int .u64 0, .int .u64 0, .int .u64 0] 51)).heap.size := H4.out.st.hB
  have P4 := Lib.hid p4; clear p4
  have hw4 : (W2.alloc (.cells #[.int .i64 6, .int .i64 ((r : Int) + 1), .int .i64 0, .int .i64 0, .int .u64 0, .int .u64 0, .int .u64 0, .int .u64 0] 51)).ownsRow B 51 8 (.slice A1 q.length k1) q.length (flatD q) := H4.out.st.out
  have HW4 := Lib.hid hw4; clear hw4
  have hszw : B ≤ W2.heap.size := HX.out.st.hB
  obtain ⟨c4, f4⟩ := H4.out.slab.facts
  obtain ⟨k40, k41, k42, k43⟩ := H4.out.st.tops
  unfold psCells at c4
  simp only [List.length_cons] at c4
  have hix : (v.length : Int) < (v.length : Int) + 1 := by omega
  go_upto_region 4 with fail
  go_region_law (refine step_append_at (W2.alloc (.cells #[.int .i64 6, .int .i64 ((r : Int) + 1), .int .i64 0, .int .i64 0, .int .u64 0, .int .u64 0, .int .u64 0, .int .u64 0] 51)) w rfl (.tmp 17) (.tmp 24) 28 rfl B 51 i0 _ _ _ Tryz.underlying28 HI.out HZ0.out HZ1.out HZ2.out rfl (by decide) rfl (by have hb := HB4.out; (repeat' (first | (with_reducible exact Below.refl _ _) | (with_reducible assumption) | (with_reducible refine Below.alloc ?_ ?_ _) | (with_reducible refine Below.drew ?_) | (with_reducible refine below_set ?_ ?_ _) | (with_reducible refine below_call ?_ ?_ (by assumption)) | (with_reducible exact Below.size (by assumption)) | omega | go_size))) _ _ _ _ (by simp [Act.eval, Act.put]) HW4.out W2.heap.size #[.int .i64 6, .int .i64 ((r : Int) + 1), .int .i64 0, .int .i64 0, .int .u64 0, .int .u64 0, .int .u64 0, .int .u64 0] (by simp [Act.eval, Act.put]) P4.out rfl (by simp [Value.oneCell']) (by unfold maxLen; omega) (by omega) (by first | omega | (simp; omega)) ?_; intro A5 q5 w5 hown5 hbl5 has5; obtain ⟨o5, hx5⟩ := has5 _ _ _ H4.out.slab H4.out.free.1; obtain ⟨c5, f5⟩ := o5.facts; unfold psCells at c5; have HB5 := Lib.hid hbl5; have HAS := Lib.hid has5; have HO5 := Lib.hid hown5; clear hbl5 has5 hown5 o5)
  all_goals
    have hown5' : w5.ownsRow B 51 8 (.slice A5 (q.length + 1) q5) (q.length + 1) (flatD q ++ (ndCells (ndA (r + 1))).toList) := by
      have e := nd_lit 6 ((r + 1 : Nat) : Int)
      show w5.ownsRow _ _ _ _ _ (flatD q ++ (ndCells ⟨6, ((r + 1 : Nat) : Int), 0, 0, noSet⟩).toList)
      rw [e]; exact HO5.out
    have h6 := H4.out.more (nd := ndA (r + 1)) hown5' HAS.out (Nat.le_trans hB0 (Nat.le_trans (by have := HB5.out.size; exact this) (Nat.le_refl _)))
    have hq1 : (q ++ [ndA (r + 1)]).length = q.length + 1 := by simp
    obtain ⟨o7, hx7⟩ := HAS.out _ _ _ (OR.out.alloc (.cells #[.int .i64 6, .int .i64 ((r : Int) + 1), .int .i64 0, .int .i64 0, .int .u64 0, .int .u64 0, .int .u64 0, .int .u64 0] 51)) FR_.out.1
    go_upto_region 5 with fail
    generalize hW6 : w5.setCell ⟨w.heap.size, 0, none⟩ (.slice A5 (q.length + 1) q5) = W6
    replace HX := Lib.hid (show BxAt W6 B w.heap.size ⟨q ++ [ndA (r + 1)], (0, r + 1) :: v, G⟩ A5 q5 p1 q1 r1 s1 from by rw [← hW6]; exact h6)
    replace HB1 := Lib.hid (show Below B w W6 from by rw [← hW6]; exact below_set HB5.out hB0 _)
    replace HFR := Lib.hid (show Fr w W6 o.length Ao co gp gr (q ++ [ndA (r + 1)]).length A5 q5 p1 r1 from fun k cs t hk hf => by
      have hlt := hk.lt
      obtain ⟨g1, g2⟩ := HFR.out k cs t hk hf
      obtain ⟨g3, g4⟩ := HAS.out k cs t (g1.alloc _) g2.1
      rw [← hW6]
      exact ⟨g3.far (by omega) _, by rw [hq1]; exact g4, g2.2⟩)
    replace OR := Lib.hid (show Slab W6 (w.heap.size + 1) #[.slice none 0 0, .slice none 0 0, .slice none 0 0, .int .i64 0] 57 from by rw [← hW6]; exact o7.far (by omega) _)
    replace FR_ := Lib.hid (show Free (w.heap.size + 1) A5 (q ++ [ndA (r + 1)]).length q5 p1 r1 from ⟨by rw [hq1]; exact hx7, FR_.out.2⟩)
    clear hW6 h6 o7 hx7 c4 f4 c5 f5 k40 k41 k42 k43 kx0 kx1 kx2 kx3 cx fx hown5' HAS HO5 HB5
    obtain ⟨kx0, kx1, kx2, kx3⟩ := HX.out.st.tops
    obtain ⟨cx, fx⟩ := HX.out.slab.facts
    unfold psCells at cx
    simp only [List.length_cons] at cx
    go_upto_region 7 with fail
    have H7 := Lib.hid (show BxAt ((W6.setCell ⟨w.heap.size, 2, none⟩ (.slice (some ⟨r1, 0, none⟩) v.length s1)).setCell ⟨w.heap.size, 1, none⟩ (.slice (some ⟨p1, 0, none⟩) v.length q1)) B w.heap.size ⟨q ++ [ndA (r + 1)], v, G⟩ A5 q5 p1 q1 r1 s1 from HX.out.cut)
    have HB7 := Lib.hid (show Below B w ((W6.setCell ⟨w.heap.size, 2, none⟩ (.slice (some ⟨r1, 0, none⟩) v.length s1)).setCell ⟨w.heap.size, 1, none⟩ (.slice (some ⟨p1, 0, none⟩) v.length q1)) from below_set (below_set HB1.out hB0 _) hB0 _)
    have HFR7 := Lib.hid (show Fr w ((W6.setCell ⟨w.heap.size, 2, none⟩ (.slice (some ⟨r1, 0, none⟩) v.length s1)).setCell ⟨w.heap.size, 1, none⟩ (.slice (some ⟨p1, 0, none⟩) v.length q1)) o.length Ao co gp gr (q ++ [ndA (r + 1)]).length A5 q5 p1 r1 from fun k cs t hk hf => by
      have hlt := hk.lt
      obtain ⟨h1, h2⟩ := HFR.out k cs t hk hf
      exact ⟨(h1.far (by omega) _).far (by omega) _, h2⟩)
    have O7 := Lib.hid (show Slab ((W6.setCell ⟨w.heap.size, 2, none⟩ (.slice (some ⟨r1, 0, none⟩) v.length s1)).setCell ⟨w.heap.size, 1, none⟩ (.slice (some ⟨p1, 0, none⟩) v.length q1)) (w.heap.size + 1) #[.slice none 0 0, .slice none 0 0, .slice none 0 0, .int .i64 0] 57 from (OR.out.far (by omega) _).far (by omega) _)
    clear d1 d2 d3 d4 d5 kx0 kx1 kx2 kx3 l1 l2 l3 l4 hn hv hp hr hn2 t1 cx fx
    generalize hW : ((W6.setCell ⟨w.heap.size, 2, none⟩ (.slice (some ⟨r1, 0, none⟩) v.length s1)).setCell ⟨w.heap.size, 1, none⟩ (.slice (some ⟨p1, 0, none⟩) v.length q1)) = W7
    replace H7 := Lib.hid (show BxAt W7 B w.heap.size ⟨q ++ [ndA (r + 1)], v, G⟩ A5 q5 p1 q1 r1 s1 from by rw [← hW]; exact H7.out)
    replace O7 := Lib.hid (show Slab W7 (w.heap.size + 1) #[.slice none 0 0, .slice none 0 0, .slice none 0 0, .int .i64 0] 57 from by rw [← hW]; exact O7.out)
    replace HB7 := Lib.hid (show Below B w W7 from by rw [← hW]; exact HB7.out)
    replace HFR7 := Lib.hid (show Fr w W7 o.length Ao co gp gr (q ++ [ndA (r + 1)]).length A5 q5 p1 r1 from by rw [← hW]; exact HFR7.out)
    clear hW
    obtain ⟨c7, f7⟩ := H7.out.slab.facts
    obtain ⟨c8, f8⟩ := O7.out.facts
    unfold psCells at c7
    go_wp2
    obtain ⟨S1, S2⟩ := st_out (g := w.heap.size + 1) H7.out.st O7.out FR_.out
    try simp only [List.length_append, List.length_cons, List.length_nil, Nat.zero_add] at S1 S2
    refine bodyPost_ret (results_cell rfl rfl (load_slab (t := 57) (cs := psCells ⟨q ++ [ndA (r + 1)], v, G⟩ A5 q5 p1 q1 r1 s1) ?_ 57 Tryz.underlying57 rfl (by kernel_rfl))) rfl ⟨_, _, _, _, _, _, rfl, ?_, ?_, ?_⟩
    · exact S1
    · exact below_set (below_set (below_set (below_set HB7.out (by omega) _) (by omega) _) (by omega) _) (by omega) _
    · exact S2
    · intro k cs t hk hf
      have hlt := hk.lt
      obtain ⟨h1, h2⟩ := HFR7.out k cs t hk hf
      exact ⟨(((h1.far (by omega) _).far (by omega) _).far (by omega) _).far (by omega) _, h2⟩
set_option maxRecDepth 100000 in
theorem rrows_any {B : Nat} {o : List Nd} {p r : Nat} {v : List (Nat × Nat)} {G : Nat} {Ao : Option Addr} {co gp cp gr cr : Nat} {w : World} (h : StAt w B ⟨o, (p, r) :: v, G⟩ Ao co gp cp gr cr) (hn : o.length ≤ 1000000) (hv : v.length ≤ 1000000) (hp : p ≤ 1000000) (hr : r ≤ 1000000) : Calls Tryz.prog 55 #[.agg (psCells ⟨o, (p, r) :: v, G⟩ Ao co gp cp gr cr)] w (toSt B ⟨o, (p, r) :: v, G⟩ Ao co gp gr (endRows ⟨o, (p, r) :: v, G⟩) w) := by
  have he : endRows ⟨o, (p, r) :: v, G⟩ = ⟨o ++ rowN p ++ rowsN (r + 1), v, G⟩ := rfl
  rw [he]
  unfold rowsN
  by_cases h1 : 1 < r + 1
  · rw [if_pos h1]; exact rrows_1 h hn hv hp hr (decide_eq_true (by omega))
  · rw [if_neg h1, List.append_nil]; exact rrows_0 h hn hv hp hr (decide_eq_false (by omega))
end Go.Proofs.YtfcgmgpcbenfpaaGreat
