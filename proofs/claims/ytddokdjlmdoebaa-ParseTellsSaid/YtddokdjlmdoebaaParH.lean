/- Walks of the document's parser: a word more. -/
import Derived.Test.YtddokdjlmdoebaaProg
import Derived.WalkKit
import Derived.WalkSpells
import Derived.WalkLawsBesides
import Derived.Handy
import Derived.Lib.Hide
import Derived.Test.YtddokdjlmdoebaaParG
import Derived.Deep.QuietTactic
import Derived.Deep.Cut
import Derived.BigQuiet
import Derived.Lib.QuietBelow
set_option linter.unusedVariables false
set_option linter.unusedSimpArgs false
namespace Go.Proofs.Ytddokdjlmdoebaa
open Go.RowKit SetP BrkP LexP AstP ParP
abbrev bxw (w : World) (cs ws : Array Value) : World := ((w.alloc (.cells cs 104)).alloc (.cells ws 57)).alloc (.cells #[.slice none 0 0, .slice none 0 0, .slice none 0 0, .int .i64 0] 104)
theorem bxw_below (w : World) (B : Nat) (h : B ≤ w.heap.size) (cs ws : Array Value) : Below B w (bxw w cs ws) := (((Below.refl B w).alloc h _).alloc (by simp; omega) _).alloc (by simp; omega) _
theorem bxw_box {w : World} {B : Nat} {x : PS} {Ao : Option Addr} {co gp cp gr cr : Nat} (h : StAt w B x Ao co gp cp gr cr) (ws : Array Value) : BxAt (bxw w (psCells x Ao co gp cp gr cr) ws) B w.heap.size x Ao co gp cp gr cr :=
  (BxAt.new h).keep (((Below.refl _ _).alloc (Nat.le_refl _) _).alloc (by simp) _)
theorem bxw_word (w : World) (cs ws : Array Value) : Slab (bxw w cs ws) (w.heap.size + 1) ws 57 := (Slab.newAt _ _ _ (by simp)).alloc _
theorem bxw_res (w : World) (cs ws : Array Value) : Slab (bxw w cs ws) (w.heap.size + 2) #[.slice none 0 0, .slice none 0 0, .slice none 0 0, .int .i64 0] 104 := Slab.newAt _ _ _ (by simp)
theorem bxw_slab {w : World} {cs ws : Array Value} {k : Nat} {ks : Array Value} {t : TypeId} (h : Slab w k ks t) : Slab (bxw w cs ws) k ks t := ((h.alloc _).alloc _).alloc _
set_option maxRecDepth 100000 in
set_option maxHeartbeats 2000000 in
theorem rtake_one {B : Nat} {o : List Nd} {p r : Nat} {v : List (Nat × Nat)} {G : Nat} {Ao : Option Addr} {co gp cp gr cr : Nat} {w : World} (h : StAt w B ⟨o, (p, r) :: v, G⟩ Ao co gp cp gr cr) (hn : o.length ≤ 1000000) (hv : v.length ≤ 1000000) (hp : p ≤ 1000000) (hr : r ≤ 1000000) (at_ stop n m : Int) (f : Nat → Bool) : Calls Try.prog 113 #[.agg (psCells ⟨o, (p, r) :: v, G⟩ Ao co gp cp gr cr), wdV ⟨1, at_, stop, f, n, m⟩] w (toSt B ⟨o, (p, r) :: v, G⟩ Ao co gp gr ⟨o ++ [ndS f], (p + 1, r) :: v, G⟩ w) := by
  obtain ⟨i0, hi, hz0, hz1, hz2⟩ := info_parts info_node7
  have HI := Lib.hid hi; clear hi
  have HZ0 := Lib.hid hz0; clear hz0
  have HZ1 := Lib.hid hz1; clear hz1
  have HZ2 := Lib.hid hz2; clear hz2
  have hB0 : B ≤ w.heap.size := h.hB
  have h1 : BxAt (bxw w #[.slice Ao o.length co, .slice (some ⟨gp, 0, none⟩) (v.length + 1) cp, .slice (some ⟨gr, 0, none⟩) (v.length + 1) cr, .int .i64 (G : Int)] #[.int .i64 1, .int .i64 at_, .int .i64 stop, .int .u64 (wd f 0), .int .u64 (wd f 1), .int .u64 (wd f 2), .int .u64 (wd f 3), .int .i64 n, .int .i64 m]) B w.heap.size ⟨o, (p, r) :: v, G⟩ Ao co gp cp gr cr := bxw_box h _
  have HB0 := Lib.hid (bxw_below w B hB0 #[.slice Ao o.length co, .slice (some ⟨gp, 0, none⟩) (v.length + 1) cp, .slice (some ⟨gr, 0, none⟩) (v.length + 1) cr, .int .i64 (G : Int)] #[.int .i64 1, .int .i64 at_, .int .i64 stop, .int .u64 (wd f 0), .int .u64 (wd f 1), .int .u64 (wd f 2), .int .u64 (wd f 3), .int .i64 n, .int .i64 m])
  have F2 := h.free (b := w.heap.size + 2) (by omega)
  have d1 : gp ≠ w.heap.size := h1.free.2.1
  have d2 : gr ≠ w.heap.size := h1.free.2.2
  have d4 : gp ≠ w.heap.size + 2 := F2.2.1
  have d5 : gr ≠ w.heap.size + 2 := F2.2.2
  have HF2 := Lib.hid (show Free (w.heap.size + 2) Ao o.length co gp gr from F2)
  obtain ⟨c1, f1⟩ := h1.slab.facts
  obtain ⟨k0, k1, k2, k3⟩ := h1.st.tops
  have hlen := h1.lenR
  have O1 := Lib.hid (bxw_word w #[.slice Ao o.length co, .slice (some ⟨gp, 0, none⟩) (v.length + 1) cp, .slice (some ⟨gr, 0, none⟩) (v.length + 1) cr, .int .i64 (G : Int)] #[.int .i64 1, .int .i64 at_, .int .i64 stop, .int .u64 (wd f 0), .int .u64 (wd f 1), .int .u64 (wd f 2), .int .u64 (wd f 3), .int .i64 n, .int .i64 m])
  have O2 := Lib.hid (bxw_res w #[.slice Ao o.length co, .slice (some ⟨gp, 0, none⟩) (v.length + 1) cp, .slice (some ⟨gr, 0, none⟩) (v.length + 1) cr, .int .i64 (G : Int)] #[.int .i64 1, .int .i64 at_, .int .i64 stop, .int .u64 (wd f 0), .int .u64 (wd f 1), .int .u64 (wd f 2), .int .u64 (wd f 3), .int .i64 n, .int .i64 m])
  obtain ⟨cw, fw⟩ := O1.out.facts
  obtain ⟨c2, f2⟩ := O2.out.facts
  have hown1 : (bxw w #[.slice Ao o.length co, .slice (some ⟨gp, 0, none⟩) (v.length + 1) cp, .slice (some ⟨gr, 0, none⟩) (v.length + 1) cr, .int .i64 (G : Int)] #[.int .i64 1, .int .i64 at_, .int .i64 stop, .int .u64 (wd f 0), .int .u64 (wd f 1), .int .u64 (wd f 2), .int .u64 (wd f 3), .int .i64 n, .int .i64 m]).ownsRow B 43 8 (.slice Ao o.length co) o.length (flatD o) := h1.st.out
  have hsz1 : B ≤ (bxw w #[.slice Ao o.length co, .slice (some ⟨gp, 0, none⟩) (v.length + 1) cp, .slice (some ⟨gr, 0, none⟩) (v.length + 1) cr, .int .i64 (G : Int)] #[.int .i64 1, .int .i64 at_, .int .i64 stop, .int .u64 (wd f 0), .int .u64 (wd f 1), .int .u64 (wd f 2), .int .u64 (wd f 3), .int .i64 n, .int .i64 m]).heap.size := h1.st.hB
  have H1 := Lib.hid h1
  clear h1 h F2
  unfold psCells at c1
  simp only [List.length_cons] at c1 hlen
  obtain ⟨l1, l2, l3, l4⟩ := hlen
  show Calls Try.prog 113 #[.agg #[.slice Ao o.length co, .slice (some ⟨gp, 0, none⟩) (v.length + 1) cp, .slice (some ⟨gr, 0, none⟩) (v.length + 1) cr, .int .i64 (G : Int)], .agg #[.int .i64 1, .int .i64 at_, .int .i64 stop, .int .u64 (wd f 0), .int .u64 (wd f 1), .int .u64 (wd f 2), .int .u64 (wd f 3), .int .i64 n, .int .i64 m]] w _
  go_enter Try.func113, Try.ntmps113
  go_wp2_with (at_builtin; go_must (
    (refine wpList_append_elem_at _ ?g1 (.tmp 15) (.tmp 19) 22 ?g2 B 43 i0 ndZero7 8 64 ?g3 ?g4 ?g5 ?g6 ?g7 ?g8 ?g9 _ _ _ _ ?g10 hown1 ?gc ?gg ?g11 ?g12 ?g13 ?g14 ?g15 ?g16 ?g17 ?g18; (case g1 => rfl); (case g2 => rfl); (case g3 => exact Try.underlying22); (case g4 => exact HI.out); (case g5 => exact HZ0.out); (case g6 => exact HZ1.out); (case g7 => exact HZ2.out); (case g8 => rfl); (case g9 => decide); (case g10 => rfl); (case g12 => rfl); (case g11 => first | rfl | exact slice_at (by simp)); (case g13 => rfl); (case g14 => simp [Value.oneCell']); (case g15 => unfold maxLen; omega); (case g16 => omega); (case g17 => first | omega | (simp; omega)); intro A5 q5 w5 hown5 hbl5 has5)
    have hown5' : w5.ownsRow B 43 8 (.slice A5 (o.length + 1) q5) (o.length + 1) (flatD o ++ (ndCells (ndS f)).toList) := by
      exact hown5
    have h6 := H1.out.more (nd := ndS f) hown5' has5 (Nat.le_trans H1.out.st.hB hbl5.size)
    obtain ⟨o5, hx5⟩ := has5 _ _ _ H1.out.slab H1.out.free.1
    obtain ⟨c5, f5⟩ := o5.facts
    have HB6 := Lib.hid (below_set (HB0.out.trans hbl5) h6.hg (i := 0) (.slice A5 (o.length + 1) q5))
    have h6' : BxAt (w5.setCell ⟨w.heap.size, 0, none⟩ (.slice A5 (o.length + 1) q5)) B w.heap.size ⟨o ++ [ndS f], (p, r) :: v, G⟩ A5 q5 gp cp gr cr := h6
    obtain ⟨k60, k61, k62, k63⟩ := h6'.st.tops
    have H6 := Lib.hid h6'
    obtain ⟨o7, hx7⟩ := has5 _ _ _ O2.out HF2.out.1
    have HX7 := Lib.hid hx7; clear hx7
    have HAS := Lib.hid has5
    obtain ⟨c7, f7⟩ := o7.facts
    have O7 := Lib.hid (o7.far (b := w.heap.size) (i := 0) (by omega) (.slice A5 (o.length + 1) q5)); clear o7
    clear hbl5 has5 h6 h6' hown5 hown5' o5 c1 f1 k0 k1 k2 k3 hown1 c2 f2 cw fw
    unfold psCells at c5
    simp only [List.length_cons] at c5))
  have hl : (o ++ [ndS f]).length = o.length + 1 := by simp
  have HE := H6.out.poke0 (p + 1)
  have hfr : Fr w ((w5.setCell ⟨w.heap.size, 0, none⟩ (.slice A5 (o.length + 1) q5)).setCell ⟨gp, v.length, none⟩ (.int .i64 ((p + 1 : Nat) : Int))) o.length Ao co gp gr (o ++ [ndS f]).length A5 q5 gp gr := by
    intro k cs t hk hf
    have hlt := hk.lt
    obtain ⟨g1, g2⟩ := HAS.out k cs t (bxw_slab hk) hf.1
    exact ⟨(g1.far (by omega) _).far (fun e => hf.2.1 e.symm) _, by rw [hl]; exact g2, hf.2⟩
  obtain ⟨S1, S2⟩ := st_out (g := w.heap.size + 2) (HE.st) (O7.out.far (fun e => d4 e.symm) _) (⟨by show (Value.slice A5 (o ++ [ndS f]).length q5).ownBlock ≠ _; rw [hl]; exact HX7.out, d4, d5⟩)
  simp only [List.length_cons, hl] at S1 S2
  refine bodyPost_ret (results_cell rfl rfl (load_slab (t := 104) (cs := psCells ⟨o ++ [ndS f], (p + 1, r) :: v, G⟩ A5 q5 gp cp gr cr) ?_ 104 Try.underlying104 rfl (by kernel_rfl))) rfl ⟨_, _, _, _, _, _, rfl, ?_, ?_, ?_⟩
  · exact S1
  · exact below_set (below_set (below_set (below_set (below_set HB6.out l3 _) (by omega) _) (by omega) _) (by omega) _) (by omega) _
  · exact S2
  · intro k cs t hk hf
    have hlt := hk.lt
    obtain ⟨h1, h2⟩ := hfr k cs t hk hf
    exact ⟨(((h1.far (by omega) _).far (by omega) _).far (by omega) _).far (by omega) _, h2⟩
set_option maxRecDepth 100000 in
set_option maxHeartbeats 2000000 in
theorem rtake_rep {B : Nat} {o : List Nd} {p r : Nat} {v : List (Nat × Nat)} {G : Nat} {Ao : Option Addr} {co gp cp gr cr : Nat} {w : World} (h : StAt w B ⟨o, (p, r) :: v, G⟩ Ao co gp cp gr cr) (hn : o.length ≤ 1000000) (hv : v.length ≤ 1000000) (hp : p ≤ 1000000) (hr : r ≤ 1000000) (at_ stop n m : Int) (f : Nat → Bool) : Calls Try.prog 113 #[.agg (psCells ⟨o, (p, r) :: v, G⟩ Ao co gp cp gr cr), wdV ⟨5, at_, stop, f, n, m⟩] w (toSt B ⟨o, (p, r) :: v, G⟩ Ao co gp gr ⟨o ++ [ndR n m], (p, r) :: v, G⟩ w) := by
  obtain ⟨i0, hi, hz0, hz1, hz2⟩ := info_parts info_node7
  have HI := Lib.hid hi; clear hi
  have HZ0 := Lib.hid hz0; clear hz0
  have HZ1 := Lib.hid hz1; clear hz1
  have HZ2 := Lib.hid hz2; clear hz2
  have hB0 : B ≤ w.heap.size := h.hB
  have h1 : BxAt (bxw w #[.slice Ao o.length co, .slice (some ⟨gp, 0, none⟩) (v.length + 1) cp, .slice (some ⟨gr, 0, none⟩) (v.length + 1) cr, .int .i64 (G : Int)] #[.int .i64 5, .int .i64 at_, .int .i64 stop, .int .u64 (wd f 0), .int .u64 (wd f 1), .int .u64 (wd f 2), .int .u64 (wd f 3), .int .i64 n, .int .i64 m]) B w.heap.size ⟨o, (p, r) :: v, G⟩ Ao co gp cp gr cr := bxw_box h _
  have HB0 := Lib.hid (bxw_below w B hB0 #[.slice Ao o.length co, .slice (some ⟨gp, 0, none⟩) (v.length + 1) cp, .slice (some ⟨gr, 0, none⟩) (v.length + 1) cr, .int .i64 (G : Int)] #[.int .i64 5, .int .i64 at_, .int .i64 stop, .int .u64 (wd f 0), .int .u64 (wd f 1), .int .u64 (wd f 2), .int .u64 (wd f 3), .int .i64 n, .int .i64 m])
  have F2 := h.free (b := w.heap.size + 2) (by omega)
  have d1 : gp ≠ w.heap.size := h1.free.2.1
  have d2 : gr ≠ w.heap.size := h1.free.2.2
  have d4 : gp ≠ w.heap.size + 2 := F2.2.1
  have d5 : gr ≠ w.heap.size + 2 := F2.2.2
  have HF2 := Lib.hid (show Free (w.heap.size + 2) Ao o.length co gp gr from F2)
  obtain ⟨c1, f1⟩ := h1.slab.facts
  obtain ⟨k0, k1, k2, k3⟩ := h1.st.tops
  have hlen := h1.lenR
  have O1 := Lib.hid (bxw_word w #[.slice Ao o.length co, .slice (some ⟨gp, 0, none⟩) (v.length + 1) cp, .slice (some ⟨gr, 0, none⟩) (v.length + 1) cr, .int .i64 (G : Int)] #[.int .i64 5, .int .i64 at_, .int .i64 stop, .int .u64 (wd f 0), .int .u64 (wd f 1), .int .u64 (wd f 2), .int .u64 (wd f 3), .int .i64 n, .int .i64 m])
  have O2 := Lib.hid (bxw_res w #[.slice Ao o.length co, .slice (some ⟨gp, 0, none⟩) (v.length + 1) cp, .slice (some ⟨gr, 0, none⟩) (v.length + 1) cr, .int .i64 (G : Int)] #[.int .i64 5, .int .i64 at_, .int .i64 stop, .int .u64 (wd f 0), .int .u64 (wd f 1), .int .u64 (wd f 2), .int .u64 (wd f 3), .int .i64 n, .int .i64 m])
  obtain ⟨cw, fw⟩ := O1.out.facts
  obtain ⟨c2, f2⟩ := O2.out.facts
  have hown1 : (bxw w #[.slice Ao o.length co, .slice (some ⟨gp, 0, none⟩) (v.length + 1) cp, .slice (some ⟨gr, 0, none⟩) (v.length + 1) cr, .int .i64 (G : Int)] #[.int .i64 5, .int .i64 at_, .int .i64 stop, .int .u64 (wd f 0), .int .u64 (wd f 1), .int .u64 (wd f 2), .int .u64 (wd f 3), .int .i64 n, .int .i64 m]).ownsRow B 43 8 (.slice Ao o.length co) o.length (flatD o) := h1.st.out
  have hsz1 : B ≤ (bxw w #[.slice Ao o.length co, .slice (some ⟨gp, 0, none⟩) (v.length + 1) cp, .slice (some ⟨gr, 0, none⟩) (v.length + 1) cr, .int .i64 (G : Int)] #[.int .i64 5, .int .i64 at_, .int .i64 stop, .int .u64 (wd f 0), .int .u64 (wd f 1), .int .u64 (wd f 2), .int .u64 (wd f 3), .int .i64 n, .int .i64 m]).heap.size := h1.st.hB
  have H1 := Lib.hid h1
  clear h1 h F2
  unfold psCells at c1
  simp only [List.length_cons] at c1 hlen
  obtain ⟨l1, l2, l3, l4⟩ := hlen
  show Calls Try.prog 113 #[.agg #[.slice Ao o.length co, .slice (some ⟨gp, 0, none⟩) (v.length + 1) cp, .slice (some ⟨gr, 0, none⟩) (v.length + 1) cr, .int .i64 (G : Int)], .agg #[.int .i64 5, .int .i64 at_, .int .i64 stop, .int .u64 (wd f 0), .int .u64 (wd f 1), .int .u64 (wd f 2), .int .u64 (wd f 3), .int .i64 n, .int .i64 m]] w _
  go_enter Try.func113, Try.ntmps113
  go_wp2_with (at_builtin; go_must (
    (refine wpList_append_elem_at _ ?g1 (.tmp 70) (.tmp 76) 22 ?g2 B 43 i0 ndZero7 8 64 ?g3 ?g4 ?g5 ?g6 ?g7 ?g8 ?g9 _ _ _ _ ?g10 hown1 ?gc ?gg ?g11 ?g12 ?g13 ?g14 ?g15 ?g16 ?g17 ?g18; (case g1 => rfl); (case g2 => rfl); (case g3 => exact Try.underlying22); (case g4 => exact HI.out); (case g5 => exact HZ0.out); (case g6 => exact HZ1.out); (case g7 => exact HZ2.out); (case g8 => rfl); (case g9 => decide); (case g10 => rfl); (case g12 => rfl); (case g11 => first | rfl | exact slice_at (by simp)); (case g13 => rfl); (case g14 => simp [Value.oneCell']); (case g15 => unfold maxLen; omega); (case g16 => omega); (case g17 => first | omega | (simp; omega)); intro A5 q5 w5 hown5 hbl5 has5)
    have hown5' : w5.ownsRow B 43 8 (.slice A5 (o.length + 1) q5) (o.length + 1) (flatD o ++ (ndCells (ndR n m)).toList) := by
      have e : ndCells (ndR n m) = #[.int .i64 4, .int .i64 1, .int .i64 n, .int .i64 m, .int .u64 0, .int .u64 0, .int .u64 0, .int .u64 0] := (by unfold ndCells; simp only [ndR, noSet, wd_zero]); rw [e]; exact hown5
    have h6 := H1.out.more (nd := ndR n m) hown5' has5 (Nat.le_trans H1.out.st.hB hbl5.size)
    obtain ⟨o5, hx5⟩ := has5 _ _ _ H1.out.slab H1.out.free.1
    obtain ⟨c5, f5⟩ := o5.facts
    have HB6 := Lib.hid (below_set (HB0.out.trans hbl5) h6.hg (i := 0) (.slice A5 (o.length + 1) q5))
    have h6' : BxAt (w5.setCell ⟨w.heap.size, 0, none⟩ (.slice A5 (o.length + 1) q5)) B w.heap.size ⟨o ++ [ndR n m], (p, r) :: v, G⟩ A5 q5 gp cp gr cr := h6
    obtain ⟨k60, k61, k62, k63⟩ := h6'.st.tops
    have H6 := Lib.hid h6'
    obtain ⟨o7, hx7⟩ := has5 _ _ _ O2.out HF2.out.1
    have HX7 := Lib.hid hx7; clear hx7
    have HAS := Lib.hid has5
    obtain ⟨c7, f7⟩ := o7.facts
    have O7 := Lib.hid (o7.far (b := w.heap.size) (i := 0) (by omega) (.slice A5 (o.length + 1) q5)); clear o7
    clear hbl5 has5 h6 h6' hown5 hown5' o5 c1 f1 k0 k1 k2 k3 hown1 c2 f2 cw fw
    unfold psCells at c5
    simp only [List.length_cons] at c5))
  have hl : (o ++ [ndR n m]).length = o.length + 1 := by simp
  have hfr : Fr w (w5.setCell ⟨w.heap.size, 0, none⟩ (.slice A5 (o.length + 1) q5)) o.length Ao co gp gr (o ++ [ndR n m]).length A5 q5 gp gr := by
    intro k cs t hk hf
    have hlt := hk.lt
    obtain ⟨g1, g2⟩ := HAS.out k cs t (bxw_slab hk) hf.1
    exact ⟨g1.far (by omega) _, by rw [hl]; exact g2, hf.2⟩
  obtain ⟨S1, S2⟩ := st_out (g := w.heap.size + 2) (H6.out.st) (O7.out) (⟨by show (Value.slice A5 (o ++ [ndR n m]).length q5).ownBlock ≠ _; rw [hl]; exact HX7.out, d4, d5⟩)
  simp only [List.length_cons, hl] at S1 S2
  refine bodyPost_ret (results_cell rfl rfl (load_slab (t := 104) (cs := psCells ⟨o ++ [ndR n m], (p, r) :: v, G⟩ A5 q5 gp cp gr cr) ?_ 104 Try.underlying104 rfl (by kernel_rfl))) rfl ⟨_, _, _, _, _, _, rfl, ?_, ?_, ?_⟩
  · exact S1
  · exact below_set (below_set (below_set (below_set (HB6.out) (by omega) _) (by omega) _) (by omega) _) (by omega) _
  · exact S2
  · intro k cs t hk hf
    have hlt := hk.lt
    obtain ⟨h1, h2⟩ := hfr k cs t hk hf
    exact ⟨(((h1.far (by omega) _).far (by omega) _).far (by omega) _).far (by omega) _, h2⟩
set_option maxRecDepth 100000 in
set_option maxHeartbeats 2000000 in
theorem rtake_bar {B : Nat} {o : List Nd} {p r : Nat} {v : List (Nat × Nat)} {G : Nat} {Ao : Option Addr} {co gp cp gr cr : Nat} {w : World} (h : StAt w B ⟨o, (p, r) :: v, G⟩ Ao co gp cp gr cr) (hn : o.length ≤ 1000000) (hv : v.length ≤ 1000000) (hp : p ≤ 1000000) (hr : r ≤ 1000000) (at_ stop n m : Int) (f : Nat → Bool) : Calls Try.prog 113 #[.agg (psCells ⟨o, (p, r) :: v, G⟩ Ao co gp cp gr cr), wdV ⟨4, at_, stop, f, n, m⟩] w (toSt B ⟨o, (p, r) :: v, G⟩ Ao co gp gr ⟨o ++ rowN p, (0, r + 1) :: v, G⟩ w) := by
  have hB0 : B ≤ w.heap.size := h.hB
  have h1 : BxAt (bxw w #[.slice Ao o.length co, .slice (some ⟨gp, 0, none⟩) (v.length + 1) cp, .slice (some ⟨gr, 0, none⟩) (v.length + 1) cr, .int .i64 (G : Int)] #[.int .i64 4, .int .i64 at_, .int .i64 stop, .int .u64 (wd f 0), .int .u64 (wd f 1), .int .u64 (wd f 2), .int .u64 (wd f 3), .int .i64 n, .int .i64 m]) B w.heap.size ⟨o, (p, r) :: v, G⟩ Ao co gp cp gr cr := bxw_box h _
  have HB0 := Lib.hid (bxw_below w B hB0 #[.slice Ao o.length co, .slice (some ⟨gp, 0, none⟩) (v.length + 1) cp, .slice (some ⟨gr, 0, none⟩) (v.length + 1) cr, .int .i64 (G : Int)] #[.int .i64 4, .int .i64 at_, .int .i64 stop, .int .u64 (wd f 0), .int .u64 (wd f 1), .int .u64 (wd f 2), .int .u64 (wd f 3), .int .i64 n, .int .i64 m])
  have F2 := h.free (b := w.heap.size + 2) (by omega)
  have d1 : gp ≠ w.heap.size := h1.free.2.1
  have d2 : gr ≠ w.heap.size := h1.free.2.2
  have d4 : gp ≠ w.heap.size + 2 := F2.2.1
  have d5 : gr ≠ w.heap.size + 2 := F2.2.2
  have HF2 := Lib.hid (show Free (w.heap.size + 2) Ao o.length co gp gr from F2)
  obtain ⟨c1, f1⟩ := h1.slab.facts
  obtain ⟨k0, k1, k2, k3⟩ := h1.st.tops
  have hlen := h1.lenR
  have O1 := Lib.hid (bxw_word w #[.slice Ao o.length co, .slice (some ⟨gp, 0, none⟩) (v.length + 1) cp, .slice (some ⟨gr, 0, none⟩) (v.length + 1) cr, .int .i64 (G : Int)] #[.int .i64 4, .int .i64 at_, .int .i64 stop, .int .u64 (wd f 0), .int .u64 (wd f 1), .int .u64 (wd f 2), .int .u64 (wd f 3), .int .i64 n, .int .i64 m])
  have O2 := Lib.hid (bxw_res w #[.slice Ao o.length co, .slice (some ⟨gp, 0, none⟩) (v.length + 1) cp, .slice (some ⟨gr, 0, none⟩) (v.length + 1) cr, .int .i64 (G : Int)] #[.int .i64 4, .int .i64 at_, .int .i64 stop, .int .u64 (wd f 0), .int .u64 (wd f 1), .int .u64 (wd f 2), .int .u64 (wd f 3), .int .i64 n, .int .i64 m])
  obtain ⟨cw, fw⟩ := O1.out.facts
  obtain ⟨c2, f2⟩ := O2.out.facts
  have hown1 : (bxw w #[.slice Ao o.length co, .slice (some ⟨gp, 0, none⟩) (v.length + 1) cp, .slice (some ⟨gr, 0, none⟩) (v.length + 1) cr, .int .i64 (G : Int)] #[.int .i64 4, .int .i64 at_, .int .i64 stop, .int .u64 (wd f 0), .int .u64 (wd f 1), .int .u64 (wd f 2), .int .u64 (wd f 3), .int .i64 n, .int .i64 m]).ownsRow B 43 8 (.slice Ao o.length co) o.length (flatD o) := h1.st.out
  have hsz1 : B ≤ (bxw w #[.slice Ao o.length co, .slice (some ⟨gp, 0, none⟩) (v.length + 1) cp, .slice (some ⟨gr, 0, none⟩) (v.length + 1) cr, .int .i64 (G : Int)] #[.int .i64 4, .int .i64 at_, .int .i64 stop, .int .u64 (wd f 0), .int .u64 (wd f 1), .int .u64 (wd f 2), .int .u64 (wd f 3), .int .i64 n, .int .i64 m]).heap.size := h1.st.hB
  have H1 := Lib.hid h1
  clear h1 h F2
  unfold psCells at c1
  simp only [List.length_cons] at c1 hlen
  obtain ⟨l1, l2, l3, l4⟩ := hlen
  have C := rrow_any H1.out.st hn hv hp hr
  have he : endRow ⟨o, (p, r) :: v, G⟩ = ⟨o ++ rowN p, (0, r + 1) :: v, G⟩ := rfl
  rw [he] at C
  generalize o ++ rowN p = q at *
  clear he
  have k1_ := k1
  clear k1
  unfold psCells at C
  simp only [List.length_cons] at C
  show Calls Try.prog 113 #[.agg #[.slice Ao o.length co, .slice (some ⟨gp, 0, none⟩) (v.length + 1) cp, .slice (some ⟨gr, 0, none⟩) (v.length + 1) cr, .int .i64 (G : Int)], .agg #[.int .i64 4, .int .i64 at_, .int .i64 stop, .int .u64 (wd f 0), .int .u64 (wd f 1), .int .u64 (wd f 2), .int .u64 (wd f 3), .int .i64 n, .int .i64 m]] w _
  go_enter Try.func113, Try.ntmps113
  go_wp2_with fail
  refine C.mono ?_
  rintro e1 w1 ⟨A1, k1, p1, q1, r1, s1, he1, hb1, hs1, hfr1⟩
  have he2 : e1 = .returned (.agg #[.slice A1 q.length k1, .slice (some ⟨p1, 0, none⟩) (v.length + 1) q1, .slice (some ⟨r1, 0, none⟩) (v.length + 1) s1, .int .i64 (G : Int)]) := he1
  clear he1
  subst he2
  obtain ⟨ob, fb⟩ := hfr1 _ _ _ H1.out.slab H1.out.free
  obtain ⟨or_, fr_⟩ := hfr1 _ _ _ O2.out HF2.out
  have hx0 := st_over hs1 ob rfl fb hB0
  have HX := Lib.hid (show BxAt ((((w1.setCell ⟨w.heap.size, 0, none⟩ (.slice A1 q.length k1)).setCell ⟨w.heap.size, 1, none⟩ (.slice (some ⟨p1, 0, none⟩) (v.length + 1) q1)).setCell ⟨w.heap.size, 2, none⟩ (.slice (some ⟨r1, 0, none⟩) (v.length + 1) s1)).setCell ⟨w.heap.size, 3, none⟩ (.int .i64 (G : Int))) B w.heap.size ⟨q, (0, r + 1) :: v, G⟩ A1 k1 p1 q1 r1 s1 from hx0)
  clear hx0
  have HB1 := Lib.hid (show Below B w ((((w1.setCell ⟨w.heap.size, 0, none⟩ (.slice A1 q.length k1)).setCell ⟨w.heap.size, 1, none⟩ (.slice (some ⟨p1, 0, none⟩) (v.length + 1) q1)).setCell ⟨w.heap.size, 2, none⟩ (.slice (some ⟨r1, 0, none⟩) (v.length + 1) s1)).setCell ⟨w.heap.size, 3, none⟩ (.int .i64 (G : Int))) from below_set (below_set (below_set (below_set (HB0.out.trans hb1) hB0 _) hB0 _) hB0 _) hB0 _)
  have HFR := Lib.hid (show Fr w ((((w1.setCell ⟨w.heap.size, 0, none⟩ (.slice A1 q.length k1)).setCell ⟨w.heap.size, 1, none⟩ (.slice (some ⟨p1, 0, none⟩) (v.length + 1) q1)).setCell ⟨w.heap.size, 2, none⟩ (.slice (some ⟨r1, 0, none⟩) (v.length + 1) s1)).setCell ⟨w.heap.size, 3, none⟩ (.int .i64 (G : Int))) o.length Ao co gp gr q.length A1 k1 p1 r1 from fun k cs t hk hf => by
    have hlt := hk.lt
    obtain ⟨h1, h2⟩ := hfr1 k cs t (bxw_slab hk) hf
    exact ⟨(((h1.far (by omega) _).far (by omega) _).far (by omega) _).far (by omega) _, h2⟩)
  have OR := Lib.hid (show Slab ((((w1.setCell ⟨w.heap.size, 0, none⟩ (.slice A1 q.length k1)).setCell ⟨w.heap.size, 1, none⟩ (.slice (some ⟨p1, 0, none⟩) (v.length + 1) q1)).setCell ⟨w.heap.size, 2, none⟩ (.slice (some ⟨r1, 0, none⟩) (v.length + 1) s1)).setCell ⟨w.heap.size, 3, none⟩ (.int .i64 (G : Int))) (w.heap.size + 2) #[.slice none 0 0, .slice none 0 0, .slice none 0 0, .int .i64 0] 104 from (((or_.far (by omega) _).far (by omega) _).far (by omega) _).far (by omega) _)
  have FR_ := Lib.hid fr_
  obtain ⟨cb, fb'⟩ := ob.facts
  unfold psCells at cb
  simp only [List.length_cons] at cb
  clear C hb1 hs1 hfr1 ob fb or_ fr_ c1 f1 k0 k1_ k2 k3 cw fw c2 f2 d1 d2 d4 d5 l1 l2 l3 l4
  go_upto_region 18 with fail
  generalize hW2 : ((((w1.setCell ⟨w.heap.size, 0, none⟩ (.slice A1 q.length k1)).setCell ⟨w.heap.size, 1, none⟩ (.slice (some ⟨p1, 0, none⟩) (v.length + 1) q1)).setCell ⟨w.heap.size, 2, none⟩ (.slice (some ⟨r1, 0, none⟩) (v.length + 1) s1)).setCell ⟨w.heap.size, 3, none⟩ (.int .i64 (G : Int))) = W2
  replace HX := Lib.hid (show BxAt W2 B w.heap.size ⟨q, (0, r + 1) :: v, G⟩ A1 k1 p1 q1 r1 s1 from by rw [← hW2]; exact HX.out)
  replace HB1 := Lib.hid (show Below B w W2 from by rw [← hW2]; exact HB1.out)
  replace HFR := Lib.hid (show Fr w W2 o.length Ao co gp gr q.length A1 k1 p1 r1 from by rw [← hW2]; exact HFR.out)
  replace OR := Lib.hid (show Slab W2 (w.heap.size + 2) #[.slice none 0 0, .slice none 0 0, .slice none 0 0, .int .i64 0] 104 from by rw [← hW2]; exact OR.out)
  clear hW2 cb fb'
  obtain ⟨cx, fx⟩ := HX.out.slab.facts
  obtain ⟨cy, fy⟩ := OR.out.facts
  unfold psCells at cx
  simp only [List.length_cons] at cx
  go_wp2
  obtain ⟨S1, S2⟩ := st_out (g := w.heap.size + 2) (HX.out.st) (OR.out) (FR_.out)
  simp only [List.length_cons, List.length_nil] at S1 S2
  refine bodyPost_ret (results_cell rfl rfl (load_slab (t := 104) (cs := psCells ⟨q, (0, r + 1) :: v, G⟩ A1 k1 p1 q1 r1 s1) ?_ 104 Try.underlying104 rfl (by kernel_rfl))) rfl ⟨_, _, _, _, _, _, rfl, ?_, ?_, ?_⟩
  · exact S1
  · exact below_set (below_set (below_set (below_set (HB1.out) (by omega) _) (by omega) _) (by omega) _) (by omega) _
  · exact S2
  · intro k cs t hk hf
    have hlt := hk.lt
    obtain ⟨h1, h2⟩ := HFR.out k cs t hk hf
    exact ⟨(((h1.far (by omega) _).far (by omega) _).far (by omega) _).far (by omega) _, h2⟩
set_option maxRecDepth 100000 in
set_option maxHeartbeats 2000000 in
theorem rtake_shut {B : Nat} {o : List Nd} {p r p' r' : Nat} {v : List (Nat × Nat)} {G : Nat} {Ao : Option Addr} {co gp cp gr cr : Nat} {w : World} (h : StAt w B ⟨o, (p, r) :: (p', r') :: v, G⟩ Ao co gp cp gr cr)
    (hn : o.length ≤ 1000000) (hv : v.length ≤ 1000000) (hp : p ≤ 1000000) (hr : r ≤ 1000000) (at_ stop n m : Int) (f : Nat → Bool) (hp' : p' ≤ 1000000) (hv2 : v.length ≤ 900000) : Calls Try.prog 113 #[.agg (psCells ⟨o, (p, r) :: (p', r') :: v, G⟩ Ao co gp cp gr cr), wdV ⟨3, at_, stop, f, n, m⟩] w (toSt B ⟨o, (p, r) :: (p', r') :: v, G⟩ Ao co gp gr ⟨o ++ rowN p ++ rowsN (r + 1) ++ [ndG], (p' + 1, r') :: v, G⟩ w) := by
  obtain ⟨i0, hi, hz0, hz1, hz2⟩ := info_parts info_node7
  have HI := Lib.hid hi; clear hi
  have HZ0 := Lib.hid hz0; clear hz0
  have HZ1 := Lib.hid hz1; clear hz1
  have HZ2 := Lib.hid hz2; clear hz2
  have hB0 : B ≤ w.heap.size := h.hB
  have h1 : BxAt (bxw w #[.slice Ao o.length co, .slice (some ⟨gp, 0, none⟩) (v.length + 1 + 1) cp, .slice (some ⟨gr, 0, none⟩) (v.length + 1 + 1) cr, .int .i64 (G : Int)] #[.int .i64 3, .int .i64 at_, .int .i64 stop, .int .u64 (wd f 0), .int .u64 (wd f 1), .int .u64 (wd f 2), .int .u64 (wd f 3), .int .i64 n, .int .i64 m]) B w.heap.size ⟨o, (p, r) :: (p', r') :: v, G⟩ Ao co gp cp gr cr := bxw_box h _
  have HB0 := Lib.hid (bxw_below w B hB0 #[.slice Ao o.length co, .slice (some ⟨gp, 0, none⟩) (v.length + 1 + 1) cp, .slice (some ⟨gr, 0, none⟩) (v.length + 1 + 1) cr, .int .i64 (G : Int)] #[.int .i64 3, .int .i64 at_, .int .i64 stop, .int .u64 (wd f 0), .int .u64 (wd f 1), .int .u64 (wd f 2), .int .u64 (wd f 3), .int .i64 n, .int .i64 m])
  have F2 := h.free (b := w.heap.size + 2) (by omega)
  have d1 : gp ≠ w.heap.size := h1.free.2.1
  have d2 : gr ≠ w.heap.size := h1.free.2.2
  have d4 : gp ≠ w.heap.size + 2 := F2.2.1
  have d5 : gr ≠ w.heap.size + 2 := F2.2.2
  have HF2 := Lib.hid (show Free (w.heap.size + 2) Ao o.length co gp gr from F2)
  obtain ⟨c1, f1⟩ := h1.slab.facts
  obtain ⟨k0, k1, k2, k3⟩ := h1.st.tops
  have hlen := h1.lenR
  have O1 := Lib.hid (bxw_word w #[.slice Ao o.length co, .slice (some ⟨gp, 0, none⟩) (v.length + 1 + 1) cp, .slice (some ⟨gr, 0, none⟩) (v.length + 1 + 1) cr, .int .i64 (G : Int)] #[.int .i64 3, .int .i64 at_, .int .i64 stop, .int .u64 (wd f 0), .int .u64 (wd f 1), .int .u64 (wd f 2), .int .u64 (wd f 3), .int .i64 n, .int .i64 m])
  have O2 := Lib.hid (bxw_res w #[.slice Ao o.length co, .slice (some ⟨gp, 0, none⟩) (v.length + 1 + 1) cp, .slice (some ⟨gr, 0, none⟩) (v.length + 1 + 1) cr, .int .i64 (G : Int)] #[.int .i64 3, .int .i64 at_, .int .i64 stop, .int .u64 (wd f 0), .int .u64 (wd f 1), .int .u64 (wd f 2), .int .u64 (wd f 3), .int .i64 n, .int .i64 m])
  obtain ⟨cw, fw⟩ := O1.out.facts
  obtain ⟨c2, f2⟩ := O2.out.facts
  have hown1 : (bxw w #[.slice Ao o.length co, .slice (some ⟨gp, 0, none⟩) (v.length + 1 + 1) cp, .slice (some ⟨gr, 0, none⟩) (v.length + 1 + 1) cr, .int .i64 (G : Int)] #[.int .i64 3, .int .i64 at_, .int .i64 stop, .int .u64 (wd f 0), .int .u64 (wd f 1), .int .u64 (wd f 2), .int .u64 (wd f 3), .int .i64 n, .int .i64 m]).ownsRow B 43 8 (.slice Ao o.length co) o.length (flatD o) := h1.st.out
  have hsz1 : B ≤ (bxw w #[.slice Ao o.length co, .slice (some ⟨gp, 0, none⟩) (v.length + 1 + 1) cp, .slice (some ⟨gr, 0, none⟩) (v.length + 1 + 1) cr, .int .i64 (G : Int)] #[.int .i64 3, .int .i64 at_, .int .i64 stop, .int .u64 (wd f 0), .int .u64 (wd f 1), .int .u64 (wd f 2), .int .u64 (wd f 3), .int .i64 n, .int .i64 m]).heap.size := h1.st.hB
  have H1 := Lib.hid h1
  clear h1 h F2
  unfold psCells at c1
  simp only [List.length_cons] at c1 hlen
  obtain ⟨l1, l2, l3, l4⟩ := hlen
  have C := rrows_any H1.out.st hn (by simp; omega) hp hr
  have he : endRows ⟨o, (p, r) :: (p', r') :: v, G⟩ = ⟨o ++ rowN p ++ rowsN (r + 1), (p', r') :: v, G⟩ := rfl
  rw [he] at C
  have hn2 : (o ++ rowN p ++ rowsN (r + 1)).length ≤ 1000002 := by
    have l1 := rowN_le p
    have l2 := rowsN_le (r + 1)
    rw [List.length_append, List.length_append]; omega
  generalize o ++ rowN p ++ rowsN (r + 1) = q at *
  clear he
  have k1_ := k1
  clear k1
  unfold psCells at C
  simp only [List.length_cons] at C
  show Calls Try.prog 113 #[.agg #[.slice Ao o.length co, .slice (some ⟨gp, 0, none⟩) (v.length + 1 + 1) cp, .slice (some ⟨gr, 0, none⟩) (v.length + 1 + 1) cr, .int .i64 (G : Int)], .agg #[.int .i64 3, .int .i64 at_, .int .i64 stop, .int .u64 (wd f 0), .int .u64 (wd f 1), .int .u64 (wd f 2), .int .u64 (wd f 3), .int .i64 n, .int .i64 m]] w _
  go_enter Try.func113, Try.ntmps113
  go_wp2_with fail
  refine C.mono ?_
  rintro e1 w1 ⟨A1, k1, p1, q1, r1, s1, he1, hb1, hs1, hfr1⟩
  have he2 : e1 = .returned (.agg #[.slice A1 q.length k1, .slice (some ⟨p1, 0, none⟩) (v.length + 1) q1, .slice (some ⟨r1, 0, none⟩) (v.length + 1) s1, .int .i64 (G : Int)]) := he1
  clear he1
  subst he2
  obtain ⟨ob, fb⟩ := hfr1 _ _ _ H1.out.slab H1.out.free
  obtain ⟨or_, fr_⟩ := hfr1 _ _ _ O2.out HF2.out
  have hx0 := st_over hs1 ob rfl fb hB0
  have HX := Lib.hid (show BxAt ((((w1.setCell ⟨w.heap.size, 0, none⟩ (.slice A1 q.length k1)).setCell ⟨w.heap.size, 1, none⟩ (.slice (some ⟨p1, 0, none⟩) (v.length + 1) q1)).setCell ⟨w.heap.size, 2, none⟩ (.slice (some ⟨r1, 0, none⟩) (v.length + 1) s1)).setCell ⟨w.heap.size, 3, none⟩ (.int .i64 (G : Int))) B w.heap.size ⟨q, (p', r') :: v, G⟩ A1 k1 p1 q1 r1 s1 from hx0)
  clear hx0
  have HB1 := Lib.hid (show Below B w ((((w1.setCell ⟨w.heap.size, 0, none⟩ (.slice A1 q.length k1)).setCell ⟨w.heap.size, 1, none⟩ (.slice (some ⟨p1, 0, none⟩) (v.length + 1) q1)).setCell ⟨w.heap.size, 2, none⟩ (.slice (some ⟨r1, 0, none⟩) (v.length + 1) s1)).setCell ⟨w.heap.size, 3, none⟩ (.int .i64 (G : Int))) from below_set (below_set (below_set (below_set (HB0.out.trans hb1) hB0 _) hB0 _) hB0 _) hB0 _)
  have HFR := Lib.hid (show Fr w ((((w1.setCell ⟨w.heap.size, 0, none⟩ (.slice A1 q.length k1)).setCell ⟨w.heap.size, 1, none⟩ (.slice (some ⟨p1, 0, none⟩) (v.length + 1) q1)).setCell ⟨w.heap.size, 2, none⟩ (.slice (some ⟨r1, 0, none⟩) (v.length + 1) s1)).setCell ⟨w.heap.size, 3, none⟩ (.int .i64 (G : Int))) o.length Ao co gp gr q.length A1 k1 p1 r1 from fun k cs t hk hf => by
    have hlt := hk.lt
    obtain ⟨h1, h2⟩ := hfr1 k cs t (bxw_slab hk) hf
    exact ⟨(((h1.far (by omega) _).far (by omega) _).far (by omega) _).far (by omega) _, h2⟩)
  have OR := Lib.hid (show Slab ((((w1.setCell ⟨w.heap.size, 0, none⟩ (.slice A1 q.length k1)).setCell ⟨w.heap.size, 1, none⟩ (.slice (some ⟨p1, 0, none⟩) (v.length + 1) q1)).setCell ⟨w.heap.size, 2, none⟩ (.slice (some ⟨r1, 0, none⟩) (v.length + 1) s1)).setCell ⟨w.heap.size, 3, none⟩ (.int .i64 (G : Int))) (w.heap.size + 2) #[.slice none 0 0, .slice none 0 0, .slice none 0 0, .int .i64 0] 104 from (((or_.far (by omega) _).far (by omega) _).far (by omega) _).far (by omega) _)
  have FR_ := Lib.hid fr_
  obtain ⟨cb, fb'⟩ := ob.facts
  unfold psCells at cb
  simp only [List.length_cons] at cb
  clear C hb1 hs1 hfr1 ob fb or_ fr_ c1 f1 k0 k1_ k2 k3 cw fw c2 f2 d1 d2 d4 d5 l1 l2 l3 l4
  go_upto_region 12 with fail
  generalize hW2 : ((((w1.setCell ⟨w.heap.size, 0, none⟩ (.slice A1 q.length k1)).setCell ⟨w.heap.size, 1, none⟩ (.slice (some ⟨p1, 0, none⟩) (v.length + 1) q1)).setCell ⟨w.heap.size, 2, none⟩ (.slice (some ⟨r1, 0, none⟩) (v.length + 1) s1)).setCell ⟨w.heap.size, 3, none⟩ (.int .i64 (G : Int))) = W2
  replace HX := Lib.hid (show BxAt W2 B w.heap.size ⟨q, (p', r') :: v, G⟩ A1 k1 p1 q1 r1 s1 from by rw [← hW2]; exact HX.out)
  replace HB1 := Lib.hid (show Below B w W2 from by rw [← hW2]; exact HB1.out)
  replace HFR := Lib.hid (show Fr w W2 o.length Ao co gp gr q.length A1 k1 p1 r1 from by rw [← hW2]; exact HFR.out)
  replace OR := Lib.hid (show Slab W2 (w.heap.size + 2) #[.slice none 0 0, .slice none 0 0, .slice none 0 0, .int .i64 0] 104 from by rw [← hW2]; exact OR.out)
  clear hW2 cb fb'
  obtain ⟨cx, fx⟩ := HX.out.slab.facts
  obtain ⟨cy, fy⟩ := OR.out.facts
  unfold psCells at cx
  simp only [List.length_cons] at cx
  obtain ⟨kx0, kx1, kx2, kx3⟩ := HX.out.st.tops
  obtain ⟨l1, l2, l3, l4⟩ := HX.out.lenR
  simp only [List.length_cons] at l1 l2
  have d1 : p1 ≠ w.heap.size := HX.out.free.2.1
  have d2 : r1 ≠ w.heap.size := HX.out.free.2.2
  have d4 : p1 ≠ w.heap.size + 2 := FR_.out.2.1
  have d5 : r1 ≠ w.heap.size + 2 := FR_.out.2.2
  have hown2 : W2.ownsRow B 43 8 (.slice A1 q.length k1) q.length (flatD q) := HX.out.st.out
  have hsz2 : B ≤ W2.heap.size := HX.out.st.hB
  go_wp2_with (at_builtin; go_must (
    (refine wpList_append_elem_at _ ?g1 (.tmp 50) (.tmp 52) 22 ?g2 B 43 i0 ndZero7 8 64 ?g3 ?g4 ?g5 ?g6 ?g7 ?g8 ?g9 _ _ _ _ ?g10 hown2 ?gc ?gg ?g11 ?g12 ?g13 ?g14 ?g15 ?g16 ?g17 ?g18; (case g1 => rfl); (case g2 => rfl); (case g3 => exact Try.underlying22); (case g4 => exact HI.out); (case g5 => exact HZ0.out); (case g6 => exact HZ1.out); (case g7 => exact HZ2.out); (case g8 => rfl); (case g9 => decide); (case g10 => rfl); (case g12 => rfl); (case g11 => first | rfl | exact slice_at (by simp)); (case g13 => rfl); (case g14 => simp [Value.oneCell']); (case g15 => unfold maxLen; omega); (case g16 => omega); (case g17 => first | omega | (simp; omega)); intro A5 q5 w5 hown5 hbl5 has5)
    have hown5' : w5.ownsRow B 43 8 (.slice A5 (q.length + 1) q5) (q.length + 1) (flatD q ++ (ndCells ndG).toList) := by
      have e := nd_lit 3 1
      show w5.ownsRow _ _ _ _ _ (flatD q ++ (ndCells ⟨3, 1, 0, 0, noSet⟩).toList)
      rw [e]; exact hown5
    have h6 := HX.out.more (nd := ndG) hown5' has5 (Nat.le_trans HX.out.st.hB hbl5.size)
    obtain ⟨o5, hx5⟩ := has5 _ _ _ HX.out.slab HX.out.free.1
    obtain ⟨c5, f5⟩ := o5.facts
    have HB6 := Lib.hid (below_set (HB1.out.trans hbl5) h6.hg (i := 0) (.slice A5 (q.length + 1) q5))
    have h6' : BxAt (w5.setCell ⟨w.heap.size, 0, none⟩ (.slice A5 (q.length + 1) q5)) B w.heap.size ⟨q ++ [ndG], (p', r') :: v, G⟩ A5 q5 p1 q1 r1 s1 := h6
    obtain ⟨k60, k61, k62, k63⟩ := h6'.st.tops
    have H6 := Lib.hid h6'
    obtain ⟨o7, hx7⟩ := has5 _ _ _ OR.out FR_.out.1
    have HX7 := Lib.hid hx7; clear hx7
    have HAS := Lib.hid has5
    obtain ⟨c7, f7⟩ := o7.facts
    have O7 := Lib.hid (o7.far (b := w.heap.size) (i := 0) (by omega) (.slice A5 (q.length + 1) q5)); clear o7
    clear hbl5 has5 h6 h6' hown5 hown5' o5 cx fx cy fy kx0 kx1 kx2 kx3 hown2
    unfold psCells at c5
    simp only [List.length_cons] at c5))
  have hl : (q ++ [ndG]).length = q.length + 1 := by simp
  have HE := H6.out.poke0 (p' + 1)
  have hfr : Fr w ((w5.setCell ⟨w.heap.size, 0, none⟩ (.slice A5 (q.length + 1) q5)).setCell ⟨p1, v.length, none⟩ (.int .i64 ((p' + 1 : Nat) : Int))) o.length Ao co gp gr (q ++ [ndG]).length A5 q5 p1 r1 := by
    intro k cs t hk hf
    have hlt := hk.lt
    obtain ⟨g1, g2⟩ := HFR.out k cs t hk hf
    obtain ⟨g3, g4⟩ := HAS.out k cs t g1 g2.1
    exact ⟨(g3.far (by omega) _).far (fun e => g2.2.1 e.symm) _, by rw [hl]; exact g4, g2.2⟩
  obtain ⟨S1, S2⟩ := st_out (g := w.heap.size + 2) (HE.st) (O7.out.far (fun e => d4 e.symm) _) (⟨by show (Value.slice A5 (q ++ [ndG]).length q5).ownBlock ≠ _; rw [hl]; exact HX7.out, d4, d5⟩)
  simp only [List.length_cons, hl] at S1 S2
  refine bodyPost_ret (results_cell rfl rfl (load_slab (t := 104) (cs := psCells ⟨q ++ [ndG], (p' + 1, r') :: v, G⟩ A5 q5 p1 q1 r1 s1) ?_ 104 Try.underlying104 rfl (by kernel_rfl))) rfl ⟨_, _, _, _, _, _, rfl, ?_, ?_, ?_⟩
  · exact S1
  · exact below_set (below_set (below_set (below_set (below_set HB6.out l3 _) (by omega) _) (by omega) _) (by omega) _) (by omega) _
  · exact S2
  · intro k cs t hk hf
    have hlt := hk.lt
    obtain ⟨h1, h2⟩ := hfr k cs t hk hf
    exact ⟨(((h1.far (by omega) _).far (by omega) _).far (by omega) _).far (by omega) _, h2⟩
end Go.Proofs.Ytddokdjlmdoebaa
