/- Walks of the document's parser: a group opens. -/
import Derived.Test.YtddokdjlmdoebaaProg
import Derived.WalkKit
import Derived.WalkSpells
import Derived.WalkLawsBesides
import Derived.Handy
import Derived.Lib.Hide
import Derived.Test.YtddokdjlmdoebaaParH
import Derived.Deep.QuietTactic
import Derived.Deep.Cut
import Derived.BigQuiet
import Derived.Lib.QuietBelow
set_option linter.unusedVariables false
set_option linter.unusedSimpArgs false
namespace Go.Proofs.Ytddokdjlmdoebaa
open Go.RowKit SetP BrkP LexP AstP ParP
set_option maxRecDepth 100000 in
set_option maxHeartbeats 2000000 in
theorem rtake_opn {B : Nat} {o : List Nd} {p r : Nat} {v : List (Nat × Nat)} {G : Nat} {Ao : Option Addr} {co gp cp gr cr : Nat} {w : World} (h : StAt w B ⟨o, (p, r) :: v, G⟩ Ao co gp cp gr cr) (hn : o.length ≤ 1000000) (hv : v.length ≤ 1000000) (hp : p ≤ 1000000) (hr : r ≤ 1000000) (at_ stop n m : Int) (f : Nat → Bool) (hG : G ≤ 1000000) : Calls Try.prog 113 #[.agg (psCells ⟨o, (p, r) :: v, G⟩ Ao co gp cp gr cr), wdV ⟨2, at_, stop, f, n, m⟩] w (toSt B ⟨o, (p, r) :: v, G⟩ Ao co gp gr ⟨o, (0, 0) :: (p, r) :: v, G + 1⟩ w) := by
  obtain ⟨i0, hi, hz0, hz1, hz2⟩ := info_parts info_int7
  have HI := Lib.hid hi; clear hi
  have HZ0 := Lib.hid hz0; clear hz0
  have HZ1 := Lib.hid hz1; clear hz1
  have HZ2 := Lib.hid hz2; clear hz2
  have hownp : (bxw w #[.slice Ao o.length co, .slice (some ⟨gp, 0, none⟩) (v.length + 1) cp, .slice (some ⟨gr, 0, none⟩) (v.length + 1) cr, .int .i64 (G : Int)] #[.int .i64 2, .int .i64 at_, .int .i64 stop, .int .u64 (wd f 0), .int .u64 (wd f 1), .int .u64 (wd f 2), .int .u64 (wd f 3), .int .i64 n, .int .i64 m]).ownsRow B 3 1 (.slice (some ⟨gp, 0, none⟩) (v.length + 1) cp) (v.length + 1) (pcV ((p, r) :: v)) := (bxw_box h #[.int .i64 2, .int .i64 at_, .int .i64 stop, .int .u64 (wd f 0), .int .u64 (wd f 1), .int .u64 (wd f 2), .int .u64 (wd f 3), .int .i64 n, .int .i64 m]).st.pc
  have hne := h.ne
  have ha1 := h.a1
  have ha2 := h.a2
  have HNE := Lib.hid hne
  have HA1 := Lib.hid ha1
  have HA2 := Lib.hid ha2
  clear hne ha1 ha2
  have hB0 : B ≤ w.heap.size := h.hB
  have h1 : BxAt (bxw w #[.slice Ao o.length co, .slice (some ⟨gp, 0, none⟩) (v.length + 1) cp, .slice (some ⟨gr, 0, none⟩) (v.length + 1) cr, .int .i64 (G : Int)] #[.int .i64 2, .int .i64 at_, .int .i64 stop, .int .u64 (wd f 0), .int .u64 (wd f 1), .int .u64 (wd f 2), .int .u64 (wd f 3), .int .i64 n, .int .i64 m]) B w.heap.size ⟨o, (p, r) :: v, G⟩ Ao co gp cp gr cr := bxw_box h _
  have HB0 := Lib.hid (bxw_below w B hB0 #[.slice Ao o.length co, .slice (some ⟨gp, 0, none⟩) (v.length + 1) cp, .slice (some ⟨gr, 0, none⟩) (v.length + 1) cr, .int .i64 (G : Int)] #[.int .i64 2, .int .i64 at_, .int .i64 stop, .int .u64 (wd f 0), .int .u64 (wd f 1), .int .u64 (wd f 2), .int .u64 (wd f 3), .int .i64 n, .int .i64 m])
  have F2 := h.free (b := w.heap.size + 2) (by omega)
  have d1 : gp ≠ w.heap.size := h1.free.2.1
  have d2 : gr ≠ w.heap.size := h1.free.2.2
  have d4 : gp ≠ w.heap.size + 2 := F2.2.1
  have d5 : gr ≠ w.heap.size + 2 := F2.2.2
  have HF2 := Lib.hid (show Free (w.heap.size + 2) Ao o.length co gp gr from F2)
  obtain ⟨c1, f1⟩ := h1.slab.facts
  obtain ⟨k0, k1, k2, k3⟩ := h1.st.tops
  have hlen := h1.lenR
  have O1 := Lib.hid (bxw_word w #[.slice Ao o.length co, .slice (some ⟨gp, 0, none⟩) (v.length + 1) cp, .slice (some ⟨gr, 0, none⟩) (v.length + 1) cr, .int .i64 (G : Int)] #[.int .i64 2, .int .i64 at_, .int .i64 stop, .int .u64 (wd f 0), .int .u64 (wd f 1), .int .u64 (wd f 2), .int .u64 (wd f 3), .int .i64 n, .int .i64 m])
  have O2 := Lib.hid (bxw_res w #[.slice Ao o.length co, .slice (some ⟨gp, 0, none⟩) (v.length + 1) cp, .slice (some ⟨gr, 0, none⟩) (v.length + 1) cr, .int .i64 (G : Int)] #[.int .i64 2, .int .i64 at_, .int .i64 stop, .int .u64 (wd f 0), .int .u64 (wd f 1), .int .u64 (wd f 2), .int .u64 (wd f 3), .int .i64 n, .int .i64 m])
  obtain ⟨cw, fw⟩ := O1.out.facts
  obtain ⟨c2, f2⟩ := O2.out.facts
  have hown1 : (bxw w #[.slice Ao o.length co, .slice (some ⟨gp, 0, none⟩) (v.length + 1) cp, .slice (some ⟨gr, 0, none⟩) (v.length + 1) cr, .int .i64 (G : Int)] #[.int .i64 2, .int .i64 at_, .int .i64 stop, .int .u64 (wd f 0), .int .u64 (wd f 1), .int .u64 (wd f 2), .int .u64 (wd f 3), .int .i64 n, .int .i64 m]).ownsRow B 43 8 (.slice Ao o.length co) o.length (flatD o) := h1.st.out
  have hsz1 : B ≤ (bxw w #[.slice Ao o.length co, .slice (some ⟨gp, 0, none⟩) (v.length + 1) cp, .slice (some ⟨gr, 0, none⟩) (v.length + 1) cr, .int .i64 (G : Int)] #[.int .i64 2, .int .i64 at_, .int .i64 stop, .int .u64 (wd f 0), .int .u64 (wd f 1), .int .u64 (wd f 2), .int .u64 (wd f 3), .int .i64 n, .int .i64 m]).heap.size := h1.st.hB
  have H1 := Lib.hid h1
  clear h1 h F2
  unfold psCells at c1
  simp only [List.length_cons] at c1 hlen
  obtain ⟨l1, l2, l3, l4⟩ := hlen
  clear hown1
  show Calls Try.prog 113 #[.agg #[.slice Ao o.length co, .slice (some ⟨gp, 0, none⟩) (v.length + 1) cp, .slice (some ⟨gr, 0, none⟩) (v.length + 1) cr, .int .i64 (G : Int)], .agg #[.int .i64 2, .int .i64 at_, .int .i64 stop, .int .u64 (wd f 0), .int .u64 (wd f 1), .int .u64 (wd f 2), .int .u64 (wd f 3), .int .i64 n, .int .i64 m]] w _
  go_enter Try.func113, Try.ntmps113
  go_upto_region 8 with (at_builtin; go_must (
    (refine wpList_append_elem_at _ ?g1 (.tmp 32) (.tmp 33) 76 ?g2 B 3 i0 (.int .i64 0) 1 8 ?g3 ?g4 ?g5 ?g6 ?g7 ?g8 ?g9 _ _ _ _ ?g10 hownp ?gc ?gg ?g11 ?g12 ?g13 ?g14 ?g15 ?g16 ?g17 ?g18; (case g1 => rfl); (case g2 => rfl); (case g3 => exact Try.underlying76); (case g4 => exact HI.out); (case g5 => exact HZ0.out); (case g6 => exact HZ1.out); (case g7 => exact HZ2.out); (case g8 => rfl); (case g9 => decide); (case g10 => rfl); (case g12 => rfl); (case g11 => first | rfl | exact slice_at (by simp)); (case g13 => rfl); (case g14 => simp [Value.oneCell']); (case g15 => unfold maxLen; omega); (case g16 => omega); (case g17 => first | omega | (simp; omega)); intro A5 q5 w5 hown5 hbl5 has5)
    obtain ⟨o5, hx5⟩ := has5 _ _ _ H1.out.slab (fun e => d1 (by injection e))
    obtain ⟨o7, hx7⟩ := has5 _ _ _ O2.out (fun e => d4 (by injection e))
    obtain ⟨rw5, ap5⟩ := row_aside H1.out.st.rw_ has5 (fun k hk hg => HNE.out ((Option.some.inj hk).trans (Option.some.inj hg).symm))
    obtain ⟨out5, ap6⟩ := row_aside H1.out.st.out has5 (fun k hk hg => HA1.out (hg.trans hk.symm))
    obtain ⟨c5, f5⟩ := o5.facts
    obtain ⟨c7, f7⟩ := o7.facts
    have HO5 := Lib.hid o5
    have HO7 := Lib.hid o7
    have HB5 := Lib.hid (HB0.out.trans hbl5)
    have HAS := Lib.hid has5
    have HOWN5 := Lib.hid hown5
    have HRW5 := Lib.hid rw5
    have HOUT5 := Lib.hid out5
    have HAP5 := Lib.hid ap5
    have HAP6 := Lib.hid ap6
    have HX5 := Lib.hid hx5
    have HX7 := Lib.hid hx7
    clear o5 o7 hx5 hx7 rw5 ap5 out5 ap6 has5 hown5 hbl5 c1 f1 c2 f2 cw fw k0 k1 k2 k3 hownp
    unfold psCells at c5
    simp only [List.length_cons] at c5))
  obtain ⟨g5, rfl, _⟩ := row_cell HOWN5.out (Nat.succ_pos _)
  have e1 : g5 ≠ w.heap.size := fun e => HX5.out (by rw [e]; rfl)
  have e2 : g5 ≠ w.heap.size + 2 := fun e => HX7.out (by rw [e]; rfl)
  have e3 : g5 ≠ gr := fun e => HAP5.out g5 rfl (by rw [e]; rfl)
  have e4 : (Value.slice Ao o.length co).ownBlock ≠ some g5 := fun e => HAP6.out g5 rfl e
  generalize hW6 : w5.setCell ⟨w.heap.size, 1, none⟩ (.slice (some ⟨g5, 0, none⟩) (v.length + 1 + 1) q5) = W6
  have s6 : Slab W6 w.heap.size #[.slice Ao o.length co, .slice (some ⟨g5, 0, none⟩) (v.length + 1 + 1) q5, .slice (some ⟨gr, 0, none⟩) (v.length + 1) cr, .int .i64 (G : Int)] 104 := by rw [← hW6]; exact HO5.out.set 1 _
  have P6 := Lib.hid (show W6.ownsRow B 3 1 (.slice (some ⟨g5, 0, none⟩) (v.length + 1 + 1) q5) (v.length + 1 + 1) (pcV ((0, 0) :: (p, r) :: v)) from by rw [← hW6, pcV_cons]; exact row_far HOWN5.out HX5.out _ _)
  have r6 : W6.ownsRow B 3 1 (.slice (some ⟨gr, 0, none⟩) (v.length + 1) cr) (v.length + 1) (rwV ((p, r) :: v)) := by rw [← hW6]; exact row_far HRW5.out (fun e => d2 (Option.some.inj e)) _ _
  have N6 := Lib.hid (show W6.ownsRow B 43 8 (.slice Ao o.length co) o.length (flatD o) from by rw [← hW6]; exact row_far HOUT5.out H1.out.free.1 _ _)
  have q6 : Slab W6 (w.heap.size + 2) #[.slice none 0 0, .slice none 0 0, .slice none 0 0, .int .i64 0] 104 := by rw [← hW6]; exact HO7.out.far (by omega) _
  have B6 := Lib.hid (show Below B w W6 from by rw [← hW6]; exact below_set HB5.out hB0 _)
  have F6 := Lib.hid (show ∀ (k : Nat) (cs : Array Value) (t : TypeId), Slab w k cs t → Free k Ao o.length co gp gr → Slab W6 k cs t ∧ g5 ≠ k from fun k cs t hk hf => by
    have hlt := hk.lt
    obtain ⟨a1, a2⟩ := HAS.out k cs t (bxw_slab hk) (fun e => hf.2.1 (Option.some.inj e))
    rw [← hW6]
    exact ⟨a1.far (by omega) _, fun e => a2 (by rw [e]; rfl)⟩)
  have hsz6 : B ≤ W6.heap.size := by have := B6.out.size; omega
  clear hW6 c5 f5 c7 f7 HOWN5 HRW5 HOUT5 HO5 HO7 HAS HB5 HAP5 HAP6 HX5 HX7
  obtain ⟨c6, f6⟩ := s6.facts
  obtain ⟨c7, f7⟩ := q6.facts
  have S6 := Lib.hid s6
  have Q6 := Lib.hid q6
  clear s6 q6
  go_upto_region 18 with (at_builtin; go_must (
    (refine wpList_append_elem_at _ ?k1 (.tmp 37) (.tmp 38) 76 ?k2 B 3 i0 (.int .i64 0) 1 8 ?k3 ?k4 ?k5 ?k6 ?k7 ?k8 ?k9 _ _ _ _ ?k10 r6 ?kc ?kg ?k11 ?k12 ?k13 ?k14 ?k15 ?k16 ?k17 ?k18; (case k1 => rfl); (case k2 => rfl); (case k3 => exact Try.underlying76); (case k4 => exact HI.out); (case k5 => exact HZ0.out); (case k6 => exact HZ1.out); (case k7 => exact HZ2.out); (case k8 => rfl); (case k9 => decide); (case k10 => rfl); (case k12 => rfl); (case k11 => first | rfl | exact slice_at (by simp)); (case k13 => rfl); (case k14 => simp [Value.oneCell']); (case k15 => unfold maxLen; omega); (case k16 => omega); (case k17 => first | omega | (simp; omega)); intro A8 q8 w8 hown8 hbl8 has8)
    obtain ⟨o8, hx8⟩ := has8 _ _ _ S6.out (fun e => d2 (Option.some.inj e))
    obtain ⟨o9, hx9⟩ := has8 _ _ _ Q6.out (fun e => d5 (Option.some.inj e))
    obtain ⟨p8, ap8⟩ := row_aside P6.out has8 (fun k hk hg => e3 ((Option.some.inj hg).trans (Option.some.inj hk).symm))
    obtain ⟨n8, ap9⟩ := row_aside N6.out has8 (fun k hk hg => HA2.out (hg.trans hk.symm))
    obtain ⟨c8, f8⟩ := o8.facts
    have HO8 := Lib.hid o8
    have HO9 := Lib.hid o9
    have HP8 := Lib.hid p8
    have HN8 := Lib.hid n8
    have HAP8 := Lib.hid ap8
    have HAP9 := Lib.hid ap9
    have HX8 := Lib.hid hx8
    have HX9 := Lib.hid hx9
    have HAS := Lib.hid has8
    have HOWN8 := Lib.hid hown8
    have HB8 := Lib.hid (B6.out.trans hbl8)
    clear o8 hx8 o9 hx9 p8 ap8 n8 ap9 has8 hown8 hbl8 c6 f6 c7 f7 r6))
  obtain ⟨g8, rfl, _⟩ := row_cell HOWN8.out (Nat.succ_pos _)
  have e5 : g8 ≠ w.heap.size := fun e => HX8.out (by rw [e]; rfl)
  have e6 : g8 ≠ w.heap.size + 2 := fun e => HX9.out (by rw [e]; rfl)
  have e7 : g5 ≠ g8 := fun e => HAP8.out g8 rfl (by rw [e]; rfl)
  have e8 : (Value.slice Ao o.length co).ownBlock ≠ some g8 := fun e => HAP9.out g8 rfl e
  generalize hW9 : (w8.setCell ⟨w.heap.size, 2, none⟩ (.slice (some ⟨g8, 0, none⟩) (v.length + 1 + 1) q8)).setCell ⟨w.heap.size, 3, none⟩ (.int .i64 ((G : Int) + 1)) = W9
  have hst : StAt W9 B ⟨o, (0, 0) :: (p, r) :: v, G + 1⟩ Ao co g5 q5 g8 q8 := by
    rw [← hW9]
    refine ⟨row_far (row_far HN8.out H1.out.free.1 _ _) H1.out.free.1 _ _, row_far (row_far HP8.out (fun e => e1 (Option.some.inj e)) _ _) (fun e => e1 (Option.some.inj e)) _ _, ?_, e4, e8, e7, ?_⟩
    · have := HOWN8.out
      rw [show rwV ((p, r) :: v) ++ (#[Value.int .i64 0] : Array Value).toList = rwV ((0, 0) :: (p, r) :: v) by rw [rwV_cons 0 0]; rfl] at this
      exact row_far (row_far this (fun e => e5 (Option.some.inj e)) _ _) (fun e => e5 (Option.some.inj e)) _ _
    · rw [setCell_size, setCell_size]; have := HB8.out.size; omega
  have HST := Lib.hid hst
  have s9 : Slab W9 w.heap.size #[.slice Ao o.length co, .slice (some ⟨g5, 0, none⟩) (v.length + 1 + 1) q5, .slice (some ⟨g8, 0, none⟩) (v.length + 1 + 1) q8, .int .i64 ((G : Int) + 1)] 104 := by rw [← hW9]; exact (HO8.out.set 2 _).set 3 _
  have Q9 := Lib.hid (show Slab W9 (w.heap.size + 2) #[.slice none 0 0, .slice none 0 0, .slice none 0 0, .int .i64 0] 104 from by rw [← hW9]; exact (HO9.out.far (by omega) _).far (by omega) _)
  have B9 := Lib.hid (show Below B w W9 from by rw [← hW9]; exact below_set (below_set HB8.out hB0 _) hB0 _)
  have hfr : Fr w W9 o.length Ao co gp gr o.length Ao co g5 g8 := fun k cs t hk hf => by
    have hlt := hk.lt
    obtain ⟨a1, a2⟩ := F6.out k cs t hk hf
    obtain ⟨a3, a4⟩ := HAS.out k cs t a1 (fun e => hf.2.2 (Option.some.inj e))
    rw [← hW9]
    exact ⟨(a3.far (by omega) _).far (by omega) _, hf.1, a2, fun e => a4 (by rw [e]; rfl)⟩
  have HFR := Lib.hid hfr
  clear hW9 hst hfr c8 f8
  obtain ⟨c9, f9⟩ := s9.facts
  obtain ⟨cq, fq⟩ := Q9.out.facts
  clear s9
  go_wp2
  obtain ⟨S1, S2⟩ := st_out (g := w.heap.size + 2) (HST.out) (Q9.out) (⟨H1.out.free.1 |> fun _ => (HF2.out.1), e2, e6⟩)
  simp only [List.length_cons, List.length_nil] at S1 S2
  refine bodyPost_ret (results_cell rfl rfl (load_slab (t := 104) (cs := psCells ⟨o, (0, 0) :: (p, r) :: v, G + 1⟩ Ao co g5 q5 g8 q8) ?_ 104 Try.underlying104 rfl (by kernel_rfl))) rfl ⟨_, _, _, _, _, _, rfl, ?_, ?_, ?_⟩
  · exact S1
  · exact below_set (below_set (below_set (below_set (B9.out) (by omega) _) (by omega) _) (by omega) _) (by omega) _
  · exact S2
  · intro k cs t hk hf
    have hlt := hk.lt
    obtain ⟨h1, h2⟩ := HFR.out k cs t hk hf
    exact ⟨(((h1.far (by omega) _).far (by omega) _).far (by omega) _).far (by omega) _, h2⟩
end Go.Proofs.Ytddokdjlmdoebaa
