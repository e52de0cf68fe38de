/- Walks of the document's parser: all words are read. -/
import Derived.Test.YtddokdjlmdoebaaProg
import Derived.WalkKit
import Derived.WalkSpells
import Derived.WalkLawsBesides
import Derived.Handy
import Derived.Lib.Hide
import Derived.Test.YtddokdjlmdoebaaParL
import Derived.Test.YtddokdjlmdoebaaParK
import Derived.Test.YtddokdjlmdoebaaLexC
import Derived.Deep.QuietTactic
import Derived.Deep.Cut
import Derived.BigQuiet
import Derived.Lib.QuietBelow
set_option linter.unusedVariables false
set_option linter.unusedSimpArgs false
namespace Go.Proofs.Ytddokdjlmdoebaa
open Go.RowKit SetP BrkP LexP AstP ParP
set_option maxRecDepth 100000 in
theorem rtake_any {B : Nat} {x : PS} {Ao : Option Addr} {co gp cp gr cr : Nat} {w : World} (h : StAt w B x Ao co gp cp gr cr) (wd : Wd) (y : PS) (ht : Took x wd y) (hb : Bnd x 200000) :
    Calls Try.prog 113 #[.agg (psCells x Ao co gp cp gr cr), wdV wd] w (toSt B x Ao co gp gr y w) := by
  obtain ⟨kd, at_, stop, f, n, m⟩ := wd
  obtain ⟨b1, b2, b3, b4, b5⟩ := hb
  cases ht with
  | one o p r v G hk hx =>
    subst hx
    simp only at hk b1 b2 b5
    subst hk
    have hp := b4 (p, r) (by simp)
    simp only [List.length_cons] at b2 hp
    exact rtake_one h (by omega) (by omega) (by omega) (by omega) at_ stop n m f
  | opn o v G hk hx =>
    subst hx
    simp only at hk b1 b2 b3 b5
    subst hk
    cases v with
    | nil => exact absurd rfl b3
    | cons pr v =>
    obtain ⟨p, r⟩ := pr
    have hp := b4 (p, r) (by simp)
    simp only [List.length_cons] at b2 hp
    exact rtake_opn h (by omega) (by omega) (by omega) (by omega) at_ stop n m f (by omega)
  | shut o p r p' r' v G hk hx =>
    subst hx
    simp only at hk b1 b2 b5
    subst hk
    have hp := b4 (p, r) (by simp)
    have hp' := b4 (p', r') (by simp)
    simp only [List.length_cons] at b2 hp hp'
    exact rtake_shut h (by omega) (by omega) (by omega) (by omega) at_ stop n m f (by omega) (by omega)
  | bar o p r v G hk hx =>
    subst hx
    simp only at hk b1 b2 b5
    subst hk
    have hp := b4 (p, r) (by simp)
    simp only [List.length_cons] at b2 hp
    exact rtake_bar h (by omega) (by omega) (by omega) (by omega) at_ stop n m f
  | rep o p r v G hk hx =>
    subst hx
    simp only at hk b1 b2 b5
    subst hk
    have hp := b4 (p + 1, r) (by simp)
    simp only [List.length_cons] at b2 hp
    exact rtake_rep h (by omega) (by omega) (by omega) (by omega) at_ stop n m f
theorem results_cell4 {P : Program} {fn : Func} {t : TypeId} {a b c d : Tmp} (h : fn.results = #[.cell a t, .tmp b, .tmp c, .tmp d]) {tmps : Array Value} {w : World} {p : Addr} {v x y z : Value} (hp : tmps.getD a undef = .pointer (some p))
    (hl : (loadVar t p).run P w = .ok v w) (hb : tmps.getD b undef = x) (hc : tmps.getD c undef = y) (hd : tmps.getD d undef = z) : (results fn tmps).run P w = .ok (.tuple #[v, x, y, z]) w := by
  subst hb hc hd
  have hp' : tmps[a]?.getD undef = .pointer (some p) := by simpa using hp
  simp [results, h, hp', asAddr, hl]
theorem StAt.lower {w : World} {B B' : Nat} {x : PS} {Ao : Option Addr} {co gp cp gr cr : Nat} (h : StAt w B x Ao co gp cp gr cr) (hB : B' ≤ B) : StAt w B' x Ao co gp cp gr cr :=
  ⟨row_mono h.out hB, row_mono h.pc hB, row_mono h.rw_ hB, h.a1, h.a2, h.ne, Nat.le_trans hB h.hB⟩
/-- What the document's Read leaves. -/
def RetR7 (s : ByteArray) (R : PR) (w : World) (e : Ending) (w' : World) : Prop :=
  match R with
  | .bad er p => e = .returned (.tuple #[.agg #[.slice none 0 0, .slice none 0 0, .slice none 0 0, .int .i64 0], .int .i64 0, .int .i64 er, .int .i64 p]) ∧ Below w.heap.size w w'
  | .ok y => if 1 < y.lv.length then e = .returned (.tuple #[.agg #[.slice none 0 0, .slice none 0 0, .slice none 0 0, .int .i64 0], .int .i64 ((y.lv.length - 1 : Nat) : Int), .int .i64 2, .int .i64 (s.size : Int)]) ∧ Below w.heap.size w w'
    else ∃ Ao co gp cp gr cr, e = .returned (.tuple #[.agg (psCells (endRows y) Ao co gp cp gr cr), .int .i64 0, .int .i64 0, .int .i64 0]) ∧ Below w.heap.size w w' ∧ StAt w' w.heap.size (endRows y) Ao co gp cp gr cr
theorem st_start (w : World) : BxAt ((((w.alloc (.cells #[.slice none 0 0, .slice none 0 0, .slice none 0 0, .int .i64 0] 104)).alloc (.cells #[.int .i64 0] 3)).alloc (.cells #[.int .i64 0] 3)).alloc (.cells #[.slice none 0 0, .slice (some ⟨w.heap.size + 1, 0, none⟩) 1 1, .slice (some ⟨w.heap.size + 1 + 1, 0, none⟩) 1 1, .int .i64 0] 104)) (w.heap.size + 1) (w.heap.size + 1 + 1 + 1) ps0 none 0 (w.heap.size + 1) 1 (w.heap.size + 1 + 1) 1 := by
  refine ⟨Slab.newAt _ _ _ (by simp), ⟨World.ownsRow_nil _ _ _ _, ?_, ?_, (fun h => by cases h), (fun h => by cases h), by omega, (by simp <;> omega)⟩, ⟨(fun h => by cases h), by omega, by omega⟩, by omega⟩
  · exact row_lit (((Slab.newAt _ _ _ (by simp)).alloc _).alloc _) (by omega) rfl (by decide)
  · exact row_lit ((Slab.newAt _ _ _ (by simp)).alloc _) (by omega) rfl (by decide)
set_option maxRecDepth 100000 in
set_option maxHeartbeats 2000000 in
theorem rread7_any (s : ByteArray) (hs : s.size ≤ 200000) (w : World) : Calls Try.prog 66 #[.string s] w (RetR7 s (readGo s 0 ps0) w) := by
  have H0 := Lib.hid (st_start w)
  have HB0 := Lib.hid (show Below w.heap.size w ((((w.alloc (.cells #[.slice none 0 0, .slice none 0 0, .slice none 0 0, .int .i64 0] 104)).alloc (.cells #[.int .i64 0] 3)).alloc (.cells #[.int .i64 0] 3)).alloc (.cells #[.slice none 0 0, .slice (some ⟨w.heap.size + 1, 0, none⟩) 1 1, .slice (some ⟨w.heap.size + 1 + 1, 0, none⟩) 1 1, .int .i64 0] 104)) from ((((Below.refl _ w).alloc (Nat.le_refl _) _).alloc (by simp) _).alloc (by simp <;> omega) _).alloc (by simp <;> omega) _)
  have HZ := Lib.hid (show Slab ((((w.alloc (.cells #[.slice none 0 0, .slice none 0 0, .slice none 0 0, .int .i64 0] 104)).alloc (.cells #[.int .i64 0] 3)).alloc (.cells #[.int .i64 0] 3)).alloc (.cells #[.slice none 0 0, .slice (some ⟨w.heap.size + 1, 0, none⟩) 1 1, .slice (some ⟨w.heap.size + 1 + 1, 0, none⟩) 1 1, .int .i64 0] 104)) w.heap.size #[.slice none 0 0, .slice none 0 0, .slice none 0 0, .int .i64 0] 104 from (((Slab.new w _ _).alloc _).alloc _).alloc _)
  go_enter Try.func66, Try.ntmps66
  go_wp2_with fail
  go_loopw [7] (fun a wr => ∃ (k : Nat) (x : PS), k ≤ s.size ∧ a = .int .i64 (k : Int) ∧ Bnd x k ∧ readGo s 0 ps0 = readGo s k x ∧ (∃ Ao co gp cp gr cr, BxAt wr (w.heap.size + 1) (w.heap.size + 1 + 1 + 1) x Ao co gp cp gr cr) ∧ Slab wr w.heap.size #[.slice none 0 0, .slice none 0 0, .slice none 0 0, .int .i64 0] 104 ∧ Below w.heap.size w wr) (fun a _ => s.size - (intOf a).toNat)
  case atStart => exact ⟨0, ps0, Nat.zero_le _, rfl, bnd0, rfl, ⟨_, _, _, _, _, _, H0.out⟩, HZ.out, HB0.out⟩
  case round =>
    clear H0 HB0 HZ
    obtain ⟨k, x, hk, rfl, hbd, hgo, ⟨Ao, co, gp, cp, gr, cr, hx⟩, hz, hB⟩ := hrel
    have HGO := Lib.hid hgo; clear hgo
    have HB := Lib.hid hB; clear hB
    obtain ⟨o, lv, G⟩ := x
    cases lv with
    | nil => exact absurd rfl hbd.ne
    | cons pr v =>
    obtain ⟨p, r⟩ := pr
    have hvl : v.length ≤ 200000 := by have := hbd.lv; simp at this; omega
    have HBD := Lib.hid hbd; clear hbd
    by_cases hlt : k < s.size
    · obtain ⟨er, her⟩ : ∃ er, barF ⟨o, (p, r) :: v, G⟩ (bt s k) = er := ⟨_, rfl⟩
      have hbt : bt s k = s[k] := bt_at s k hlt
      have C1 := fun d os => rfirst_any (hx.st.keep (below_regrown wr d os)) (by omega) s[k]
      rw [← hbt, her, hbt] at C1
      have hp : ∀ d os i, («Sort».grow (redrawn wr d) os).cell? ⟨w.heap.size + 1 + 1 + 1, i, none⟩ = _ := fun d os i => (hx.slab.below (below_regrown _ d os) hx.slab.lt).cell i
      unfold psCells at C1 hp
      simp only [List.length_cons] at C1 hp
      have HER := Lib.hid her
      have HX := Lib.hid hx
      have HZ := Lib.hid hz
      clear her hbt hx hz
      go_wp2_with fail
      refine wp_region_quiet_below (by kernel_rfl) (by kernel_rfl) ?_
      repeat (first | go_big_quiet_step ((first | (go_at_call 112; exact Calls.regrown_of (C1 _ _)))) | quiet_step ((first | (go_at_call 112; exact Calls.regrown_of (C1 _ _)))))
      refine wpQuiet_nil ?_
      intro _ hw'
      obtain ⟨⟨qd, qos⟩, hw''⟩ := hw'
      subst hw''
      generalize hw2 : «Sort».grow (redrawn wr qd) qos = w2
      have hb2 : Below wr.heap.size wr w2 := by rw [← hw2]; exact below_regrown wr qd qos
      have HX2 := Lib.hid (HX.out.keep hb2)
      have hz2 := HZ.out.call hb2
      have HZ2 := Lib.hid hz2
      have HB2 := Lib.hid (below_then HB.out hb2)
      clear hw2 hb2 hp C1
      by_cases h0 : er = 0
      · have t0 : (er != 0) = false := by rw [h0]; rfl
        have hbar : barF ⟨o, (p, r) :: v, G⟩ (bt s k) = 0 := by rw [HER.out]; exact h0
        have C3 := rnext5_any s (k : Int) (by omega)
        by_cases he : (nextW s k).err = 0
        · obtain ⟨wd, e, hw, hst, g1, g2, hat⟩ := fit_ok hlt he
          rw [hw] at C3
          have HT := Lib.hid (took (x := ⟨o, (p, r) :: v, G⟩) (by simp) hlt hbar hw)
          have HGO2 := Lib.hid (HGO.out.trans (readGo_word hlt hbar hw hst))
          have HST := Lib.hid hst
          generalize takeF ⟨o, (p, r) :: v, G⟩ wd = y at *
          clear hw he hbar hat hst h0 hz2
          go_wp2_with fail
          refine (C3 _).mono ?_
          rintro e3 w3 ⟨rfl, hb3⟩
          have hb4 := hb3.alloc hb3.size (.cells (wdCells wd) 57)
          have hx4 := HX2.out.keep hb4
          have hw4 : Slab (w3.alloc (.cells (wdCells wd) 57)) w3.heap.size (wdCells wd) 57 := Slab.new _ _ _
          have hfw : Free w3.heap.size Ao o.length co gp gr := HX2.out.st.free hb3.size
          have C4 := rtake_any hx4.st wd y HT.out (HBD.out.more (by omega))
          have HX4 := Lib.hid hx4
          have HW4 := Lib.hid hw4
          have HFW := Lib.hid hfw
          have HZ4 := Lib.hid (HZ2.out.call hb4)
          have HB4 := Lib.hid (below_then HB2.out hb4)
          have HSZ := Lib.hid (show w.heap.size + 1 ≤ w3.heap.size from Nat.le_trans HX2.out.st.hB hb3.size)
          obtain ⟨c4, f4⟩ := hx4.slab.facts
          obtain ⟨cw, fw⟩ := hw4.facts
          obtain ⟨kd, at_, stop, f, n, m⟩ := wd
          have hst : stop = (e : Int) := HST.out
          subst hst
          unfold psCells at c4 C4
          simp only [List.length_cons] at c4 C4
          clear C3 hb3 hb4 hx4 hw4 hfw
          go_wp2_with fail
          refine C4.mono ?_
          rintro e5 w5 ⟨A1, k1, p1, q1, r1, s1, he5, hb5, hs5, hfr5⟩
          have he6 : e5 = .returned (.agg #[.slice A1 y.out.length k1, .slice (some ⟨p1, 0, none⟩) y.lv.length q1, .slice (some ⟨r1, 0, none⟩) y.lv.length s1, .int .i64 (y.groups : Int)]) := he5
          clear he5
          subst he6
          obtain ⟨ob, fb⟩ := hfr5 _ _ _ HX4.out.slab HX4.out.free
          obtain ⟨ow, fw5⟩ := hfr5 _ _ _ HW4.out HFW.out
          obtain ⟨cb, fb'⟩ := ob.facts
          unfold psCells at cb
          simp only [List.length_cons] at cb
          have hsz := HSZ.out
          have hne : w3.heap.size ≠ w.heap.size + 1 + 1 + 1 := fun e => by
            have h9 := HX2.out.slab.lt
            have h8 := HX4.out.slab
            have := HW4.out
            rw [e] at this
            unfold Slab at this h8
            rw [this] at h8
            injection h8 with h8
            injection h8 with _ h7
            exact absurd h7 (by decide)
          have hx6 := st_over hs5 ob rfl fb (by omega)
          have HX6 := Lib.hid hx6
          have HW6 := Lib.hid ((((ow.far hne (i := 0) (.slice A1 y.out.length k1)).far hne (i := 1) (.slice (some ⟨p1, 0, none⟩) y.lv.length q1)).far hne (i := 2) (.slice (some ⟨r1, 0, none⟩) y.lv.length s1)).far hne (i := 3) (.int .i64 (y.groups : Int)))
          have hz5 := HZ4.out.below hb5 (by omega)
          have HZ6 := Lib.hid ((((hz5.far (b := w.heap.size + 1 + 1 + 1) (by omega) (i := 0) (.slice A1 y.out.length k1)).far (b := w.heap.size + 1 + 1 + 1) (by omega) (i := 1) (.slice (some ⟨p1, 0, none⟩) y.lv.length q1)).far (b := w.heap.size + 1 + 1 + 1) (by omega) (i := 2) (.slice (some ⟨r1, 0, none⟩) y.lv.length s1)).far (b := w.heap.size + 1 + 1 + 1) (by omega) (i := 3) (.int .i64 (y.groups : Int)))
          have HB6 := Lib.hid (below_set (below_set (below_set (below_set (HB4.out.trans (hb5.mono (by omega))) (b := w.heap.size + 1 + 1 + 1) (by omega) (i := 0) (.slice A1 y.out.length k1)) (b := w.heap.size + 1 + 1 + 1) (by omega) (i := 1) (.slice (some ⟨p1, 0, none⟩) y.lv.length q1)) (b := w.heap.size + 1 + 1 + 1) (by omega) (i := 2) (.slice (some ⟨r1, 0, none⟩) y.lv.length s1)) (b := w.heap.size + 1 + 1 + 1) (by omega) (i := 3) (.int .i64 (y.groups : Int)))
          clear C4 hb5 hs5 hfr5 ob fb ow fw5 c4 f4 cw fw hx6 hz5
          go_upto_region 11 with fail
          generalize hW6 : ((((w5.setCell ⟨w.heap.size + 1 + 1 + 1, 0, none⟩ (.slice A1 y.out.length k1)).setCell ⟨w.heap.size + 1 + 1 + 1, 1, none⟩ (.slice (some ⟨p1, 0, none⟩) y.lv.length q1)).setCell ⟨w.heap.size + 1 + 1 + 1, 2, none⟩ (.slice (some ⟨r1, 0, none⟩) y.lv.length s1)).setCell ⟨w.heap.size + 1 + 1 + 1, 3, none⟩ (.int .i64 (y.groups : Int))) = W6
          have h6 := HX6.out
          have w6 := HW6.out
          have z6 := HZ6.out
          have b6 := HB6.out
          rw [hW6] at h6 w6 z6 b6
          clear hW6 cb fb' HX6 HW6 HZ6 HB6
          obtain ⟨cw, fw⟩ := w6.facts
          have H6 := Lib.hid h6
          have Z6 := Lib.hid z6
          have B6 := Lib.hid b6
          clear h6 w6 z6 b6
          go_wp2
          go_roundw
          case rel => exact ⟨e, y, g2, rfl, (HBD.out.take HT.out).more g1, HGO2.out, ⟨_, _, _, _, _, _, H6.out⟩, Z6.out, B6.out⟩
          case measure => simp [intOf]; omega
        · have hr2 := HGO.out.trans (readGo_err hlt hbar he)
          obtain ⟨⟨⟨kd, at_, stop, f, n, m⟩, er2, pl⟩, hw⟩ : ∃ R, nextW s k = R := ⟨_, rfl⟩
          rw [hw] at C3 hr2 he
          have t1 : (er2 != 0) = true := bne_iff_ne.2 he
          have HRR := Lib.hid hr2
          clear hw he hbar hr2 h0 hz2
          go_wp2_with fail
          refine (C3 _).mono ?_
          rintro e3 w3 ⟨rfl, hb3⟩
          have hb4 := hb3.alloc hb3.size (.cells (wdCells ⟨kd, at_, stop, f, n, m⟩) 57)
          have hz4 := HZ2.out.call hb4
          have HZ4 := Lib.hid hz4
          have HB4 := Lib.hid (below_then HB2.out hb4)
          obtain ⟨cz, fz⟩ := hz4.facts
          clear C3 hb3 hb4 hz4
          go_wp2
          refine bodyPost_ret (results_cell4 (v := .agg #[.slice none 0 0, .slice none 0 0, .slice none 0 0, .int .i64 0]) (x := .int .i64 0) (y := .int .i64 er2) (z := .int .i64 pl) rfl rfl (load_slab (t := 104) (cs := #[.slice none 0 0, .slice none 0 0, .slice none 0 0, .int .i64 0]) ?_ 104 Try.underlying104 rfl (by kernel_rfl)) rfl rfl rfl) rfl (by show RetR7 s (readGo s 0 ps0) w _ _; rw [HRR.out]; exact ⟨rfl, below_set (below_set (below_set (below_set HB4.out (Nat.le_refl _) _) (Nat.le_refl _) _) (Nat.le_refl _) _) (Nat.le_refl _) _⟩)
          exact (((HZ4.out.set 0 _).set 1 _).set 2 _).set 3 _
      · have t0 : (er != 0) = true := bne_iff_ne.2 h0
        have hr2 := HGO.out.trans (readGo_bar hlt (by rw [HER.out]; exact h0))
        rw [HER.out] at hr2
        have HRR := Lib.hid hr2
        obtain ⟨cz, fz⟩ := hz2.facts
        clear h0 hr2 hz2
        go_wp2
        refine bodyPost_ret (results_cell4 (v := .agg #[.slice none 0 0, .slice none 0 0, .slice none 0 0, .int .i64 0]) (x := .int .i64 0) (y := .int .i64 er) (z := .int .i64 ((k : Int) + 1)) rfl rfl (load_slab (t := 104) (cs := #[.slice none 0 0, .slice none 0 0, .slice none 0 0, .int .i64 0]) ?_ 104 Try.underlying104 rfl (by kernel_rfl)) rfl rfl rfl) rfl (by show RetR7 s (readGo s 0 ps0) w _ _; rw [HRR.out]; exact ⟨rfl, below_set (below_set (below_set (below_set HB2.out (Nat.le_refl _) _) (Nat.le_refl _) _) (Nat.le_refl _) _) (Nat.le_refl _) _⟩)
        exact (((HZ2.out.set 0 _).set 1 _).set 2 _).set 3 _
    · have hks : k = s.size := by omega
      have hr2 := HGO.out.trans (readGo_end (x := ⟨o, (p, r) :: v, G⟩) (by omega : s.size ≤ k))
      have HRR := Lib.hid hr2
      have HX := Lib.hid hx
      have HZ := Lib.hid hz
      obtain ⟨c1, f1⟩ := hx.slab.facts
      obtain ⟨cz, fz⟩ := hz.facts
      have hbd := HBD.out
      obtain ⟨b1, b2, _, b4, _⟩ := hbd
      have hpr := b4 (p, r) (by simp)
      simp only [List.length_cons] at b1 b2 hpr
      subst hks
      unfold psCells at c1
      simp only [List.length_cons] at c1
      by_cases h1 : 0 < v.length
      · have t1 : decide (0 < (v.length : Int)) = true := decide_eq_true (by omega)
        clear hr2 hx hz
        go_wp2
        refine bodyPost_ret (results_cell4 (v := .agg #[.slice none 0 0, .slice none 0 0, .slice none 0 0, .int .i64 0]) (x := .int .i64 (v.length : Int)) (y := .int .i64 2) (z := .int .i64 (s.size : Int)) rfl rfl (load_slab (t := 104) (cs := #[.slice none 0 0, .slice none 0 0, .slice none 0 0, .int .i64 0]) ?_ 104 Try.underlying104 rfl (by kernel_rfl)) rfl rfl rfl) rfl (by show RetR7 s (readGo s 0 ps0) w _ _; rw [HRR.out]; unfold RetR7; simp only [List.length_cons]; rw [if_pos (by omega)]; exact ⟨rfl, below_set (below_set (below_set (below_set HB.out (Nat.le_refl _) _) (Nat.le_refl _) _) (Nat.le_refl _) _) (Nat.le_refl _) _⟩)
        exact (((HZ.out.set 0 _).set 1 _).set 2 _).set 3 _
      · have hv : v = [] := List.eq_nil_of_length_eq_zero (by omega)
        subst hv
        have C := rrows_any hx.st (by omega) (by simp) (by omega) (by omega)
        generalize hy : endRows ⟨o, [(p, r)], G⟩ = y at *
        have HY := Lib.hid hy
        unfold psCells at C
        simp only [List.length_cons, List.length_nil] at C c1
        clear hr2 hx hz hy
        go_wp2_with fail
        refine C.mono ?_
        rintro e5 w5 ⟨A1, k1, p1, q1, r1, s1, he5, hb5, hs5, hfr5⟩
        have he6 : e5 = .returned (.agg #[.slice A1 y.out.length k1, .slice (some ⟨p1, 0, none⟩) y.lv.length q1, .slice (some ⟨r1, 0, none⟩) y.lv.length s1, .int .i64 (y.groups : Int)]) := he5
        clear he5
        subst he6
        have hz5 := HZ.out.below hb5 (by omega)
        have HZ5 := Lib.hid hz5
        obtain ⟨c5, f5⟩ := hz5.facts
        have hsz := HB.out.size
        have HB5 := Lib.hid (HB.out.trans (hb5.mono (by omega)))
        have HS5 := Lib.hid hs5
        clear C hb5 hs5 hfr5 c1 f1 cz fz hz5
        go_wp2
        have hfree : Free w.heap.size A1 y.out.length k1 p1 r1 :=
          ⟨fun e => by have := (HS5.out.out.lt _ e).1; omega, fun e => by have := (slab_of_row HS5.out.pc).1; omega, fun e => by have := (slab_of_row HS5.out.rw_).1; omega⟩
        obtain ⟨S1, S2⟩ := st_out (g := w.heap.size) HS5.out HZ5.out hfree
        refine bodyPost_ret (results_cell4 (v := .agg (psCells y A1 k1 p1 q1 r1 s1)) (x := .int .i64 0) (y := .int .i64 0) (z := .int .i64 0) rfl rfl (load_slab (t := 104) (cs := psCells y A1 k1 p1 q1 r1 s1) ?_ 104 Try.underlying104 rfl (by kernel_rfl)) rfl rfl rfl) rfl (by show RetR7 s (readGo s 0 ps0) w _ _; rw [HRR.out]; unfold RetR7; simp only [List.length_cons, List.length_nil]; rw [if_neg (by omega), HY.out]; exact ⟨_, _, _, _, _, _, rfl, below_set (below_set (below_set (below_set HB5.out (Nat.le_refl _) _) (Nat.le_refl _) _) (Nat.le_refl _) _) (Nat.le_refl _) _, S2.lower (by omega)⟩)
        exact S1
end Go.Proofs.Ytddokdjlmdoebaa
