/- Walks of the parser: a word more. -/
import Derived.Test.YtfcgmgpcbenfpaaGreatProg
import Derived.WalkKit
import Derived.WalkSpells
import Derived.WalkLawsBesides
import Derived.Handy
import Derived.Lib.Hide
import Derived.Test.YtfcgmgpcbenfpaaGreatParC
import Derived.Lib.QuietBelow
import Derived.BigQuiet
import Derived.Deep.QuietTactic
set_option linter.unusedVariables false
set_option linter.unusedSimpArgs false
namespace Go.Proofs.YtfcgmgpcbenfpaaGreat
open Go.RowKit SetP BrkP LexP AstP ParP
set_option maxRecDepth 100000 in
set_option maxHeartbeats 2000000 in
theorem take_opn {B g : Nat} {s : ByteArray} {a : Nat} {o : List Nd} {v : List (Nat × Nat)} {G : Nat} {Ao : Option Addr} {co gl cl : Nat} {w : World} (h : RAt w B g s a ⟨o, v, G⟩ Ao co gl cl) (n m at_ stop : Int) (f : Nat → Bool) (kd : Int) (hk : kd = 2)
    (hn : o.length ≤ 1000000) (hv : v.length ≤ 1000000) (hG : G ≤ 1000000) : Calls Tryz.prog 71 #[pp g, wdV ⟨kd, at_, stop, f, n, m⟩] w (to1 B g s a ⟨o, (0, 0) :: v, G + 1⟩ w) := by
  subst hk
  obtain ⟨i0, hi, hz0, hz1, hz2⟩ := info_parts info_level
  have HI := Lib.hid hi; clear hi
  have HZ0 := Lib.hid hz0; clear hz0
  have HZ1 := Lib.hid hz1; clear hz1
  have HZ2 := Lib.hid hz2; clear hz2
  have HB0 := Lib.hid ((Below.refl B w).alloc h.le (.cells (wdCells ⟨2, at_, stop, f, n, m⟩) 74))
  have hb0 := (Below.refl w.heap.size w).alloc (Nat.le_refl _) (.cells (wdCells ⟨2, at_, stop, f, n, m⟩) 74)
  have h0 := h.keep hb0
  have o0 : Slab (w.alloc (.cells (wdCells ⟨2, at_, stop, f, n, m⟩) 74)) w.heap.size (wdCells ⟨2, at_, stop, f, n, m⟩) 74 := Slab.new _ _ _
  obtain ⟨c0, f0⟩ := o0.facts
  clear h hb0
  have hownl : (w.alloc (.cells (wdCells ⟨2, at_, stop, f, n, m⟩) 74)).ownsRow B 109 2 (.slice (some ⟨gl, 0, none⟩) v.length cl) v.length (flatV v) := h0.lv
  have hsz : B ≤ (w.alloc (.cells (wdCells ⟨2, at_, stop, f, n, m⟩) 74)).heap.size := h0.le
  obtain ⟨c1, f1⟩ := h0.slab.facts
  unfold prCells at c1
  have H0 := Lib.hid h0
  clear h0
  go_enter Tryz.func71, Tryz.ntmps71
  go_wp2_with (at_builtin; go_must (
    (refine wpList_append_elem_at _ ?g1 (.tmp 27) (.tmp 29) 70 ?g2 B 109 i0 (.agg #[.int .i64 0, .int .i64 0]) 2 16 ?g3 ?g4 ?g5 ?g6 ?g7 ?g8 ?g9 _ _ _ _ ?g10 hownl ?gc ?gg ?g11 ?g12 ?g13 ?g14 ?g15 ?g16 ?g17 ?g18; (case g1 => rfl); (case g2 => rfl); (case g3 => exact Tryz.underlying70); (case g4 => exact HI.out); (case g5 => exact HZ0.out); (case g6 => exact HZ1.out); (case g7 => exact HZ2.out); (case g8 => rfl); (case g9 => decide); (case g10 => rfl); (case g12 => rfl); (case g11 => first | rfl | exact slice_at (by simp)); (case g13 => rfl); (case g14 => simp [Value.oneCell']); (case g15 => unfold maxLen; omega); (case g16 => omega); (case g17 => first | omega | (simp; omega)); intro A5 q5 w5 hown5 hbl5 has5)
    obtain ⟨o5, hx5⟩ := has5 _ _ _ H0.out.slab (fun e => H0.out.n2 (by injection e))
    obtain ⟨out5, ap5⟩ := row_aside H0.out.out has5 H0.out.ap.symm
    have h6 := H0.out.deeper o5 hown5 out5 ap5 hx5
    have H6 := Lib.hid h6
    obtain ⟨c5, f5⟩ := o5.facts
    unfold prCells at c5
    have HB5 := Lib.hid (HB0.out.trans hbl5)
    clear h6 o5 hx5 out5 ap5 has5 hown5 hbl5 c1 f1 hownl c0 f0))
  obtain ⟨g5, rfl, h6⟩ := H6.out
  have h7 := h6.many (G + 1)
  first | go_end0 | refine bodyPost_ret (results_none rfl _ _ _) rfl ?_
  exact ⟨rfl, below_set (below_set HB5.out h6.hB _) h6.hB _, _, _, _, _, h7⟩
set_option maxRecDepth 100000 in
set_option maxHeartbeats 2000000 in
theorem take_any {B g : Nat} {s : ByteArray} {a : Nat} {x : PS} {Ao : Option Addr} {co gl cl : Nat} {w : World} (h : RAt w B g s a x Ao co gl cl) (wd : Wd) (y : PS) (ht : Took x wd y) (hb : Bnd x 200000) : Calls Tryz.prog 71 #[pp g, wdV wd] w (to1 B g s a y w) := by
  obtain ⟨kd, at_, stop, f, n, m⟩ := wd
  cases ht with
  | one o p r v G hk hx =>
    subst hx
    simp only at hk
    subst hk
    obtain ⟨b1, b2, _, b4, _⟩ := hb
    have hp := b4 (p, r) (by simp)
    simp only [List.length_cons] at b1 b2 hp
    have HB0 := Lib.hid ((Below.refl B w).alloc h.le (.cells (wdCells ⟨1, at_, stop, f, n, m⟩) 74))
    have hb0 := (Below.refl w.heap.size w).alloc (Nat.le_refl _) (.cells (wdCells ⟨1, at_, stop, f, n, m⟩) 74)
    have h0 := h.keep hb0
    have o0 : Slab (w.alloc (.cells (wdCells ⟨1, at_, stop, f, n, m⟩) 74)) w.heap.size (wdCells ⟨1, at_, stop, f, n, m⟩) 74 := Slab.new _ _ _
    obtain ⟨c0, f0⟩ := o0.facts
    clear h hb0
    have C := put_any (ndS f) _ (by rfl : ndCells (ndS f) = #[.int .i64 2, .int .i64 0, .int .i64 0, .int .i64 0, .int .u64 (wd f 0), .int .u64 (wd f 1), .int .u64 (wd f 2), .int .u64 (wd f 3)]) h0 (by show o.length ≤ _; omega)
    clear h0
    go_enter Tryz.func71, Tryz.ntmps71
    go_wp2_with fail
    refine C.mono ?_
    rintro e4 w4 ⟨rfl, hb4, A4, q4, h4⟩
    replace h4 : RAt w4 B g s a ⟨o ++ [ndS f], (p, r) :: v, G⟩ A4 q4 gl cl := h4
    have HB4 := Lib.hid (HB0.out.trans hb4)
    have T := top_any h4 p r v rfl (by omega)
    clear C hb4 c0 f0 HB0
    go_wp2_with fail
    refine T.mono ?_
    rintro e5 w5 ⟨rfl, hb5⟩
    have h5 := h4.keep hb5
    have HB5 := Lib.hid (HB4.out.trans (hb5.mono h4.le))
    obtain ⟨k0, k1, k2, k3⟩ := h5.tops
    have HE := Lib.hid (h5.poke0 (p + 1))
    have HGL := Lib.hid (h5.cap.2.1)
    clear T h4 h5 hb5 HB4
    go_wp2
    first | go_end0 | refine bodyPost_ret (results_none rfl _ _ _) rfl ?_
    exact ⟨rfl, below_set HB5.out HGL.out _, _, _, _, _, HE.out⟩
  | opn o v G hk hx =>
    subst hx
    exact take_opn h n m at_ stop f kd hk (by have := hb.out; simp only at this; omega) (by have := hb.lv; simp only at this; omega) (by have := hb.gr; simp only at this; omega)
  | shut o p r p' r' v G hk hx =>
    subst hx
    simp only at hk
    subst hk
    obtain ⟨b1, b2, _, b4, _⟩ := hb
    have hp := b4 (p, r) (by simp)
    have hp' := b4 (p', r') (by simp)
    simp only [List.length_cons] at b1 b2 hp hp'
    have l1 := rowN_le p
    have l2 := rowsN_le (r + 1)
    have HB0 := Lib.hid ((Below.refl B w).alloc h.le (.cells (wdCells ⟨3, at_, stop, f, n, m⟩) 74))
    have hb0 := (Below.refl w.heap.size w).alloc (Nat.le_refl _) (.cells (wdCells ⟨3, at_, stop, f, n, m⟩) 74)
    have h0 := h.keep hb0
    have o0 : Slab (w.alloc (.cells (wdCells ⟨3, at_, stop, f, n, m⟩) 74)) w.heap.size (wdCells ⟨3, at_, stop, f, n, m⟩) 74 := Slab.new _ _ _
    obtain ⟨c0, f0⟩ := o0.facts
    clear h hb0
    have C := endRows_any h0 (by omega) (by simp; omega) (by omega) (by omega)
    clear h0
    have he2 : endRows ⟨o, (p, r) :: (p', r') :: v, G⟩ = ⟨o ++ rowN p ++ rowsN (r + 1), (p', r') :: v, G⟩ := rfl
    rw [he2] at C
    have hq : (o ++ rowN p ++ rowsN (r + 1)).length ≤ 1000000 := by rw [List.length_append, List.length_append]; omega
    generalize o ++ rowN p ++ rowsN (r + 1) = q at *
    clear he2 l1 l2
    go_enter Tryz.func71, Tryz.ntmps71
    go_wp2_with fail
    refine C.mono ?_
    rintro e3 w3 ⟨rfl, hb3, A3, q3, gl3, cl3, h3⟩
    have HB3 := Lib.hid (HB0.out.trans hb3)
    have C1 := put_any ndG _ (by unfold ndCells; simp only [ndG, noSet, wd_zero] : ndCells ndG = #[.int .i64 3, .int .i64 1, .int .i64 0, .int .i64 0, .int .u64 0, .int .u64 0, .int .u64 0, .int .u64 0]) h3 (by show q.length ≤ _; omega)
    clear C hb3 h3 c0 f0 HB0
    go_wp2_with fail
    refine C1.mono ?_
    rintro e4 w4 ⟨rfl, hb4, A4, q4, h4⟩
    replace h4 : RAt w4 B g s a ⟨q ++ [ndG], (p', r') :: v, G⟩ A4 q4 gl3 cl3 := h4
    have HB4 := Lib.hid (HB3.out.trans hb4)
    have T := top_any h4 p' r' v rfl (by omega)
    clear C1 hb4 HB3
    go_wp2_with fail
    refine T.mono ?_
    rintro e5 w5 ⟨rfl, hb5⟩
    have h5 := h4.keep hb5
    have HB5 := Lib.hid (HB4.out.trans (hb5.mono h4.le))
    obtain ⟨k0, k1, k2, k3⟩ := h5.tops
    have HE := Lib.hid (h5.poke0 (p' + 1))
    have HGL := Lib.hid (h5.cap.2.1)
    clear T h4 h5 hb5 HB4
    go_wp2
    first | go_end0 | refine bodyPost_ret (results_none rfl _ _ _) rfl ?_
    exact ⟨rfl, below_set HB5.out HGL.out _, _, _, _, _, HE.out⟩
  | bar o p r v G hk hx =>
    subst hx
    simp only at hk
    subst hk
    obtain ⟨b1, b2, _, b4, _⟩ := hb
    have hp := b4 (p, r) (by simp)
    simp only [List.length_cons] at b1 b2 hp
    have HB0 := Lib.hid ((Below.refl B w).alloc h.le (.cells (wdCells ⟨4, at_, stop, f, n, m⟩) 74))
    have hb0 := (Below.refl w.heap.size w).alloc (Nat.le_refl _) (.cells (wdCells ⟨4, at_, stop, f, n, m⟩) 74)
    have h0 := h.keep hb0
    have o0 : Slab (w.alloc (.cells (wdCells ⟨4, at_, stop, f, n, m⟩) 74)) w.heap.size (wdCells ⟨4, at_, stop, f, n, m⟩) 74 := Slab.new _ _ _
    obtain ⟨c0, f0⟩ := o0.facts
    clear h hb0
    have C := endRow_any h0 (by omega) (by omega) (by omega) (by omega)
    clear h0
    go_enter Tryz.func71, Tryz.ntmps71
    go_wp2_with fail
    refine C.mono ?_
    rintro e3 w3 ⟨rfl, hb3, h3⟩
    have HB3 := Lib.hid (HB0.out.trans hb3)
    have H3 := Lib.hid h3
    clear C hb3 h3 c0 f0 HB0
    go_wp2
    first | go_end0 | refine bodyPost_ret (results_none rfl _ _ _) rfl ?_
    exact ⟨rfl, HB3.out, H3.out⟩
  | rep o p r v G hk hx =>
    subst hx
    simp only at hk
    subst hk
    obtain ⟨b1, b2, _, b4, _⟩ := hb
    simp only [List.length_cons] at b1 b2
    have HB0 := Lib.hid ((Below.refl B w).alloc h.le (.cells (wdCells ⟨5, at_, stop, f, n, m⟩) 74))
    have hb0 := (Below.refl w.heap.size w).alloc (Nat.le_refl _) (.cells (wdCells ⟨5, at_, stop, f, n, m⟩) 74)
    have h0 := h.keep hb0
    have o0 : Slab (w.alloc (.cells (wdCells ⟨5, at_, stop, f, n, m⟩) 74)) w.heap.size (wdCells ⟨5, at_, stop, f, n, m⟩) 74 := Slab.new _ _ _
    obtain ⟨c0, f0⟩ := o0.facts
    clear h hb0
    have C := put_any (ndR n m) _ (by unfold ndCells; simp only [ndR, noSet, wd_zero] : ndCells (ndR n m) = #[.int .i64 4, .int .i64 1, .int .i64 n, .int .i64 m, .int .u64 0, .int .u64 0, .int .u64 0, .int .u64 0]) h0 (by show o.length ≤ _; omega)
    clear h0
    go_enter Tryz.func71, Tryz.ntmps71
    go_wp2_with fail
    refine C.mono ?_
    rintro e3 w3 ⟨rfl, hb3, A3, q3, h3⟩
    have HB3 := Lib.hid (HB0.out.trans hb3)
    have H3 := Lib.hid h3
    clear C hb3 h3 c0 f0 HB0
    go_wp2
    first | go_end0 | refine bodyPost_ret (results_none rfl _ _ _) rfl ?_
    exact ⟨rfl, HB3.out, _, _, _, _, H3.out⟩
end Go.Proofs.YtfcgmgpcbenfpaaGreat

/- Walks of the parser: all words are read; the tree; what is open. -/
namespace Go.Proofs.YtfcgmgpcbenfpaaGreat
open Go.RowKit SetP BrkP LexP AstP ParP
/-- What is handed back when all words are read. -/
def RetRead (s : ByteArray) (R : PR) (w : World) (e : Ending) (w' : World) : Prop :=
  match R with
  | .ok y => ∃ g, e = .returned (.tuple #[pp g, .int .i64 0, .int .i64 0]) ∧ rat w' w.heap.size g s s.size y ∧ Below w.heap.size w w'
  | .bad er p => e = .returned (.tuple #[.pointer none, .int .i64 er, .int .i64 p]) ∧ Below w.heap.size w w'
theorem rat_start (s : ByteArray) (w : World) : RAt ((w.alloc (.cells #[.int .i64 0, .int .i64 0] 109)).alloc (.cells #[.string s, .int .i64 0, .slice none 0 0, .slice (some ⟨w.heap.size, 0, none⟩) 1 1, .int .i64 0] 72)) w.heap.size (w.heap.size + 1) s 0 ps0 none 0 w.heap.size 1 := by
  refine ⟨Slab.newAt _ _ _ (by simp), World.ownsRow_nil _ _ _ _, ?_, (fun k hk => by cases hk), (fun h => by cases h), by omega, by omega⟩
  exact row_lit ((Slab.new w _ _).alloc _) (Nat.le_refl _) rfl (by decide)
set_option maxRecDepth 100000 in
set_option maxHeartbeats 2000000 in
theorem pread_any (s : ByteArray) (hs : s.size ≤ 200000) (w : World) : Calls Tryz.prog 41 #[.string s] w (RetRead s (readGo s 0 ps0) w) := by
  have H0 := Lib.hid (rat_start s w)
  have HB0 := Lib.hid (((Below.refl w.heap.size w).alloc (Nat.le_refl _) (.cells #[.int .i64 0, .int .i64 0] 109)).alloc (by simp) (.cells #[.string s, .int .i64 0, .slice none 0 0, .slice (some ⟨w.heap.size, 0, none⟩) 1 1, .int .i64 0] 72))
  go_enter Tryz.func41, Tryz.ntmps41
  go_wp2_with fail
  go_loopw [6] (fun _ wr => ∃ (k : Nat) (x : PS), k ≤ s.size ∧ Bnd x k ∧ readGo s 0 ps0 = readGo s k x ∧ rat wr w.heap.size (w.heap.size + 1) s k x ∧ Below w.heap.size w wr) (fun _ wr => s.size - (intOf ((wr.cell? ⟨w.heap.size + 1, 1, none⟩).getD undef)).toNat)
  case atStart => exact ⟨0, ps0, Nat.zero_le _, bnd0, rfl, ⟨_, _, _, _, H0.out⟩, HB0.out⟩
  case round =>
    clear H0 HB0
    obtain ⟨k, x, hk, hbd, hgo, ⟨Ao, co, gl, cl, hr⟩, hB⟩ := hrel
    have hcell : wr.cell? ⟨w.heap.size + 1, 1, none⟩ = some (.int .i64 (k : Int)) := hr.slab.cell 1
    have HM : Hid (s.size - (intOf ((wr.cell? ⟨w.heap.size + 1, 1, none⟩).getD undef)).toNat = s.size - k) := Lib.hid (by rw [hcell]; rfl)
    clear hcell
    have HGO := Lib.hid hgo; clear hgo
    have HB := Lib.hid hB; clear hB
    have C1 := left_any hr (by omega) (by omega)
    have HR := Lib.hid hr; clear hr
    by_cases hlt : k < s.size
    · have ht : decide (k < s.size) = true := by simpa using hlt
      rw [ht] at C1
      obtain ⟨o, lv, G⟩ := x
      have HBD := Lib.hid hbd
      cases lv with
      | nil => exact absurd rfl hbd.ne
      | cons pr v =>
      obtain ⟨p, r⟩ := pr
      have hvl : v.length ≤ 200000 := by have := hbd.lv; simp at this; omega
      clear hbd
      go_wp2_with fail
      refine C1.mono ?_
      rintro e1 w1 ⟨rfl, hb1⟩
      have h1 := HR.out.keep hb1
      have HB1 := Lib.hid (HB.out.trans (hb1.mono HR.out.le))
      have C2 := bars_any h1 (by omega) s[k]
      have hbt : bt s k = s[k] := bt_at s k hlt
      obtain ⟨er, her⟩ : ∃ er, barF ⟨o, (p, r) :: v, G⟩ (bt s k) = er := ⟨_, rfl⟩
      have her' : barF ⟨o, (p, r) :: v, G⟩ s[k] = er := by rw [← hbt]; exact her
      rw [her'] at C2
      have HER := Lib.hid her
      have HR1 := Lib.hid h1
      obtain ⟨c1, f1⟩ := h1.slab.facts
      unfold prCells at c1
      clear C1 hb1 h1 her her' hbt
      go_wp2_with fail
      refine C2.mono ?_
      rintro e2 w2 ⟨rfl, hb2⟩
      have h2 := HR1.out.keep hb2
      have HB2 := Lib.hid (HB1.out.trans (hb2.mono HR1.out.le))
      obtain ⟨c2, f2⟩ := h2.slab.facts
      unfold prCells at c2
      have HR2 := Lib.hid h2
      by_cases h0 : er = 0
      · have t0 : (er != 0) = false := by rw [h0]; rfl
        have hbar : barF ⟨o, (p, r) :: v, G⟩ (bt s k) = 0 := by rw [HER.out]; exact h0
        have HBAR := Lib.hid hbar
        clear C2 hb2 hbar h0
        by_cases he : (nextW s k).err = 0
        · obtain ⟨wd, e, hw, hst, g1, g2, hat⟩ := fit_ok hlt he
          have C3 := wnext_ok h2 (by omega) e wd hw hst
          have HT := Lib.hid (took (x := ⟨o, (p, r) :: v, G⟩) (by simp) hlt HBAR.out hw)
          have HGO2 := Lib.hid (HGO.out.trans (readGo_word hlt HBAR.out hw hst))
          clear h2 hw he HBAR c2 f2 hat hst c1 f1
          go_wp2_with fail
          refine C3.mono ?_
          rintro e3 w3 ⟨rfl, hb3, h3⟩
          have HB3 := Lib.hid (HB2.out.trans hb3)
          have hb4 := (Below.refl w3.heap.size w3).alloc (Nat.le_refl _) (.cells (wdCells wd) 74)
          have h4 := h3.keep hb4
          have HB4 := Lib.hid (HB3.out.alloc h3.le (.cells (wdCells wd) 74))
          have C4 := take_any h4 wd _ HT.out (HBD.out.more (by omega))
          clear C3 hb3 h3 hb4 h4
          obtain ⟨kd, at_, stop, f, n, m⟩ := wd
          go_wp2_with fail
          refine C4.mono ?_
          rintro e5 w5 ⟨rfl, hb5, h5⟩
          have HB5 := Lib.hid (HB4.out.trans hb5)
          have HR5 := Lib.hid h5
          clear C4 hb5 h5
          go_wp2
          go_roundw
          case rel => exact ⟨e, _, g2, (HBD.out.take HT.out).more g1, HGO2.out, HR5.out, HB5.out⟩
          case measure =>
            obtain ⟨A6, q6, g6, r6, h6⟩ := HR5.out
            have hc6 : w5.cell? ⟨w.heap.size + 1, 1, none⟩ = some (.int .i64 (e : Int)) := h6.slab.cell 1
            rw [HM.out, hc6]
            simp [intOf]; omega
        · have C3 := wnext_err h2 (by omega) he
          have hr2 := HGO.out.trans (readGo_err hlt HBAR.out he)
          obtain ⟨⟨⟨kd, at_, stop, f, n, m⟩, er2, pl⟩, hw⟩ : ∃ R, nextW s k = R := ⟨_, rfl⟩
          rw [hw] at C3 hr2 he
          have t1 : (er2 != 0) = true := bne_iff_ne.2 he
          have HRR := Lib.hid hr2
          have HR2' := Lib.hid h2
          clear h2 hw he HBAR c2 f2 hr2
          go_wp2_with fail
          refine C3.mono ?_
          rintro e3 w3 ⟨rfl, hb3⟩
          have HB3 := Lib.hid (HB2.out.trans (hb3.mono HR2.out.le))
          clear C3 hb3
          go_wp2
          refine bodyPost_ret (v := .tuple #[.pointer none, .int .i64 er2, .int .i64 pl]) (by simp [results, Tryz.results41, go_sem]) rfl (by show RetRead s (readGo s 0 ps0) w _ _; rw [HRR.out]; exact ⟨rfl, HB3.out.alloc (HB3.out.size) _⟩)
      · have t0 : (er != 0) = true := bne_iff_ne.2 h0
        have hr2 := HGO.out.trans (readGo_bar hlt (by rw [HER.out]; exact h0))
        rw [HER.out] at hr2
        have HRR := Lib.hid hr2
        clear C2 hb2 h2 h0 hr2
        go_wp2_with fail
        go_quiet (fail)
        go_wp2
        refine bodyPost_ret (v := .tuple #[.pointer none, .int .i64 er, .int .i64 ((k : Int) + 1)]) (by simp [results, Tryz.results41, go_sem]) rfl (by show RetRead s (readGo s 0 ps0) w _ _; rw [HRR.out]; exact ⟨rfl, below_drewN HB2.out _⟩)
    · have ht : decide (k < s.size) = false := by simpa using hlt
      rw [ht] at C1
      have hks : k = s.size := by omega
      have hr2 := HGO.out.trans (readGo_end (x := x) (by omega : s.size ≤ k))
      have HRR := Lib.hid hr2
      subst hks
      clear hr2
      go_wp2_with fail
      refine C1.mono ?_
      rintro e1 w1 ⟨rfl, hb1⟩
      have HR1 := Lib.hid (HR.out.keep hb1)
      have HB1 := Lib.hid (HB.out.trans (hb1.mono HR.out.le))
      clear C1 hb1
      go_wp2
      refine bodyPost_ret (v := .tuple #[pp (w.heap.size + 1), .int .i64 0, .int .i64 0]) (by simp [results, Tryz.results41, go_sem]) rfl (by show RetRead s (readGo s 0 ps0) w _ _; rw [HRR.out]; exact ⟨_, rfl, ⟨_, _, _, _, HR1.out⟩, HB1.out⟩)
end Go.Proofs.YtfcgmgpcbenfpaaGreat

/- Walks of the parser: the tree of a pattern; what is open. -/
namespace Go.Proofs.YtfcgmgpcbenfpaaGreat
open Go.RowKit SetP BrkP LexP AstP ParP
theorem ParP.Run.bnd {s : ByteArray} {a b : Nat} {x y : PS} (h : Run s a x b y) (hb : Bnd x a) : Bnd y b := by
  induction h with
  | refl a x => exact hb
  | step ha hbar hw he h ih =>
    obtain ⟨e', h1, h2, h3⟩ := stop_of ha hw
    have := (hb.take (took hb.ne ha hbar hw)).more (show _ + 1 ≤ e' by omega)
    have ee : e' = _ := Int.ofNat.inj (h1.symm.trans he)
    rw [ee] at this
    exact ih this
/-- What a call leaves that hands back a tree, the error, its place. -/
def RetParse (R : List Nd × Int × Int) (w : World) (e : Ending) (w' : World) : Prop :=
  ∃ A c, e = .returned (.tuple #[.slice A R.1.length c, .int .i64 R.2.1, .int .i64 R.2.2]) ∧ w'.ownsRow w.heap.size 51 8 (.slice A R.1.length c) R.1.length (flatD R.1) ∧ Below w.heap.size w w'
/-- What the reading of a text leaves. -/
inductive Read7 (s : ByteArray) : Prop where
  | ok (y : PS) (h : readGo s 0 ps0 = .ok y) (hb : Bnd y s.size)
  | bad (er p : Int) (h : readGo s 0 ps0 = .bad er p) (h0 : er ≠ 0)
theorem read7 (s : ByteArray) : Read7 s := by
  cases halt s 0 ps0 (Nat.zero_le _) with
  | done y h e => exact .ok y e (h.bnd bnd0)
  | bar b y h hb h0 e => exact .bad _ _ e h0
  | err b y h hb h0 h1 e => exact .bad _ _ e h1
theorem parse_bad7 {s : ByteArray} {er p : Int} (h : readGo s 0 ps0 = .bad er p) : parseF s = ([], er, p) ∧ openF s = 0 := by
  unfold parseF openF; rw [h]; exact ⟨rfl, rfl⟩
set_option maxRecDepth 100000 in
set_option maxHeartbeats 2000000 in
theorem pparse_any (s : ByteArray) (hs : s.size ≤ 200000) (w : World) : Calls Tryz.prog 24 #[.string s] w (RetParse (parseF s) w) := by
  have C := pread_any s hs w
  rcases read7 s with ⟨y, h, hb⟩ | ⟨er, p, h, h0⟩
  · have hp : parseF s = if 1 < y.lv.length then ([], 2, (s.size : Int)) else ((endRows y).out, 0, 0) := by unfold parseF; rw [h]; rfl
    rw [h] at C
    clear h
    obtain ⟨o, lv, G⟩ := y
    cases lv with
    | nil => exact absurd rfl hb.ne
    | cons pr v =>
    obtain ⟨p, r⟩ := pr
    obtain ⟨b1, b2, _, b4, _⟩ := hb
    have hpr := b4 (p, r) (by simp)
    simp only [List.length_cons] at b1 b2 hpr hp
    by_cases h1 : 1 < v.length + 1
    · rw [if_pos h1] at hp
      rw [hp]
      have t1 : decide (1 < (v.length : Int) + 1) = true := decide_eq_true (by omega)
      clear hp h1
      go_enter Tryz.func24, Tryz.ntmps24
      go_wp2_with fail
      refine C.mono ?_
      rintro e1 w1 h1
      unfold RetRead at h1
      simp only at h1
      obtain ⟨g, rfl, ⟨Ao, co, gl, cl, hr⟩, hb1⟩ := h1
      obtain ⟨c1, f1⟩ := hr.slab.facts
      unfold prCells at c1
      simp only [List.length_cons] at c1
      have HB1 := Lib.hid hb1
      clear C hr hb1
      go_wp2
      refine bodyPost_ret (v := .tuple #[.slice none 0 0, .int .i64 2, .int .i64 (s.size : Int)]) (by simp [results, Tryz.results24, go_sem]) rfl ⟨none, 0, rfl, World.ownsRow_nil _ _ _ _, HB1.out⟩
    · rw [if_neg h1] at hp
      have hv : v = [] := List.eq_nil_of_length_eq_zero (by omega)
      subst hv
      rw [hp]
      clear hp h1
      go_enter Tryz.func24, Tryz.ntmps24
      go_wp2_with fail
      refine C.mono ?_
      rintro e1 w1 h1
      unfold RetRead at h1
      simp only at h1
      obtain ⟨g, rfl, ⟨Ao, co, gl, cl, hr⟩, hb1⟩ := h1
      obtain ⟨c1, f1⟩ := hr.slab.facts
      unfold prCells at c1
      simp only [List.length_cons, List.length_nil] at c1
      have C2 := endRows_any hr (by omega) (by simp) (by omega) (by omega)
      have HB1 := Lib.hid hb1
      clear C hr hb1
      go_wp2_with fail
      refine C2.mono ?_
      rintro e2 w2 ⟨rfl, hb2, A2, q2, g2, r2, h2⟩
      obtain ⟨c2, f2⟩ := h2.slab.facts
      have HB2 := Lib.hid (HB1.out.trans hb2)
      have HR2 := Lib.hid h2
      unfold prCells at c2
      clear C2 hb2 h2 c1 f1
      go_wp2
      refine bodyPost_ret (v := .tuple #[.slice A2 (endRows ⟨o, [(p, r)], G⟩).out.length q2, .int .i64 0, .int .i64 0]) (by simp [results, Tryz.results24, go_sem]) rfl ⟨A2, q2, rfl, HR2.out.out, HB2.out⟩
  · rw [(parse_bad7 h).1]
    rw [h] at C
    have t1 : (er != 0) = true := bne_iff_ne.2 h0
    clear h h0
    go_enter Tryz.func24, Tryz.ntmps24
    go_wp2_with fail
    refine C.mono ?_
    rintro e1 w1 h1
    unfold RetRead at h1
    simp only at h1
    obtain ⟨rfl, hb1⟩ := h1
    clear C
    go_wp2
    refine bodyPost_ret (v := .tuple #[.slice none 0 0, .int .i64 er, .int .i64 p]) (by simp [results, Tryz.results24, go_sem]) rfl ⟨none, 0, rfl, World.ownsRow_nil _ _ _ _, hb1⟩
end Go.Proofs.YtfcgmgpcbenfpaaGreat
