/- Walks of the parser: a word more. -/
import Derived.Test.YtfcgmgpcbenfpaaProg
import Derived.WalkKit
import Derived.WalkSpells
import Derived.WalkLawsBesides
import Derived.Handy
import Derived.Lib.Hide
import Derived.Test.YtfcgmgpcbenfpaaParC
import Derived.Lib.QuietBelow
import Derived.BigQuiet
set_option linter.unusedVariables false
set_option linter.unusedSimpArgs false
namespace Go.Proofs.Ytfcgmgpcbenfpaa
open Go.RowKit SetP BrkP LexP AstP ParP
set_option maxRecDepth 100000 in
set_option maxHeartbeats 2000000 in
theorem take_opn {B g : Nat} {s : ByteArray} {a : Nat} {o : List Nd} {v : List (Nat × Nat)} {G : Nat} {Ao : Option Addr} {co gl cl : Nat} {w : World} (h : RAt w B g s a ⟨o, v, G⟩ Ao co gl cl) (n m at_ stop : Int) (f : Nat → Bool) (kd : Int) (hk : kd = 2)
    (hn : o.length ≤ 1000000) (hv : v.length ≤ 1000000) (hG : G ≤ 1000000) : Calls Try.prog 19 #[pp g, wdV ⟨kd, at_, stop, f, n, m⟩] w (to1 B g s a ⟨o, (0, 0) :: v, G + 1⟩ w) := by
  subst hk
  obtain ⟨i0, hi, hz0, hz1, hz2⟩ := info_parts info_level
  have HI := Lib.hid hi; clear hi
  have HZ0 := Lib.hid hz0; clear hz0
  have HZ1 := Lib.hid hz1; clear hz1
  have HZ2 := Lib.hid hz2; clear hz2
  have HB0 := Lib.hid ((Below.refl B w).alloc h.le (.cells (wdCells ⟨2, at_, stop, f, n, m⟩) 51))
  have hb0 := (Below.refl w.heap.size w).alloc (Nat.le_refl _) (.cells (wdCells ⟨2, at_, stop, f, n, m⟩) 51)
  have h0 := h.keep hb0
  have o0 : Slab (w.alloc (.cells (wdCells ⟨2, at_, stop, f, n, m⟩) 51)) w.heap.size (wdCells ⟨2, at_, stop, f, n, m⟩) 51 := Slab.new _ _ _
  obtain ⟨c0, f0⟩ := o0.facts
  clear h hb0
  have hownl : (w.alloc (.cells (wdCells ⟨2, at_, stop, f, n, m⟩) 51)).ownsRow B 45 2 (.slice (some ⟨gl, 0, none⟩) v.length cl) v.length (flatV v) := h0.lv
  have hsz : B ≤ (w.alloc (.cells (wdCells ⟨2, at_, stop, f, n, m⟩) 51)).heap.size := h0.le
  obtain ⟨c1, f1⟩ := h0.slab.facts
  unfold prCells at c1
  have H0 := Lib.hid h0
  clear h0
  go_enter Try.func19, Try.ntmps19
  go_wp2_with (at_builtin; go_must (
    (refine wpList_append_elem_at _ ?g1 (.tmp 27) (.tmp 29) 38 ?g2 B 45 i0 (.agg #[.int .i64 0, .int .i64 0]) 2 16 ?g3 ?g4 ?g5 ?g6 ?g7 ?g8 ?g9 _ _ _ _ ?g10 hownl ?gc ?gg ?g11 ?g12 ?g13 ?g14 ?g15 ?g16 ?g17 ?g18; (case g1 => rfl); (case g2 => rfl); (case g3 => exact Try.underlying38); (case g4 => exact HI.out); (case g5 => exact HZ0.out); (case g6 => exact HZ1.out); (case g7 => exact HZ2.out); (case g8 => rfl); (case g9 => decide); (case g10 => rfl); (case g12 => rfl); (case g11 => first | rfl | exact slice_at (by simp)); (case g13 => rfl); (case g14 => simp [Value.oneCell']); (case g15 => unfold maxLen; omega); (case g16 => omega); (case g17 => first | omega | (simp; omega)); intro A5 q5 w5 hown5 hbl5 has5)
    obtain ⟨o5, hx5⟩ := has5 _ _ _ H0.out.slab (fun e => H0.out.n2 (by injection e))
    obtain ⟨out5, ap5⟩ := row_aside H0.out.out has5 H0.out.ap.symm
    have h6 := H0.out.deeper o5 hown5 out5 ap5 hx5
    have H6 := Lib.hid h6
    obtain ⟨c5, f5⟩ := o5.facts
    unfold prCells at c5
    have HB5 := Lib.hid (HB0.out.trans hbl5)
    clear h6 o5 hx5 out5 ap5 has5 hown5 hbl5 c1 f1 hownl c0 f0))
  obtain ⟨g5, rfl, h6⟩ := H6.out
  have h7 := h6.many (G + 1)
  first | go_end0 | refine bodyPost_ret (results_none rfl _ _ _) rfl ?_
  exact ⟨rfl, below_set (below_set HB5.out h6.hB _) h6.hB _, _, _, _, _, h7⟩
set_option maxRecDepth 100000 in
set_option maxHeartbeats 2000000 in
theorem take_any {B g : Nat} {s : ByteArray} {a : Nat} {x : PS} {Ao : Option Addr} {co gl cl : Nat} {w : World} (h : RAt w B g s a x Ao co gl cl) (wd : Wd) (y : PS) (ht : Took x wd y) (hb : Bnd x 200000) : Calls Try.prog 19 #[pp g, wdV wd] w (to1 B g s a y w) := by
  obtain ⟨kd, at_, stop, f, n, m⟩ := wd
  cases ht with
  | one o p r v G hk hx =>
    subst hx
    simp only at hk
    subst hk
    obtain ⟨b1, b2, _, b4, _⟩ := hb
    have hp := b4 (p, r) (by simp)
    simp only [List.length_cons] at b1 b2 hp
    have HB0 := Lib.hid ((Below.refl B w).alloc h.le (.cells (wdCells ⟨1, at_, stop, f, n, m⟩) 51))
    have hb0 := (Below.refl w.heap.size w).alloc (Nat.le_refl _) (.cells (wdCells ⟨1, at_, stop, f, n, m⟩) 51)
    have h0 := h.keep hb0
    have o0 : Slab (w.alloc (.cells (wdCells ⟨1, at_, stop, f, n, m⟩) 51)) w.heap.size (wdCells ⟨1, at_, stop, f, n, m⟩) 51 := Slab.new _ _ _
    obtain ⟨c0, f0⟩ := o0.facts
    clear h hb0
    have C := put_any (ndS f) _ (by rfl : ndCells (ndS f) = #[.int .i64 2, .int .i64 0, .int .i64 0, .int .i64 0, .int .u64 (wd f 0), .int .u64 (wd f 1), .int .u64 (wd f 2), .int .u64 (wd f 3)]) h0 (by show o.length ≤ _; omega)
    clear h0
    go_enter Try.func19, Try.ntmps19
    go_wp2_with fail
    refine C.mono ?_
    rintro e4 w4 ⟨rfl, hb4, A4, q4, h4⟩
    replace h4 : RAt w4 B g s a ⟨o ++ [ndS f], (p, r) :: v, G⟩ A4 q4 gl cl := h4
    have HB4 := Lib.hid (HB0.out.trans hb4)
    have T := top_any h4 p r v rfl (by omega)
    clear C hb4 c0 f0 HB0
    go_wp2_with fail
    refine T.mono ?_
    rintro e5 w5 ⟨rfl, hb5⟩
    have h5 := h4.keep hb5
    have HB5 := Lib.hid (HB4.out.trans (hb5.mono h4.le))
    obtain ⟨k0, k1, k2, k3⟩ := h5.tops
    have HE := Lib.hid (h5.poke0 (p + 1))
    have HGL := Lib.hid (h5.cap.2.1)
    clear T h4 h5 hb5 HB4
    go_wp2
    first | go_end0 | refine bodyPost_ret (results_none rfl _ _ _) rfl ?_
    exact ⟨rfl, below_set HB5.out HGL.out _, _, _, _, _, HE.out⟩
  | opn o v G hk hx =>
    subst hx
    exact take_opn h n m at_ stop f kd hk (by have := hb.out; simp only at this; omega) (by have := hb.lv; simp only at this; omega) (by have := hb.gr; simp only at this; omega)
  | shut o p r p' r' v G hk hx =>
    subst hx
    simp only at hk
    subst hk
    obtain ⟨b1, b2, _, b4, _⟩ := hb
    have hp := b4 (p, r) (by simp)
    have hp' := b4 (p', r') (by simp)
    simp only [List.length_cons] at b1 b2 hp hp'
    have l1 := rowN_le p
    have l2 := rowsN_le (r + 1)
    have HB0 := Lib.hid ((Below.refl B w).alloc h.le (.cells (wdCells ⟨3, at_, stop, f, n, m⟩) 51))
    have hb0 := (Below.refl w.heap.size w).alloc (Nat.le_refl _) (.cells (wdCells ⟨3, at_, stop, f, n, m⟩) 51)
    have h0 := h.keep hb0
    have o0 : Slab (w.alloc (.cells (wdCells ⟨3, at_, stop, f, n, m⟩) 51)) w.heap.size (wdCells ⟨3, at_, stop, f, n, m⟩) 51 := Slab.new _ _ _
    obtain ⟨c0, f0⟩ := o0.facts
    clear h hb0
    have C := endRows_any h0 (by omega) (by simp; omega) (by omega) (by omega)
    clear h0
    have he2 : endRows ⟨o, (p, r) :: (p', r') :: v, G⟩ = ⟨o ++ rowN p ++ rowsN (r + 1), (p', r') :: v, G⟩ := rfl
    rw [he2] at C
    have hq : (o ++ rowN p ++ rowsN (r + 1)).length ≤ 1000000 := by rw [List.length_append, List.length_append]; omega
    generalize o ++ rowN p ++ rowsN (r + 1) = q at *
    clear he2 l1 l2
    go_enter Try.func19, Try.ntmps19
    go_wp2_with fail
    refine C.mono ?_
    rintro e3 w3 ⟨rfl, hb3, A3, q3, gl3, cl3, h3⟩
    have HB3 := Lib.hid (HB0.out.trans hb3)
    have C1 := put_any ndG _ (by unfold ndCells; simp only [ndG, noSet, wd_zero] : ndCells ndG = #[.int .i64 3, .int .i64 1, .int .i64 0, .int .i64 0, .int .u64 0, .int .u64 0, .int .u64 0, .int .u64 0]) h3 (by show q.length ≤ _; omega)
    clear C hb3 h3 c0 f0 HB0
    go_wp2_with fail
    refine C1.mono ?_
    rintro e4 w4 ⟨rfl, hb4, A4, q4, h4⟩
    replace h4 : RAt w4 B g s a ⟨q ++ [ndG], (p', r') :: v, G⟩ A4 q4 gl3 cl3 := h4
    have HB4 := Lib.hid (HB3.out.trans hb4)
    have T := top_any h4 p' r' v rfl (by omega)
    clear C1 hb4 HB3
    go_wp2_with fail
    refine T.mono ?_
    rintro e5 w5 ⟨rfl, hb5⟩
    have h5 := h4.keep hb5
    have HB5 := Lib.hid (HB4.out.trans (hb5.mono h4.le))
    obtain ⟨k0, k1, k2, k3⟩ := h5.tops
    have HE := Lib.hid (h5.poke0 (p' + 1))
    have HGL := Lib.hid (h5.cap.2.1)
    clear T h4 h5 hb5 HB4
    go_wp2
    first | go_end0 | refine bodyPost_ret (results_none rfl _ _ _) rfl ?_
    exact ⟨rfl, below_set HB5.out HGL.out _, _, _, _, _, HE.out⟩
  | bar o p r v G hk hx =>
    subst hx
    simp only at hk
    subst hk
    obtain ⟨b1, b2, _, b4, _⟩ := hb
    have hp := b4 (p, r) (by simp)
    simp only [List.length_cons] at b1 b2 hp
    have HB0 := Lib.hid ((Below.refl B w).alloc h.le (.cells (wdCells ⟨4, at_, stop, f, n, m⟩) 51))
    have hb0 := (Below.refl w.heap.size w).alloc (Nat.le_refl _) (.cells (wdCells ⟨4, at_, stop, f, n, m⟩) 51)
    have h0 := h.keep hb0
    have o0 : Slab (w.alloc (.cells (wdCells ⟨4, at_, stop, f, n, m⟩) 51)) w.heap.size (wdCells ⟨4, at_, stop, f, n, m⟩) 51 := Slab.new _ _ _
    obtain ⟨c0, f0⟩ := o0.facts
    clear h hb0
    have C := endRow_any h0 (by omega) (by omega) (by omega) (by omega)
    clear h0
    go_enter Try.func19, Try.ntmps19
    go_wp2_with fail
    refine C.mono ?_
    rintro e3 w3 ⟨rfl, hb3, h3⟩
    have HB3 := Lib.hid (HB0.out.trans hb3)
    have H3 := Lib.hid h3
    clear C hb3 h3 c0 f0 HB0
    go_wp2
    first | go_end0 | refine bodyPost_ret (results_none rfl _ _ _) rfl ?_
    exact ⟨rfl, HB3.out, H3.out⟩
  | rep o p r v G hk hx =>
    subst hx
    simp only at hk
    subst hk
    obtain ⟨b1, b2, _, b4, _⟩ := hb
    simp only [List.length_cons] at b1 b2
    have HB0 := Lib.hid ((Below.refl B w).alloc h.le (.cells (wdCells ⟨5, at_, stop, f, n, m⟩) 51))
    have hb0 := (Below.refl w.heap.size w).alloc (Nat.le_refl _) (.cells (wdCells ⟨5, at_, stop, f, n, m⟩) 51)
    have h0 := h.keep hb0
    have o0 : Slab (w.alloc (.cells (wdCells ⟨5, at_, stop, f, n, m⟩) 51)) w.heap.size (wdCells ⟨5, at_, stop, f, n, m⟩) 51 := Slab.new _ _ _
    obtain ⟨c0, f0⟩ := o0.facts
    clear h hb0
    have C := put_any (ndR n m) _ (by unfold ndCells; simp only [ndR, noSet, wd_zero] : ndCells (ndR n m) = #[.int .i64 4, .int .i64 1, .int .i64 n, .int .i64 m, .int .u64 0, .int .u64 0, .int .u64 0, .int .u64 0]) h0 (by show o.length ≤ _; omega)
    clear h0
    go_enter Try.func19, Try.ntmps19
    go_wp2_with fail
    refine C.mono ?_
    rintro e3 w3 ⟨rfl, hb3, A3, q3, h3⟩
    have HB3 := Lib.hid (HB0.out.trans hb3)
    have H3 := Lib.hid h3
    clear C hb3 h3 c0 f0 HB0
    go_wp2
    first | go_end0 | refine bodyPost_ret (results_none rfl _ _ _) rfl ?_
    exact ⟨rfl, HB3.out, _, _, _, _, H3.out⟩
end Go.Proofs.Ytfcgmgpcbenfpaa
