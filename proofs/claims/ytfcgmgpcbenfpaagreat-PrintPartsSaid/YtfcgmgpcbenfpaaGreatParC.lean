/- Walks of the parser: a word more. -/
import Derived.Test.YtfcgmgpcbenfpaaGreatProg
import Derived.WalkKit
import Derived.WalkSpells
import Derived.WalkLawsBesides
import Derived.Handy
import Derived.Lib.Hide
import Derived.Test.YtfcgmgpcbenfpaaGreatParB
import Derived.Test.YtfcgmgpcbenfpaaGreatLexB
import Derived.Test.YtfcgmgpcbenfpaaGreatParT
import Derived.Lib.QuietBelow
import Derived.Deep.RegionWith
import Derived.Deep.Cut
import Derived.BigQuiet
set_option linter.unusedVariables false
set_option linter.unusedSimpArgs false
namespace Go.Proofs.YtfcgmgpcbenfpaaGreat
open Go.RowKit SetP BrkP LexP AstP ParP
/-- One group more is open. -/
theorem RAt.deeper {w w5 : World} {B g : Nat} {s : ByteArray} {a : Nat} {x : PS} {Ao A5 : Option Addr} {co gl cl q5 : Nat} (h : RAt w B g s a x Ao co gl cl) (o5 : Slab w5 g (prCells s a x Ao co gl cl) 72)
    (hown : w5.ownsRow B 109 2 (.slice A5 (x.lv.length + 1) q5) (x.lv.length + 1) (flatV x.lv ++ [.int .i64 0, .int .i64 0])) (out : w5.ownsRow B 51 8 (.slice Ao x.out.length co) x.out.length (flatD x.out))
    (ap : Apart (.slice A5 (x.lv.length + 1) q5) (.slice Ao x.out.length co)) (hx : (Value.slice A5 (x.lv.length + 1) q5).ownBlock ≠ some g) :
    ∃ g5, A5 = some ⟨g5, 0, none⟩ ∧ RAt (w5.setCell ⟨g, 3, none⟩ (.slice A5 (x.lv.length + 1) q5)) B g s a ⟨x.out, (0, 0) :: x.lv, x.groups⟩ Ao co g5 q5 := by
  obtain ⟨g5, rfl, _⟩ := row_cell hown (Nat.succ_pos _)
  refine ⟨g5, rfl, o5.set 3 _, row_far out h.n1 _ _, row_far hown hx _ _, ap.symm, h.n1, fun e => hx (by rw [e]; rfl), h.hB⟩
theorem setCell_size7 (w : World) (a : Addr) (u : Value) : (w.setCell a u).heap.size = w.heap.size := by simp
/-- Behind the region: the word's block, the result's block. -/
structure NxAt (w W : World) (b : Nat) (cs : Array Value) : Prop where
  s5 : Slab W b cs 74
  s2 : Slab W w.heap.size #[.int .i64 0, .int .i64 0, .int .i64 0, .int .u64 0, .int .u64 0, .int .u64 0, .int .u64 0, .int .i64 0, .int .i64 0] 74
  below : Below w.heap.size w W
  hb : w.heap.size < b
theorem nx_a {w W0 w1 : World} {cs : Array Value} (hb : Below W0.heap.size W0 w1) (hW : W0.heap = (w.alloc (.cells #[.int .i64 0, .int .i64 0, .int .i64 0, .int .u64 0, .int .u64 0, .int .u64 0, .int .u64 0, .int .i64 0, .int .i64 0] 74)).heap) (hB : Below w.heap.size w W0) : NxAt w (w1.alloc (.cells cs 74)) w1.heap.size cs := by
  have hs : W0.heap.size = w.heap.size + 1 := by rw [hW]; simp
  have h1 := hb.size
  refine ⟨Slab.new _ _ _, ((Slab.new w _ _).callD hb hW).alloc _, (below_then hB hb).alloc (by omega) _, by omega⟩
theorem nest9_eq (w : World) (g : Nat) (a b c d e f h i j : Value) :
    (((((((((w.setCell ⟨g, 0, none⟩ a).setCell ⟨g, 1, none⟩ b).setCell ⟨g, 2, none⟩ c).setCell ⟨g, 3, none⟩ d).setCell ⟨g, 4, none⟩ e).setCell ⟨g, 5, none⟩ f).setCell ⟨g, 6, none⟩ h).setCell ⟨g, 7, none⟩ i).setCell ⟨g, 8, none⟩ j) = w.setCells g 0 [a, b, c, d, e, f, h, i, j] := by
  simp only [World.setCells]
theorem nx_b {w W0 w1 : World} {kd at_ stop n m : Int} {f : Nat → Bool} (hb : Below W0.heap.size W0 w1) (hW : W0.heap = ((w.alloc (.cells #[.int .i64 0, .int .i64 0, .int .i64 0, .int .u64 0, .int .u64 0, .int .u64 0, .int .u64 0, .int .i64 0, .int .i64 0] 74)).alloc (.cells #[.int .i64 0, .int .i64 0, .int .i64 0, .int .u64 0, .int .u64 0, .int .u64 0, .int .u64 0, .int .i64 0, .int .i64 0] 74)).heap) (hB : Below w.heap.size w W0) : NxAt w (((((((((w1.setCell ⟨w.heap.size + 1, 0, none⟩ (.int .i64 kd)).setCell ⟨w.heap.size + 1, 1, none⟩ (.int .i64 at_)).setCell ⟨w.heap.size + 1, 2, none⟩ (.int .i64 stop)).setCell ⟨w.heap.size + 1, 3, none⟩ (.int .u64 (wd f 0))).setCell ⟨w.heap.size + 1, 4, none⟩ (.int .u64 (wd f 1))).setCell ⟨w.heap.size + 1, 5, none⟩ (.int .u64 (wd f 2))).setCell ⟨w.heap.size + 1, 6, none⟩ (.int .u64 (wd f 3))).setCell ⟨w.heap.size + 1, 7, none⟩ (.int .i64 n)).setCell ⟨w.heap.size + 1, 8, none⟩ (.int .i64 m)) (w.heap.size + 1) #[.int .i64 kd, .int .i64 at_, .int .i64 stop, .int .u64 (wd f 0), .int .u64 (wd f 1), .int .u64 (wd f 2), .int .u64 (wd f 3), .int .i64 n, .int .i64 m] := by
  have o : Slab w1 (w.heap.size + 1) #[.int .i64 0, .int .i64 0, .int .i64 0, .int .u64 0, .int .u64 0, .int .u64 0, .int .u64 0, .int .i64 0, .int .i64 0] 74 := (Slab.newAt (w.alloc (.cells #[.int .i64 0, .int .i64 0, .int .i64 0, .int .u64 0, .int .u64 0, .int .u64 0, .int .u64 0, .int .i64 0, .int .i64 0] 74)) _ _ (by simp)).callD hb hW
  have o2 : Slab w1 w.heap.size #[.int .i64 0, .int .i64 0, .int .i64 0, .int .u64 0, .int .u64 0, .int .u64 0, .int .u64 0, .int .i64 0, .int .i64 0] 74 := ((Slab.new w _ _).alloc _).callD hb hW
  rw [nest9_eq]
  have h1 := slab_setCells (vs := #[.int .i64 kd, .int .i64 at_, .int .i64 stop, .int .u64 (wd f 0), .int .u64 (wd f 1), .int .u64 (wd f 2), .int .u64 (wd f 3), .int .i64 n, .int .i64 m]) o rfl
  have h2 := slab_setCells_far (g := w.heap.size + 1) (by omega) (#[.int .i64 kd, .int .i64 at_, .int .i64 stop, .int .u64 (wd f 0), .int .u64 (wd f 1), .int .u64 (wd f 2), .int .u64 (wd f 3), .int .i64 n, .int .i64 m]).toList 0 _ o2
  have h3 := below_setCells (g := w.heap.size + 1) (by omega) (#[.int .i64 kd, .int .i64 at_, .int .i64 stop, .int .u64 (wd f 0), .int .u64 (wd f 1), .int .u64 (wd f 2), .int .u64 (wd f 3), .int .i64 n, .int .i64 m]).toList 0 _ _ (below_then hB hb)
  exact ⟨h1, h2, h3, by omega⟩
set_option maxRecDepth 100000 in
set_option maxHeartbeats 2000000 in
theorem wnext_err {B g : Nat} {s : ByteArray} {a : Nat} {x : PS} {Ao : Option Addr} {co gl cl : Nat} {w : World} (h : RAt w B g s a x Ao co gl cl) (hs : s.size ≤ 1000000) (he : (nextW s a).err ≠ 0) : Calls Tryz.prog 70 #[pp g] w fun e w' => e = .returned (.tuple #[wdV (nextW s a).word, .int .i64 (nextW s a).err, .int .i64 (nextW s a).place]) ∧ Below w.heap.size w w' := by
  have C := lnext_any s a (by omega)
  obtain ⟨⟨⟨kd, at_, stop, f, n, m⟩, er, pl⟩, hr⟩ : ∃ r, nextW s a = r := ⟨_, rfl⟩
  rw [hr] at C he ⊢
  have he' : (er == 0) = false := beq_eq_false_iff_ne.2 he
  have HB0 := Lib.hid ((Below.refl w.heap.size w).alloc (Nat.le_refl _) (.cells #[.int .i64 0, .int .i64 0, .int .i64 0, .int .u64 0, .int .u64 0, .int .u64 0, .int .u64 0, .int .i64 0, .int .i64 0] 74))
  have o0 : Slab (w.alloc (.cells #[.int .i64 0, .int .i64 0, .int .i64 0, .int .u64 0, .int .u64 0, .int .u64 0, .int .u64 0, .int .i64 0, .int .i64 0] 74)) g #[.string s, .int .i64 (a : Int), .slice Ao x.out.length co, .slice (some ⟨gl, 0, none⟩) x.lv.length cl, .int .i64 (x.groups : Int)] 72 := h.slab.alloc _
  have O0 := Lib.hid o0
  obtain ⟨c0, f0⟩ := o0.facts
  clear h he hr o0
  go_enter Tryz.func70, Tryz.ntmps70
  go_wp2_with fail
  have hlt0 : g < (w.alloc (.cells #[.int .i64 0, .int .i64 0, .int .i64 0, .int .u64 0, .int .u64 0, .int .u64 0, .int .u64 0, .int .i64 0, .int .i64 0] 74)).heap.size := O0.out.lt
  have hlt1 : g < w.heap.size + 1 := by simpa using hlt0
  go_region_with (first | (go_at_call 43; refine (C _).mono ?_; rintro e1 w1 ⟨rfl, hb1⟩; have o8 := Slab.new w1 #[.int .i64 0, .int .i64 0, .int .i64 0, .int .u64 0, .int .u64 0, .int .u64 0, .int .u64 0, .int .i64 0, .int .i64 0] 74; obtain ⟨c8, f8⟩ := o8.facts; (first | (have o9 := (Slab.newAt (w.alloc (.cells #[.int .i64 0, .int .i64 0, .int .i64 0, .int .u64 0, .int .u64 0, .int .u64 0, .int .u64 0, .int .i64 0, .int .i64 0] 74)) #[.int .i64 0, .int .i64 0, .int .i64 0, .int .u64 0, .int .u64 0, .int .u64 0, .int .u64 0, .int .i64 0, .int .i64 0] 74 (g := w.heap.size + 1) (by simp)).callD hb1 rfl; obtain ⟨c9, f9⟩ := o9.facts) | skip)))
  all_goals
    go_upto_region 2 with fail
    have HNX : ∃ W b, True := ⟨w, 0, trivial⟩
    clear HNX
    first
    | (have HN := Lib.hid (nx_a (cs := #[.int .i64 kd, .int .i64 at_, .int .i64 stop, .int .u64 (wd f 0), .int .u64 (wd f 1), .int .u64 (wd f 2), .int .u64 (wd f 3), .int .i64 n, .int .i64 m]) hb1 rfl (by first | exact HB0.out | exact HB0.out.drew))
       generalize hW : w1.alloc (.cells #[.int .i64 kd, .int .i64 at_, .int .i64 stop, .int .u64 (wd f 0), .int .u64 (wd f 1), .int .u64 (wd f 2), .int .u64 (wd f 3), .int .i64 n, .int .i64 m] 74) = W9
       replace HN := Lib.hid (show NxAt w W9 w1.heap.size #[.int .i64 kd, .int .i64 at_, .int .i64 stop, .int .u64 (wd f 0), .int .u64 (wd f 1), .int .u64 (wd f 2), .int .u64 (wd f 3), .int .i64 n, .int .i64 m] from by rw [← hW]; exact HN.out)
       generalize hb9 : w1.heap.size = b9
       replace HN := Lib.hid (show NxAt w W9 b9 #[.int .i64 kd, .int .i64 at_, .int .i64 stop, .int .u64 (wd f 0), .int .u64 (wd f 1), .int .u64 (wd f 2), .int .u64 (wd f 3), .int .i64 n, .int .i64 m] from by rw [← hb9]; exact HN.out)
       clear hW hb9)
    | (have HN := Lib.hid (nx_b (kd := kd) (at_ := at_) (stop := stop) (n := n) (m := m) (f := f) hb1 rfl (by first | exact (HB0.out.alloc (by simp) _) | exact (HB0.out.alloc (by simp) _).drew | exact (HB0.out.drew.alloc (by simp) _)))
       generalize hW : (((((((((w1.setCell ⟨w.heap.size + 1, 0, none⟩ (.int .i64 kd)).setCell ⟨w.heap.size + 1, 1, none⟩ (.int .i64 at_)).setCell ⟨w.heap.size + 1, 2, none⟩ (.int .i64 stop)).setCell ⟨w.heap.size + 1, 3, none⟩ (.int .u64 (wd f 0))).setCell ⟨w.heap.size + 1, 4, none⟩ (.int .u64 (wd f 1))).setCell ⟨w.heap.size + 1, 5, none⟩ (.int .u64 (wd f 2))).setCell ⟨w.heap.size + 1, 6, none⟩ (.int .u64 (wd f 3))).setCell ⟨w.heap.size + 1, 7, none⟩ (.int .i64 n)).setCell ⟨w.heap.size + 1, 8, none⟩ (.int .i64 m)) = W9
       replace HN := Lib.hid (show NxAt w W9 (w.heap.size + 1) #[.int .i64 kd, .int .i64 at_, .int .i64 stop, .int .u64 (wd f 0), .int .u64 (wd f 1), .int .u64 (wd f 2), .int .u64 (wd f 3), .int .i64 n, .int .i64 m] from by rw [← hW]; exact HN.out)
       clear hW)
    obtain ⟨c5, f5⟩ := HN.out.s5.facts
    obtain ⟨c2, f2⟩ := HN.out.s2.facts
    have hb9 := HN.out.hb
    clear hb1 o8 c8 f8 c0 f0
    try clear o9 c9 f9
  all_goals
    go_wp2
    refine bodyPost_ret (results_cell3 (v := wdV ⟨kd, at_, stop, f, n, m⟩) (y := .int .i64 er) (z := .int .i64 pl) rfl rfl (load_slab (t := 74) (cs := #[.int .i64 kd, .int .i64 at_, .int .i64 stop, .int .u64 (wd f 0), .int .u64 (wd f 1), .int .u64 (wd f 2), .int .u64 (wd f 3), .int .i64 n, .int .i64 m]) ?_ 74 Tryz.underlying74 rfl (by kernel_rfl)) rfl rfl) rfl ⟨rfl, ?_⟩
    · rw [nest9_eq]
      have h1 := slab_setCells (vs := #[.int .i64 kd, .int .i64 at_, .int .i64 stop, .int .u64 (wd f 0), .int .u64 (wd f 1), .int .u64 (wd f 2), .int .u64 (wd f 3), .int .i64 n, .int .i64 m]) HN.out.s2 rfl
      exact h1
    · rw [nest9_eq]
      have h3 := below_setCells (Nat.le_refl w.heap.size) (#[.int .i64 kd, .int .i64 at_, .int .i64 stop, .int .u64 (wd f 0), .int .u64 (wd f 1), .int .u64 (wd f 2), .int .u64 (wd f 3), .int .i64 n, .int .i64 m]).toList 0 _ _ HN.out.below
      exact h3
theorem below_both {B : Nat} {a w : World} (h : Below B a w) (p : Addr) (v : Value) : Below B (a.setCell p v) (w.setCell p v) := by
  refine ⟨h.os, h.tape, h.output, by rw [setCell_size7, setCell_size7]; exact h.size, fun k hk => ?_⟩
  have := h.block k hk
  unfold World.setCell
  simp only [Array.getElem?_modify, this]
set_option maxRecDepth 100000 in
set_option maxHeartbeats 2000000 in
theorem wnext_ok {B g : Nat} {s : ByteArray} {a : Nat} {x : PS} {Ao : Option Addr} {co gl cl : Nat} {w : World} (h : RAt w B g s a x Ao co gl cl) (hs : s.size ≤ 1000000) (e : Nat) (wd : Wd) (hw : nextW s a = ⟨wd, 0, 0⟩) (he : wd.stop = e) : Calls Tryz.prog 70 #[pp g] w fun en w' => en = .returned (.tuple #[wdV wd, .int .i64 0, .int .i64 0]) ∧ Below B w w' ∧ RAt w' B g s e x Ao co gl cl := by
  have C := lnext_any s a (by omega)
  rw [hw] at C
  obtain ⟨kd, at_, stop, f, n, m⟩ := wd
  simp only at he
  subst he
  have HB0 := Lib.hid ((Below.refl w.heap.size w).alloc (Nat.le_refl _) (.cells #[.int .i64 0, .int .i64 0, .int .i64 0, .int .u64 0, .int .u64 0, .int .u64 0, .int .u64 0, .int .i64 0, .int .i64 0] 74))
  have o0 : Slab (w.alloc (.cells #[.int .i64 0, .int .i64 0, .int .i64 0, .int .u64 0, .int .u64 0, .int .u64 0, .int .u64 0, .int .i64 0, .int .i64 0] 74)) g #[.string s, .int .i64 (a : Int), .slice Ao x.out.length co, .slice (some ⟨gl, 0, none⟩) x.lv.length cl, .int .i64 (x.groups : Int)] 72 := h.slab.alloc _
  have O0 := Lib.hid o0
  have H := Lib.hid h
  obtain ⟨c0, f0⟩ := o0.facts
  clear h hw o0
  generalize hst : ((e : Nat) : Int) = stop at *
  go_enter Tryz.func70, Tryz.ntmps70
  go_wp2_with fail
  have hlt0 : g < (w.alloc (.cells #[.int .i64 0, .int .i64 0, .int .i64 0, .int .u64 0, .int .u64 0, .int .u64 0, .int .u64 0, .int .i64 0, .int .i64 0] 74)).heap.size := O0.out.lt
  have hlt1 : g < w.heap.size + 1 := by simpa using hlt0
  go_region_with (first | (go_at_call 43; refine (C _).mono ?_; rintro e1 w1 ⟨rfl, hb1⟩; have o8 := Slab.new w1 #[.int .i64 0, .int .i64 0, .int .i64 0, .int .u64 0, .int .u64 0, .int .u64 0, .int .u64 0, .int .i64 0, .int .i64 0] 74; obtain ⟨c8, f8⟩ := o8.facts; (first | (have o9 := (Slab.newAt (w.alloc (.cells #[.int .i64 0, .int .i64 0, .int .i64 0, .int .u64 0, .int .u64 0, .int .u64 0, .int .u64 0, .int .i64 0, .int .i64 0] 74)) #[.int .i64 0, .int .i64 0, .int .i64 0, .int .u64 0, .int .u64 0, .int .u64 0, .int .u64 0, .int .i64 0, .int .i64 0] 74 (g := w.heap.size + 1) (by simp)).callD hb1 rfl; obtain ⟨c9, f9⟩ := o9.facts) | skip)))
  all_goals
    go_upto_region 2 with fail
    have HNX : ∃ W b, True := ⟨w, 0, trivial⟩
    clear HNX
    first
    | (have HN := Lib.hid (nx_a (cs := #[.int .i64 kd, .int .i64 at_, .int .i64 stop, .int .u64 (wd f 0), .int .u64 (wd f 1), .int .u64 (wd f 2), .int .u64 (wd f 3), .int .i64 n, .int .i64 m]) hb1 rfl (by first | exact HB0.out | exact HB0.out.drew))
       generalize hW : w1.alloc (.cells #[.int .i64 kd, .int .i64 at_, .int .i64 stop, .int .u64 (wd f 0), .int .u64 (wd f 1), .int .u64 (wd f 2), .int .u64 (wd f 3), .int .i64 n, .int .i64 m] 74) = W9
       replace HN := Lib.hid (show NxAt w W9 w1.heap.size #[.int .i64 kd, .int .i64 at_, .int .i64 stop, .int .u64 (wd f 0), .int .u64 (wd f 1), .int .u64 (wd f 2), .int .u64 (wd f 3), .int .i64 n, .int .i64 m] from by rw [← hW]; exact HN.out)
       generalize hb9 : w1.heap.size = b9
       replace HN := Lib.hid (show NxAt w W9 b9 #[.int .i64 kd, .int .i64 at_, .int .i64 stop, .int .u64 (wd f 0), .int .u64 (wd f 1), .int .u64 (wd f 2), .int .u64 (wd f 3), .int .i64 n, .int .i64 m] from by rw [← hb9]; exact HN.out)
       clear hW hb9)
    | (have HN := Lib.hid (nx_b (kd := kd) (at_ := at_) (stop := stop) (n := n) (m := m) (f := f) hb1 rfl (by first | exact (HB0.out.alloc (by simp) _) | exact (HB0.out.alloc (by simp) _).drew | exact (HB0.out.drew.alloc (by simp) _)))
       generalize hW : (((((((((w1.setCell ⟨w.heap.size + 1, 0, none⟩ (.int .i64 kd)).setCell ⟨w.heap.size + 1, 1, none⟩ (.int .i64 at_)).setCell ⟨w.heap.size + 1, 2, none⟩ (.int .i64 stop)).setCell ⟨w.heap.size + 1, 3, none⟩ (.int .u64 (wd f 0))).setCell ⟨w.heap.size + 1, 4, none⟩ (.int .u64 (wd f 1))).setCell ⟨w.heap.size + 1, 5, none⟩ (.int .u64 (wd f 2))).setCell ⟨w.heap.size + 1, 6, none⟩ (.int .u64 (wd f 3))).setCell ⟨w.heap.size + 1, 7, none⟩ (.int .i64 n)).setCell ⟨w.heap.size + 1, 8, none⟩ (.int .i64 m)) = W9
       replace HN := Lib.hid (show NxAt w W9 (w.heap.size + 1) #[.int .i64 kd, .int .i64 at_, .int .i64 stop, .int .u64 (wd f 0), .int .u64 (wd f 1), .int .u64 (wd f 2), .int .u64 (wd f 3), .int .i64 n, .int .i64 m] from by rw [← hW]; exact HN.out)
       clear hW)
    obtain ⟨c5, f5⟩ := HN.out.s5.facts
    obtain ⟨c2, f2⟩ := HN.out.s2.facts
    have hb9 := HN.out.hb
    clear hb1 o8 c8 f8 c0 f0
    try clear o9 c9 f9
  all_goals
    have hgl : g < w.heap.size := H.out.slab.lt
    have og : Slab W9 g #[.string s, .int .i64 (a : Int), .slice Ao x.out.length co, .slice (some ⟨gl, 0, none⟩) x.lv.length cl, .int .i64 (x.groups : Int)] 72 := H.out.slab.below HN.out.below hgl
    obtain ⟨cg, fg⟩ := og.facts
    go_wp2
    refine bodyPost_ret (results_cell3 (v := wdV ⟨kd, at_, stop, f, n, m⟩) (y := .int .i64 0) (z := .int .i64 0) rfl rfl (load_slab (t := 74) (cs := #[.int .i64 kd, .int .i64 at_, .int .i64 stop, .int .u64 (wd f 0), .int .u64 (wd f 1), .int .u64 (wd f 2), .int .u64 (wd f 3), .int .i64 n, .int .i64 m]) ?_ 74 Tryz.underlying74 rfl (by kernel_rfl)) rfl rfl) rfl ⟨rfl, ?_, ?_⟩
    · rw [nest9_eq]
      have h1 := slab_setCells (vs := #[.int .i64 kd, .int .i64 at_, .int .i64 stop, .int .u64 (wd f 0), .int .u64 (wd f 1), .int .u64 (wd f 2), .int .u64 (wd f 3), .int .i64 n, .int .i64 m]) (HN.out.s2.far (b := g) (i := 1) (by omega) (.int .i64 stop)) rfl
      exact h1
    · rw [nest9_eq]
      have h3 := below_setCells (Nat.le_trans H.out.hB (Nat.le_of_lt hgl)) (#[.int .i64 kd, .int .i64 at_, .int .i64 stop, .int .u64 (wd f 0), .int .u64 (wd f 1), .int .u64 (wd f 2), .int .u64 (wd f 3), .int .i64 n, .int .i64 m]).toList 0 _ _ (below_set (HN.out.below.mono (Nat.le_trans H.out.hB (Nat.le_of_lt hgl))) H.out.hB (i := 1) (.int .i64 stop))
      exact h3
    · rw [nest9_eq]
      have h3 := below_setCells (Nat.le_refl w.heap.size) (#[.int .i64 kd, .int .i64 at_, .int .i64 stop, .int .u64 (wd f 0), .int .u64 (wd f 1), .int .u64 (wd f 2), .int .u64 (wd f 3), .int .i64 n, .int .i64 m]).toList 0 _ _ (below_both HN.out.below ⟨g, 1, none⟩ (.int .i64 stop))
      have h4 := H.out.goto e
      rw [hst] at h4
      exact h4.keep (by rw [setCell_size7]; exact h3)
end Go.Proofs.YtfcgmgpcbenfpaaGreat
