/- Walks of the parser: the tree of a pattern; what is open. -/
import Derived.Test.YtfcgmgpcbenfpaaProg
import Derived.WalkKit
import Derived.WalkSpells
import Derived.WalkLawsBesides
import Derived.Handy
import Derived.Lib.Hide
import Derived.Test.YtfcgmgpcbenfpaaParJ
import Derived.Deep.QuietTactic
import Derived.BigQuiet
set_option linter.unusedVariables false
set_option linter.unusedSimpArgs false
namespace Go.Proofs.Ytfcgmgpcbenfpaa
open Go.RowKit SetP BrkP LexP AstP ParP
theorem ParP.Run.bnd {s : ByteArray} {a b : Nat} {x y : PS} (h : Run s a x b y) (hb : Bnd x a) : Bnd y b := by
  induction h with
  | refl a x => exact hb
  | step ha hbar hw he h ih =>
    obtain ⟨e', h1, h2, h3⟩ := stop_of ha hw
    have := (hb.take (took hb.ne ha hbar hw)).more (show _ + 1 ≤ e' by omega)
    have ee : e' = _ := Int.ofNat.inj (h1.symm.trans he)
    rw [ee] at this
    exact ih this
/-- What a call leaves that hands back a tree, the error, its place. -/
def RetParse (R : List Nd × Int × Int) (w : World) (e : Ending) (w' : World) : Prop :=
  ∃ A c, e = .returned (.tuple #[.slice A R.1.length c, .int .i64 R.2.1, .int .i64 R.2.2]) ∧ w'.ownsRow w.heap.size 59 8 (.slice A R.1.length c) R.1.length (flatD R.1) ∧ Below w.heap.size w w'
/-- What the reading of a text leaves. -/
inductive Read7 (s : ByteArray) : Prop where
  | ok (y : PS) (h : readGo s 0 ps0 = .ok y) (hb : Bnd y s.size)
  | bad (er p : Int) (h : readGo s 0 ps0 = .bad er p) (h0 : er ≠ 0)
theorem read7 (s : ByteArray) : Read7 s := by
  cases halt s 0 ps0 (Nat.zero_le _) with
  | done y h e => exact .ok y e (h.bnd bnd0)
  | bar b y h hb h0 e => exact .bad _ _ e h0
  | err b y h hb h0 h1 e => exact .bad _ _ e h1
theorem parse_bad7 {s : ByteArray} {er p : Int} (h : readGo s 0 ps0 = .bad er p) : parseF s = ([], er, p) ∧ openF s = 0 := by
  unfold parseF openF; rw [h]; exact ⟨rfl, rfl⟩
set_option maxRecDepth 100000 in
set_option maxHeartbeats 2000000 in
theorem pparse_any (s : ByteArray) (hs : s.size ≤ 200000) (w : World) : Calls Try.prog 5 #[.string s] w (RetParse (parseF s) w) := by
  have C := pread_any s hs w
  rcases read7 s with ⟨y, h, hb⟩ | ⟨er, p, h, h0⟩
  · have hp : parseF s = if 1 < y.lv.length then ([], 2, (s.size : Int)) else ((endRows y).out, 0, 0) := by unfold parseF; rw [h]; rfl
    rw [h] at C
    clear h
    obtain ⟨o, lv, G⟩ := y
    cases lv with
    | nil => exact absurd rfl hb.ne
    | cons pr v =>
    obtain ⟨p, r⟩ := pr
    obtain ⟨b1, b2, _, b4, _⟩ := hb
    have hpr := b4 (p, r) (by simp)
    simp only [List.length_cons] at b1 b2 hpr hp
    by_cases h1 : 1 < v.length + 1
    · rw [if_pos h1] at hp
      rw [hp]
      have t1 : decide (1 < (v.length : Int) + 1) = true := decide_eq_true (by omega)
      clear hp h1
      go_enter Try.func5, Try.ntmps5
      go_wp2_with fail
      refine C.mono ?_
      rintro e1 w1 h1
      unfold RetRead at h1
      simp only at h1
      obtain ⟨g, rfl, ⟨Ao, co, gl, cl, hr⟩, hb1⟩ := h1
      obtain ⟨c1, f1⟩ := hr.slab.facts
      unfold prCells at c1
      simp only [List.length_cons] at c1
      have HB1 := Lib.hid hb1
      clear C hr hb1
      go_wp2
      refine bodyPost_ret (v := .tuple #[.slice none 0 0, .int .i64 2, .int .i64 (s.size : Int)]) (by simp [results, Try.results5, go_sem]) rfl ⟨none, 0, rfl, World.ownsRow_nil _ _ _ _, HB1.out⟩
    · rw [if_neg h1] at hp
      have hv : v = [] := List.eq_nil_of_length_eq_zero (by omega)
      subst hv
      rw [hp]
      clear hp h1
      go_enter Try.func5, Try.ntmps5
      go_wp2_with fail
      refine C.mono ?_
      rintro e1 w1 h1
      unfold RetRead at h1
      simp only at h1
      obtain ⟨g, rfl, ⟨Ao, co, gl, cl, hr⟩, hb1⟩ := h1
      obtain ⟨c1, f1⟩ := hr.slab.facts
      unfold prCells at c1
      simp only [List.length_cons, List.length_nil] at c1
      have C2 := endRows_any hr (by omega) (by simp) (by omega) (by omega)
      have HB1 := Lib.hid hb1
      clear C hr hb1
      go_wp2_with fail
      refine C2.mono ?_
      rintro e2 w2 ⟨rfl, hb2, A2, q2, g2, r2, h2⟩
      obtain ⟨c2, f2⟩ := h2.slab.facts
      have HB2 := Lib.hid (HB1.out.trans hb2)
      have HR2 := Lib.hid h2
      unfold prCells at c2
      clear C2 hb2 h2 c1 f1
      go_wp2
      refine bodyPost_ret (v := .tuple #[.slice A2 (endRows ⟨o, [(p, r)], G⟩).out.length q2, .int .i64 0, .int .i64 0]) (by simp [results, Try.results5, go_sem]) rfl ⟨A2, q2, rfl, HR2.out.out, HB2.out⟩
  · rw [(parse_bad7 h).1]
    rw [h] at C
    have t1 : (er != 0) = true := bne_iff_ne.2 h0
    clear h h0
    go_enter Try.func5, Try.ntmps5
    go_wp2_with fail
    refine C.mono ?_
    rintro e1 w1 h1
    unfold RetRead at h1
    simp only at h1
    obtain ⟨rfl, hb1⟩ := h1
    clear C
    go_wp2
    refine bodyPost_ret (v := .tuple #[.slice none 0 0, .int .i64 er, .int .i64 p]) (by simp [results, Try.results5, go_sem]) rfl ⟨none, 0, rfl, World.ownsRow_nil _ _ _ _, hb1⟩
set_option maxRecDepth 100000 in
set_option maxHeartbeats 2000000 in
theorem popen_any (s : ByteArray) (hs : s.size ≤ 200000) (w : World) : Calls Try.prog 15 #[.string s] w fun e w' => e = .returned (.int .i64 (openF s : Int)) ∧ Below w.heap.size w w' := by
  have C := pread_any s hs w
  rcases read7 s with ⟨y, h, hb⟩ | ⟨er, p, h, h0⟩
  · have hp : openF s = y.lv.length - 1 := by unfold openF; rw [h]; rfl
    rw [h] at C
    clear h
    obtain ⟨o, lv, G⟩ := y
    cases lv with
    | nil => exact absurd rfl hb.ne
    | cons pr v =>
    obtain ⟨p, r⟩ := pr
    simp only [List.length_cons, Nat.add_sub_cancel] at hp
    have hvl : v.length ≤ 200000 := by have := hb.lv; simp at this; omega
    rw [hp]
    clear hp hb
    go_enter Try.func15, Try.ntmps15
    go_wp2_with fail
    refine C.mono ?_
    rintro e1 w1 h1
    unfold RetRead at h1
    simp only at h1
    obtain ⟨g, rfl, ⟨Ao, co, gl, cl, hr⟩, hb1⟩ := h1
    obtain ⟨c1, f1⟩ := hr.slab.facts
    unfold prCells at c1
    simp only [List.length_cons] at c1
    have HB1 := Lib.hid hb1
    clear C hr hb1
    go_wp2
    go_ret
    exact ⟨rfl, HB1.out⟩
  · rw [(parse_bad7 h).2]
    rw [h] at C
    have t1 : (er != 0) = true := bne_iff_ne.2 h0
    clear h h0
    go_enter Try.func15, Try.ntmps15
    go_wp2_with fail
    refine C.mono ?_
    rintro e1 w1 h1
    unfold RetRead at h1
    simp only at h1
    obtain ⟨rfl, hb1⟩ := h1
    clear C
    go_wp2
    go_ret
    exact ⟨rfl, hb1⟩
end Go.Proofs.Ytfcgmgpcbenfpaa
