/- Walks of the parser: a row ends, all rows end, what bars a word. -/
import Derived.Test.YtfcgmgpcbenfpaaGreatProg
import Derived.WalkKit
import Derived.WalkSpells
import Derived.WalkLawsBesides
import Derived.Handy
import Derived.Lib.Hide
import Derived.Test.YtfcgmgpcbenfpaaGreatParA
set_option linter.unusedVariables false
set_option linter.unusedSimpArgs false
namespace Go.Proofs.YtfcgmgpcbenfpaaGreat
open Go.RowKit SetP BrkP LexP AstP ParP
/-- What a method leaves. -/
abbrev to1 (B g : Nat) (s : ByteArray) (a : Nat) (x : PS) (w : World) (e : Ending) (w' : World) : Prop := e = .returned (.tuple #[]) ∧ Below B w w' ∧ rat w' B g s a x
theorem nd_lit (k : Int) (n : Int) : ndCells ⟨k, n, 0, 0, noSet⟩ = #[.int .i64 k, .int .i64 n, .int .i64 0, .int .i64 0, .int .u64 0, .int .u64 0, .int .u64 0, .int .u64 0] := by
  unfold ndCells; simp only [noSet, wd_zero]
set_option maxRecDepth 100000 in
set_option maxHeartbeats 2000000 in
theorem endRow_any {B g : Nat} {s : ByteArray} {a : Nat} {o : List Nd} {p r : Nat} {v : List (Nat × Nat)} {G : Nat} {Ao : Option Addr} {co gl cl : Nat} {w : World} (h : RAt w B g s a ⟨o, (p, r) :: v, G⟩ Ao co gl cl) (hn : o.length ≤ 1000000) (hv : v.length ≤ 1000000) (hp : p ≤ 1000000) (hr : r ≤ 1000000) : Calls Tryz.prog 72 #[pp g] w (to1 B g s a (endRow ⟨o, (p, r) :: v, G⟩) w) := by
  have T := top_any h p r v rfl hv
  by_cases h0 : p = 0
  · have he : endRow ⟨o, (p, r) :: v, G⟩ = ⟨o ++ [ndE], (0, r + 1) :: v, G⟩ := by
      show (⟨o ++ rowN p, _, _⟩ : PS) = _
      unfold rowN; rw [if_pos h0]
    rw [he]
    have t0 : ((p : Int) == 0) = true := by rw [beq_iff_eq]; omega
    have H := Lib.hid h; clear h he h0
    go_enter Tryz.func72, Tryz.ntmps72
    go_wp2_with fail
    refine T.mono ?_
    rintro e1 w1 ⟨rfl, hb1⟩
    clear T
    have h1 := H.out.keep hb1
    have HB1 := Lib.hid (hb1.mono H.out.le)
    obtain ⟨k0, k1, k2, k3⟩ := h1.tops
    clear hb1
    have C1 := put_any (ndE) _ (nd_lit _ _) h1 (by show o.length ≤ _; omega)
    clear h1
    go_wp2_with fail
    refine C1.mono ?_
    rintro e2 w2 ⟨rfl, hb2, Ao2, co2, h2⟩
    clear C1 k0 k1 k2 k3
    have h2' : RAt w2 B g s a ⟨o ++ [ndE], (p, r) :: v, G⟩ Ao2 co2 gl cl := h2
    obtain ⟨k0, k1, k2, k3⟩ := h2'.tops
    have HE := Lib.hid ((h2'.poke0 0).poke1 (r + 1))
    have HGL := Lib.hid (h2'.cap.2.1)
    have HB2 := Lib.hid (HB1.out.trans hb2)
    clear h2 h2' hb2 HB1
    go_wp2
    first | go_end0 | refine bodyPost_ret (results_none rfl _ _ _) rfl ?_
    exact ⟨rfl, below_set (below_set HB2.out HGL.out _) HGL.out _, _, _, _, _, HE.out⟩
  have t0 : ((p : Int) == 0) = false := by rw [beq_eq_false_iff_ne]; omega
  by_cases h1 : 1 < p
  · have he : endRow ⟨o, (p, r) :: v, G⟩ = ⟨o ++ [ndC p], (0, r + 1) :: v, G⟩ := by
      show (⟨o ++ rowN p, _, _⟩ : PS) = _
      unfold rowN; rw [if_neg h0, if_pos h1]
    rw [he]
    have t1 : decide (1 < (p : Int)) = true := by simp; omega
    have H := Lib.hid h; clear h he h0 h1
    go_enter Tryz.func72, Tryz.ntmps72
    go_wp2_with fail
    refine T.mono ?_
    rintro e1 w1 ⟨rfl, hb1⟩
    clear T
    have h1 := H.out.keep hb1
    have HB1 := Lib.hid (hb1.mono H.out.le)
    obtain ⟨k0, k1, k2, k3⟩ := h1.tops
    clear hb1
    have C1 := put_any (ndC p) _ (nd_lit _ _) h1 (by show o.length ≤ _; omega)
    clear h1
    go_wp2_with fail
    refine C1.mono ?_
    rintro e2 w2 ⟨rfl, hb2, Ao2, co2, h2⟩
    clear C1 k0 k1 k2 k3
    have h2' : RAt w2 B g s a ⟨o ++ [ndC p], (p, r) :: v, G⟩ Ao2 co2 gl cl := h2
    obtain ⟨k0, k1, k2, k3⟩ := h2'.tops
    have HE := Lib.hid ((h2'.poke0 0).poke1 (r + 1))
    have HGL := Lib.hid (h2'.cap.2.1)
    have HB2 := Lib.hid (HB1.out.trans hb2)
    clear h2 h2' hb2 HB1
    go_wp2
    first | go_end0 | refine bodyPost_ret (results_none rfl _ _ _) rfl ?_
    exact ⟨rfl, below_set (below_set HB2.out HGL.out _) HGL.out _, _, _, _, _, HE.out⟩
  · have he : endRow ⟨o, (p, r) :: v, G⟩ = ⟨o, (0, r + 1) :: v, G⟩ := by
      show (⟨o ++ rowN p, _, _⟩ : PS) = _
      unfold rowN; rw [if_neg h0, if_neg h1, List.append_nil]
    rw [he]
    have t1 : decide (1 < (p : Int)) = false := by simp; omega
    have H := Lib.hid h; clear h he h0 h1
    go_enter Tryz.func72, Tryz.ntmps72
    go_wp2_with fail
    refine T.mono ?_
    rintro e1 w1 ⟨rfl, hb1⟩
    clear T
    have h1 := H.out.keep hb1
    have HB1 := Lib.hid (hb1.mono H.out.le)
    obtain ⟨k0, k1, k2, k3⟩ := h1.tops
    clear hb1
    have HE := Lib.hid ((h1.poke0 0).poke1 (r + 1))
    have HGL := Lib.hid (h1.cap.2.1)
    clear h1
    go_wp2
    first | go_end0 | refine bodyPost_ret (results_none rfl _ _ _) rfl ?_
    exact ⟨rfl, below_set (below_set HB1.out HGL.out _) HGL.out _, _, _, _, _, HE.out⟩
set_option maxRecDepth 100000 in
set_option maxHeartbeats 2000000 in
theorem endRows_any {B g : Nat} {s : ByteArray} {a : Nat} {o : List Nd} {p r : Nat} {v : List (Nat × Nat)} {G : Nat} {Ao : Option Addr} {co gl cl : Nat} {w : World} (h : RAt w B g s a ⟨o, (p, r) :: v, G⟩ Ao co gl cl) (hn : o.length ≤ 1000000) (hv : v.length ≤ 1000000) (hp : p ≤ 1000000) (hr : r ≤ 1000000) : Calls Tryz.prog 42 #[pp g] w (to1 B g s a (endRows ⟨o, (p, r) :: v, G⟩) w) := by
  have C := endRow_any h hn hv hp hr
  clear h
  have he : endRow ⟨o, (p, r) :: v, G⟩ = ⟨o ++ rowN p, (0, r + 1) :: v, G⟩ := rfl
  rw [he] at C
  have hn2 : (o ++ rowN p).length ≤ 1000001 := by
    rw [List.length_append]; unfold rowN; split
    · simp; omega
    · split <;> simp <;> omega
  have he2 : endRows ⟨o, (p, r) :: v, G⟩ = ⟨o ++ rowN p ++ rowsN (r + 1), v, G⟩ := rfl
  rw [he2]
  generalize o ++ rowN p = q at *
  clear he he2
  cases t1 : decide (1 < (r : Int) + 1) with
  | true =>
    have hr1 : rowsN (r + 1) = [ndA (r + 1)] := by unfold rowsN; rw [if_pos (by have := of_decide_eq_true t1; omega)]
    rw [hr1]; clear hr1
    go_enter Tryz.func42, Tryz.ntmps42
    go_wp2_with fail
    refine C.mono ?_
    rintro e1 w1 ⟨rfl, hb1, Ao1, co1, gl1, cl1, h1⟩
    have T := top_any h1 0 (r + 1) v rfl hv
    clear C
    go_wp2_with fail
    refine T.mono ?_
    rintro e2 w2 ⟨rfl, hb2⟩
    have h2 := h1.keep hb2
    have HB2 := Lib.hid (hb1.trans (hb2.mono h1.le))
    have C1 := put_any (ndA (r + 1)) _ (nd_lit _ _) h2 (by show q.length ≤ _; omega)
    obtain ⟨k0, k1, k2, k3⟩ := h2.tops
    clear hb1 hb2 T h1 h2
    go_wp2_with fail
    refine C1.mono ?_
    rintro e3 w3 ⟨rfl, hb3, Ao3, co3, h3⟩
    have h9 : RAt w3 B g s a ⟨q ++ [ndA (r + 1)], (0, r + 1) :: v, G⟩ Ao3 co3 gl1 cl1 := h3
    have HB3 := Lib.hid (HB2.out.trans hb3)
    clear hb3 h3 C1 k0 k1 k2 k3 HB2
    have HE := Lib.hid h9.cut
    have HG := Lib.hid h9.hB
    have o9 := h9.slab
    have hc9 : v.length + 1 ≤ cl1 := h9.cap.1
    obtain ⟨c9, f9⟩ := o9.facts
    clear h9
    unfold prCells at c9
    simp only [List.length_cons] at c9
    go_wp2_with fail
    go_region
    all_goals
      first | go_end0 | refine bodyPost_ret (results_none rfl _ _ _) rfl ?_
      exact ⟨rfl, (below_set HB3.out HG.out _).drew, _, _, _, _, HE.out.keep (Below.refl _ _).drew⟩
  | false =>
    have hr1 : rowsN (r + 1) = [] := by unfold rowsN; rw [if_neg (by have := of_decide_eq_false t1; omega)]
    rw [hr1, List.append_nil]; clear hr1
    go_enter Tryz.func42, Tryz.ntmps42
    go_wp2_with fail
    refine C.mono ?_
    rintro e1 w1 ⟨rfl, hb1, Ao1, co1, gl1, cl1, h1⟩
    have T := top_any h1 0 (r + 1) v rfl hv
    clear C
    go_wp2_with fail
    refine T.mono ?_
    rintro e2 w2 ⟨rfl, hb2⟩
    have h9 := h1.keep hb2
    have HB3 := Lib.hid (hb1.trans (hb2.mono h1.le))
    obtain ⟨k0, k1, k2, k3⟩ := h9.tops
    clear hb1 hb2 T h1
    have HE := Lib.hid h9.cut
    have HG := Lib.hid h9.hB
    have o9 := h9.slab
    have hc9 : v.length + 1 ≤ cl1 := h9.cap.1
    obtain ⟨c9, f9⟩ := o9.facts
    clear h9
    unfold prCells at c9
    simp only [List.length_cons] at c9
    go_wp2_with fail
    go_region
    all_goals
      first | go_end0 | refine bodyPost_ret (results_none rfl _ _ _) rfl ?_
      exact ⟨rfl, (below_set HB3.out HG.out _).drew, _, _, _, _, HE.out.keep (Below.refl _ _).drew⟩
theorem beqI7 (b k : UInt8) : ((b.toNat : Int) == (k.toNat : Int)) = (b == k) := by
  rw [Bool.eq_iff_iff]; simp only [beq_iff_eq]
  constructor
  · intro h; exact UInt8.toNat_inj.1 (by omega)
  · intro h; rw [h]
set_option maxRecDepth 100000 in
set_option maxHeartbeats 2000000 in
theorem bars_any {B g : Nat} {s : ByteArray} {a : Nat} {o : List Nd} {p r : Nat} {v : List (Nat × Nat)} {G : Nat} {Ao : Option Addr} {co gl cl : Nat} {w : World} (h : RAt w B g s a ⟨o, (p, r) :: v, G⟩ Ao co gl cl) (hv : v.length ≤ 1000000) (c : UInt8) : Calls Tryz.prog 69 #[pp g, .int .u8 (c.toNat : Int)] w fun e w' => e = .returned (.int .i64 (barF ⟨o, (p, r) :: v, G⟩ c)) ∧ Below w.heap.size w w' := by
  have T := top_any h p r v rfl hv
  have u42 : ((c.toNat : Int) == 42) = (c == 42) := beqI7 c 42
  have u43 : ((c.toNat : Int) == 43) = (c == 43) := beqI7 c 43
  have u63 : ((c.toNat : Int) == 63) = (c == 63) := beqI7 c 63
  have u123 : ((c.toNat : Int) == 123) = (c == 123) := beqI7 c 123
  have u41 : ((c.toNat : Int) == 41) = (c == 41) := beqI7 c 41
  have u40 : ((c.toNat : Int) == 40) = (c == 40) := beqI7 c 40
  cases x42 : (c == 42) with
  | true =>
    rw [x42] at u42
    have hx := x42
    clear u43 u63 u123 u41 u40
    rw [show barF ⟨o, (p, r) :: v, G⟩ c = (if p = 0 then 7 else 0) by unfold barF; rw [if_pos (by unfold isCnt; rw [hx]; simp)]; rfl]
    by_cases h0 : p = 0
    · rw [if_pos h0]
      have t0 : ((p : Int) == 0) = true := by rw [beq_iff_eq]; omega
      have H := Lib.hid h
      clear h h0 hx
      go_enter Tryz.func69, Tryz.ntmps69
      go_wp2_with fail
      refine T.mono ?_
      rintro e1 w1 ⟨rfl, hb1⟩
      have h1 := H.out.keep hb1
      obtain ⟨k0, k1, k2, k3⟩ := h1.tops
      have HB1 := Lib.hid hb1
      clear h1 hb1 T
      go_wp2
      go_ret
      exact ⟨rfl, HB1.out⟩
    · rw [if_neg h0]
      have t0 : ((p : Int) == 0) = false := by rw [beq_eq_false_iff_ne]; omega
      have H := Lib.hid h
      clear h h0 hx
      go_enter Tryz.func69, Tryz.ntmps69
      go_wp2_with fail
      refine T.mono ?_
      rintro e1 w1 ⟨rfl, hb1⟩
      have h1 := H.out.keep hb1
      obtain ⟨k0, k1, k2, k3⟩ := h1.tops
      have HB1 := Lib.hid hb1
      clear h1 hb1 T
      go_wp2
      go_ret
      exact ⟨rfl, HB1.out⟩
  | false =>
  rw [x42] at u42
  cases x43 : (c == 43) with
  | true =>
    rw [x43] at u43
    have hx := x43
    clear u63 u123 u41 u40
    rw [show barF ⟨o, (p, r) :: v, G⟩ c = (if p = 0 then 7 else 0) by unfold barF; rw [if_pos (by unfold isCnt; rw [hx]; simp)]; rfl]
    by_cases h0 : p = 0
    · rw [if_pos h0]
      have t0 : ((p : Int) == 0) = true := by rw [beq_iff_eq]; omega
      have H := Lib.hid h
      clear h h0 hx
      go_enter Tryz.func69, Tryz.ntmps69
      go_wp2_with fail
      refine T.mono ?_
      rintro e1 w1 ⟨rfl, hb1⟩
      have h1 := H.out.keep hb1
      obtain ⟨k0, k1, k2, k3⟩ := h1.tops
      have HB1 := Lib.hid hb1
      clear h1 hb1 T
      go_wp2
      go_ret
      exact ⟨rfl, HB1.out⟩
    · rw [if_neg h0]
      have t0 : ((p : Int) == 0) = false := by rw [beq_eq_false_iff_ne]; omega
      have H := Lib.hid h
      clear h h0 hx
      go_enter Tryz.func69, Tryz.ntmps69
      go_wp2_with fail
      refine T.mono ?_
      rintro e1 w1 ⟨rfl, hb1⟩
      have h1 := H.out.keep hb1
      obtain ⟨k0, k1, k2, k3⟩ := h1.tops
      have HB1 := Lib.hid hb1
      clear h1 hb1 T
      go_wp2
      go_ret
      exact ⟨rfl, HB1.out⟩
  | false =>
  rw [x43] at u43
  cases x63 : (c == 63) with
  | true =>
    rw [x63] at u63
    have hx := x63
    clear u123 u41 u40
    rw [show barF ⟨o, (p, r) :: v, G⟩ c = (if p = 0 then 7 else 0) by unfold barF; rw [if_pos (by unfold isCnt; rw [hx]; simp)]; rfl]
    by_cases h0 : p = 0
    · rw [if_pos h0]
      have t0 : ((p : Int) == 0) = true := by rw [beq_iff_eq]; omega
      have H := Lib.hid h
      clear h h0 hx
      go_enter Tryz.func69, Tryz.ntmps69
      go_wp2_with fail
      refine T.mono ?_
      rintro e1 w1 ⟨rfl, hb1⟩
      have h1 := H.out.keep hb1
      obtain ⟨k0, k1, k2, k3⟩ := h1.tops
      have HB1 := Lib.hid hb1
      clear h1 hb1 T
      go_wp2
      go_ret
      exact ⟨rfl, HB1.out⟩
    · rw [if_neg h0]
      have t0 : ((p : Int) == 0) = false := by rw [beq_eq_false_iff_ne]; omega
      have H := Lib.hid h
      clear h h0 hx
      go_enter Tryz.func69, Tryz.ntmps69
      go_wp2_with fail
      refine T.mono ?_
      rintro e1 w1 ⟨rfl, hb1⟩
      have h1 := H.out.keep hb1
      obtain ⟨k0, k1, k2, k3⟩ := h1.tops
      have HB1 := Lib.hid hb1
      clear h1 hb1 T
      go_wp2
      go_ret
      exact ⟨rfl, HB1.out⟩
  | false =>
  rw [x63] at u63
  cases x123 : (c == 123) with
  | true =>
    rw [x123] at u123
    have hx := x123
    clear u41 u40
    rw [show barF ⟨o, (p, r) :: v, G⟩ c = (if p = 0 then 7 else 0) by unfold barF; rw [if_pos (by unfold isCnt; rw [hx]; simp)]; rfl]
    by_cases h0 : p = 0
    · rw [if_pos h0]
      have t0 : ((p : Int) == 0) = true := by rw [beq_iff_eq]; omega
      have H := Lib.hid h
      clear h h0 hx
      go_enter Tryz.func69, Tryz.ntmps69
      go_wp2_with fail
      refine T.mono ?_
      rintro e1 w1 ⟨rfl, hb1⟩
      have h1 := H.out.keep hb1
      obtain ⟨k0, k1, k2, k3⟩ := h1.tops
      have HB1 := Lib.hid hb1
      clear h1 hb1 T
      go_wp2
      go_ret
      exact ⟨rfl, HB1.out⟩
    · rw [if_neg h0]
      have t0 : ((p : Int) == 0) = false := by rw [beq_eq_false_iff_ne]; omega
      have H := Lib.hid h
      clear h h0 hx
      go_enter Tryz.func69, Tryz.ntmps69
      go_wp2_with fail
      refine T.mono ?_
      rintro e1 w1 ⟨rfl, hb1⟩
      have h1 := H.out.keep hb1
      obtain ⟨k0, k1, k2, k3⟩ := h1.tops
      have HB1 := Lib.hid hb1
      clear h1 hb1 T
      go_wp2
      go_ret
      exact ⟨rfl, HB1.out⟩
  | false =>
  rw [x123] at u123
  have hn : isCnt c = false := by unfold isCnt; rw [x42, x43, x63, x123]; rfl
  obtain ⟨c0, f0⟩ := h.slab.facts
  unfold prCells at c0
  have hlen : (⟨o, (p, r) :: v, G⟩ : PS).lv.length = v.length + 1 := rfl
  rw [hlen] at c0
  obtain ⟨n, hnn⟩ : ∃ n, v.length + 1 = n := ⟨_, rfl⟩
  have hb : barF ⟨o, (p, r) :: v, G⟩ c = if c == 41 then (if n = 1 then 8 else 0) else if c == 40 then (if G = 9 then 9 else 0) else 0 := by
    unfold barF; rw [if_neg (by rw [hn]; simp), hlen, hnn]
  rw [hb]
  rw [hnn] at c0
  clear T hlen hnn hb hn x42 x43 x63 x123 h
  cases x41 : (c == 41) with
  | true =>
    rw [x41] at u41
    rw [if_pos rfl]
    clear u40
    by_cases h1 : n = 1
    · rw [if_pos h1]
      have t1 : ((n : Int) == 1) = true := by rw [beq_iff_eq]; omega
      go_enter Tryz.func69, Tryz.ntmps69
      go_wp2
      go_ret
      exact ⟨rfl, Below.refl _ _⟩
    · rw [if_neg h1]
      have t1 : ((n : Int) == 1) = false := by rw [beq_eq_false_iff_ne]; omega
      go_enter Tryz.func69, Tryz.ntmps69
      go_wp2
      go_ret
      exact ⟨rfl, Below.refl _ _⟩
  | false =>
  rw [x41] at u41
  rw [if_neg (by simp)]
  cases x40 : (c == 40) with
  | true =>
    rw [x40] at u40
    rw [if_pos rfl]
    by_cases h1 : G = 9
    · rw [if_pos h1]
      have t1 : ((G : Int) == 9) = true := by rw [beq_iff_eq]; omega
      go_enter Tryz.func69, Tryz.ntmps69
      go_wp2
      go_ret
      exact ⟨rfl, Below.refl _ _⟩
    · rw [if_neg h1]
      have t1 : ((G : Int) == 9) = false := by rw [beq_eq_false_iff_ne]; omega
      go_enter Tryz.func69, Tryz.ntmps69
      go_wp2
      go_ret
      exact ⟨rfl, Below.refl _ _⟩
  | false =>
    rw [x40] at u40
    rw [if_neg (by simp)]
    go_enter Tryz.func69, Tryz.ntmps69
    go_wp2
    go_ret
    exact ⟨rfl, Below.refl _ _⟩
end Go.Proofs.YtfcgmgpcbenfpaaGreat
