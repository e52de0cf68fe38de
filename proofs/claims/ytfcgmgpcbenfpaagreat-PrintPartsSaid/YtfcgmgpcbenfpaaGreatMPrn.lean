/- Walks of the document's parser: what bars a word; a word more. -/
import Derived.Test.YtfcgmgpcbenfpaaGreatProg
import Derived.WalkKit
import Derived.WalkSpells
import Derived.WalkLawsBesides
import Derived.Handy
import Derived.Lib.Hide
import Derived.Test.YtfcgmgpcbenfpaaGreatParF
import Derived.Test.YtfcgmgpcbenfpaaGreatParT
import Derived.Test.YtfcgmgpcbenfpaaGreatLexA
import Derived.Deep.QuietTactic
import Derived.Deep.Cut
import Derived.BigQuiet
import Derived.Lib.QuietBelow
import Derived.Test.YtfcgmgpcbenfpaaGreatMPrk
import Derived.Test.YtfcgmgpcbenfpaaGreatLexC
set_option linter.unusedVariables false
set_option linter.unusedSimpArgs false
namespace Go.Proofs.YtfcgmgpcbenfpaaGreat
open Go.RowKit SetP BrkP LexP AstP ParP
set_option maxRecDepth 100000 in
set_option maxHeartbeats 2000000 in
theorem rfirst_any {B : Nat} {o : List Nd} {p r : Nat} {v : List (Nat × Nat)} {G : Nat} {Ao : Option Addr} {co gp cp gr cr : Nat} {w : World} (h : StAt w B ⟨o, (p, r) :: v, G⟩ Ao co gp cp gr cr) (hv : v.length ≤ 1000000) (c : UInt8) : Calls Tryz.prog 52 #[.agg (psCells ⟨o, (p, r) :: v, G⟩ Ao co gp cp gr cr), .int .u8 (c.toNat : Int)] w fun e w' => e = .returned (.int .i64 (barF ⟨o, (p, r) :: v, G⟩ c)) ∧ Below w.heap.size w w' := by
  have u42 : ((c.toNat : Int) == 42) = (c == 42) := beqI7 c 42
  have u43 : ((c.toNat : Int) == 43) = (c == 43) := beqI7 c 43
  have u63 : ((c.toNat : Int) == 63) = (c == 63) := beqI7 c 63
  have u123 : ((c.toNat : Int) == 123) = (c == 123) := beqI7 c 123
  have u41 : ((c.toNat : Int) == 41) = (c == 41) := beqI7 c 41
  have u40 : ((c.toNat : Int) == 40) = (c == 40) := beqI7 c 40
  cases x42 : (c == 42) with
  | true =>
    rw [x42] at u42
    have hx := x42
    clear u43 u63 u123 u41 u40
    rw [show barF ⟨o, (p, r) :: v, G⟩ c = (if p = 0 then 7 else 0) by unfold barF; rw [if_pos (by unfold isCnt; rw [hx]; simp)]; rfl]
    clear hx
    by_cases h0 : p = 0
    · rw [if_pos h0]
      have t0 : ((p : Int) == 0) = true := by rw [beq_iff_eq]; omega
      clear h0
      have h1 := BxAt.new h
      have HB1 := Lib.hid ((Below.refl w.heap.size w).alloc (Nat.le_refl _) (.cells (psCells ⟨o, (p, r) :: v, G⟩ Ao co gp cp gr cr) 57))
      obtain ⟨c1, f1⟩ := h1.slab.facts
      obtain ⟨k0, k1, k2, k3⟩ := h1.st.tops
      have hlen := h1.lenR
      clear h1 h
      unfold psCells at c1 f1 k0 k1 k2 k3 HB1
      simp only [List.length_cons] at c1 f1 k0 k1 k2 k3 hlen HB1
      obtain ⟨l1, l2, l3, l4⟩ := hlen
      show Calls Tryz.prog 52 #[.agg #[.slice Ao o.length co, .slice (some ⟨gp, 0, none⟩) (v.length + 1) cp, .slice (some ⟨gr, 0, none⟩) (v.length + 1) cr, .int .i64 (G : Int)], .int .u8 (c.toNat : Int)] w _
      go_enter Tryz.func52, Tryz.ntmps52
      go_wp2
      go_ret
      exact ⟨rfl, HB1.out⟩
    · rw [if_neg h0]
      have t0 : ((p : Int) == 0) = false := by rw [beq_eq_false_iff_ne]; omega
      clear h0
      have h1 := BxAt.new h
      have HB1 := Lib.hid ((Below.refl w.heap.size w).alloc (Nat.le_refl _) (.cells (psCells ⟨o, (p, r) :: v, G⟩ Ao co gp cp gr cr) 57))
      obtain ⟨c1, f1⟩ := h1.slab.facts
      obtain ⟨k0, k1, k2, k3⟩ := h1.st.tops
      have hlen := h1.lenR
      clear h1 h
      unfold psCells at c1 f1 k0 k1 k2 k3 HB1
      simp only [List.length_cons] at c1 f1 k0 k1 k2 k3 hlen HB1
      obtain ⟨l1, l2, l3, l4⟩ := hlen
      show Calls Tryz.prog 52 #[.agg #[.slice Ao o.length co, .slice (some ⟨gp, 0, none⟩) (v.length + 1) cp, .slice (some ⟨gr, 0, none⟩) (v.length + 1) cr, .int .i64 (G : Int)], .int .u8 (c.toNat : Int)] w _
      go_enter Tryz.func52, Tryz.ntmps52
      go_wp2
      go_ret
      exact ⟨rfl, HB1.out⟩
  | false =>
  rw [x42] at u42
  cases x43 : (c == 43) with
  | true =>
    rw [x43] at u43
    have hx := x43
    clear u63 u123 u41 u40
    rw [show barF ⟨o, (p, r) :: v, G⟩ c = (if p = 0 then 7 else 0) by unfold barF; rw [if_pos (by unfold isCnt; rw [hx]; simp)]; rfl]
    clear hx
    by_cases h0 : p = 0
    · rw [if_pos h0]
      have t0 : ((p : Int) == 0) = true := by rw [beq_iff_eq]; omega
      clear h0
      have h1 := BxAt.new h
      have HB1 := Lib.hid ((Below.refl w.heap.size w).alloc (Nat.le_refl _) (.cells (psCells ⟨o, (p, r) :: v, G⟩ Ao co gp cp gr cr) 57))
      obtain ⟨c1, f1⟩ := h1.slab.facts
      obtain ⟨k0, k1, k2, k3⟩ := h1.st.tops
      have hlen := h1.lenR
      clear h1 h
      unfold psCells at c1 f1 k0 k1 k2 k3 HB1
      simp only [List.length_cons] at c1 f1 k0 k1 k2 k3 hlen HB1
      obtain ⟨l1, l2, l3, l4⟩ := hlen
      show Calls Tryz.prog 52 #[.agg #[.slice Ao o.length co, .slice (some ⟨gp, 0, none⟩) (v.length + 1) cp, .slice (some ⟨gr, 0, none⟩) (v.length + 1) cr, .int .i64 (G : Int)], .int .u8 (c.toNat : Int)] w _
      go_enter Tryz.func52, Tryz.ntmps52
      go_wp2
      go_ret
      exact ⟨rfl, HB1.out⟩
    · rw [if_neg h0]
      have t0 : ((p : Int) == 0) = false := by rw [beq_eq_false_iff_ne]; omega
      clear h0
      have h1 := BxAt.new h
      have HB1 := Lib.hid ((Below.refl w.heap.size w).alloc (Nat.le_refl _) (.cells (psCells ⟨o, (p, r) :: v, G⟩ Ao co gp cp gr cr) 57))
      obtain ⟨c1, f1⟩ := h1.slab.facts
      obtain ⟨k0, k1, k2, k3⟩ := h1.st.tops
      have hlen := h1.lenR
      clear h1 h
      unfold psCells at c1 f1 k0 k1 k2 k3 HB1
      simp only [List.length_cons] at c1 f1 k0 k1 k2 k3 hlen HB1
      obtain ⟨l1, l2, l3, l4⟩ := hlen
      show Calls Tryz.prog 52 #[.agg #[.slice Ao o.length co, .slice (some ⟨gp, 0, none⟩) (v.length + 1) cp, .slice (some ⟨gr, 0, none⟩) (v.length + 1) cr, .int .i64 (G : Int)], .int .u8 (c.toNat : Int)] w _
      go_enter Tryz.func52, Tryz.ntmps52
      go_wp2
      go_ret
      exact ⟨rfl, HB1.out⟩
  | false =>
  rw [x43] at u43
  cases x63 : (c == 63) with
  | true =>
    rw [x63] at u63
    have hx := x63
    clear u123 u41 u40
    rw [show barF ⟨o, (p, r) :: v, G⟩ c = (if p = 0 then 7 else 0) by unfold barF; rw [if_pos (by unfold isCnt; rw [hx]; simp)]; rfl]
    clear hx
    by_cases h0 : p = 0
    · rw [if_pos h0]
      have t0 : ((p : Int) == 0) = true := by rw [beq_iff_eq]; omega
      clear h0
      have h1 := BxAt.new h
      have HB1 := Lib.hid ((Below.refl w.heap.size w).alloc (Nat.le_refl _) (.cells (psCells ⟨o, (p, r) :: v, G⟩ Ao co gp cp gr cr) 57))
      obtain ⟨c1, f1⟩ := h1.slab.facts
      obtain ⟨k0, k1, k2, k3⟩ := h1.st.tops
      have hlen := h1.lenR
      clear h1 h
      unfold psCells at c1 f1 k0 k1 k2 k3 HB1
      simp only [List.length_cons] at c1 f1 k0 k1 k2 k3 hlen HB1
      obtain ⟨l1, l2, l3, l4⟩ := hlen
      show Calls Tryz.prog 52 #[.agg #[.slice Ao o.length co, .slice (some ⟨gp, 0, none⟩) (v.length + 1) cp, .slice (some ⟨gr, 0, none⟩) (v.length + 1) cr, .int .i64 (G : Int)], .int .u8 (c.toNat : Int)] w _
      go_enter Tryz.func52, Tryz.ntmps52
      go_wp2
      go_ret
      exact ⟨rfl, HB1.out⟩
    · rw [if_neg h0]
      have t0 : ((p : Int) == 0) = false := by rw [beq_eq_false_iff_ne]; omega
      clear h0
      have h1 := BxAt.new h
      have HB1 := Lib.hid ((Below.refl w.heap.size w).alloc (Nat.le_refl _) (.cells (psCells ⟨o, (p, r) :: v, G⟩ Ao co gp cp gr cr) 57))
      obtain ⟨c1, f1⟩ := h1.slab.facts
      obtain ⟨k0, k1, k2, k3⟩ := h1.st.tops
      have hlen := h1.lenR
      clear h1 h
      unfold psCells at c1 f1 k0 k1 k2 k3 HB1
      simp only [List.length_cons] at c1 f1 k0 k1 k2 k3 hlen HB1
      obtain ⟨l1, l2, l3, l4⟩ := hlen
      show Calls Tryz.prog 52 #[.agg #[.slice Ao o.length co, .slice (some ⟨gp, 0, none⟩) (v.length + 1) cp, .slice (some ⟨gr, 0, none⟩) (v.length + 1) cr, .int .i64 (G : Int)], .int .u8 (c.toNat : Int)] w _
      go_enter Tryz.func52, Tryz.ntmps52
      go_wp2
      go_ret
      exact ⟨rfl, HB1.out⟩
  | false =>
  rw [x63] at u63
  cases x123 : (c == 123) with
  | true =>
    rw [x123] at u123
    have hx := x123
    clear u41 u40
    rw [show barF ⟨o, (p, r) :: v, G⟩ c = (if p = 0 then 7 else 0) by unfold barF; rw [if_pos (by unfold isCnt; rw [hx]; simp)]; rfl]
    clear hx
    by_cases h0 : p = 0
    · rw [if_pos h0]
      have t0 : ((p : Int) == 0) = true := by rw [beq_iff_eq]; omega
      clear h0
      have h1 := BxAt.new h
      have HB1 := Lib.hid ((Below.refl w.heap.size w).alloc (Nat.le_refl _) (.cells (psCells ⟨o, (p, r) :: v, G⟩ Ao co gp cp gr cr) 57))
      obtain ⟨c1, f1⟩ := h1.slab.facts
      obtain ⟨k0, k1, k2, k3⟩ := h1.st.tops
      have hlen := h1.lenR
      clear h1 h
      unfold psCells at c1 f1 k0 k1 k2 k3 HB1
      simp only [List.length_cons] at c1 f1 k0 k1 k2 k3 hlen HB1
      obtain ⟨l1, l2, l3, l4⟩ := hlen
      show Calls Tryz.prog 52 #[.agg #[.slice Ao o.length co, .slice (some ⟨gp, 0, none⟩) (v.length + 1) cp, .slice (some ⟨gr, 0, none⟩) (v.length + 1) cr, .int .i64 (G : Int)], .int .u8 (c.toNat : Int)] w _
      go_enter Tryz.func52, Tryz.ntmps52
      go_wp2
      go_ret
      exact ⟨rfl, HB1.out⟩
    · rw [if_neg h0]
      have t0 : ((p : Int) == 0) = false := by rw [beq_eq_false_iff_ne]; omega
      clear h0
      have h1 := BxAt.new h
      have HB1 := Lib.hid ((Below.refl w.heap.size w).alloc (Nat.le_refl _) (.cells (psCells ⟨o, (p, r) :: v, G⟩ Ao co gp cp gr cr) 57))
      obtain ⟨c1, f1⟩ := h1.slab.facts
      obtain ⟨k0, k1, k2, k3⟩ := h1.st.tops
      have hlen := h1.lenR
      clear h1 h
      unfold psCells at c1 f1 k0 k1 k2 k3 HB1
      simp only [List.length_cons] at c1 f1 k0 k1 k2 k3 hlen HB1
      obtain ⟨l1, l2, l3, l4⟩ := hlen
      show Calls Tryz.prog 52 #[.agg #[.slice Ao o.length co, .slice (some ⟨gp, 0, none⟩) (v.length + 1) cp, .slice (some ⟨gr, 0, none⟩) (v.length + 1) cr, .int .i64 (G : Int)], .int .u8 (c.toNat : Int)] w _
      go_enter Tryz.func52, Tryz.ntmps52
      go_wp2
      go_ret
      exact ⟨rfl, HB1.out⟩
  | false =>
  rw [x123] at u123
  have hn : isCnt c = false := by unfold isCnt; rw [x42, x43, x63, x123]; rfl
  have hb : barF ⟨o, (p, r) :: v, G⟩ c = if c == 41 then (if v.length + 1 = 1 then 8 else 0) else if c == 40 then (if G = 9 then 9 else 0) else 0 := by
    unfold barF; rw [if_neg (by rw [hn]; simp)]; rfl
  rw [hb]
  clear hb hn x42 x43 x63 x123
  cases x41 : (c == 41) with
  | true =>
    rw [x41] at u41
    rw [if_pos rfl]
    clear u40
    by_cases h1 : v.length + 1 = 1
    · rw [if_pos h1]
      have t1 : ((v.length : Int) == 0) = true := by rw [beq_iff_eq]; omega
      clear h1
      have h1 := BxAt.new h
      have HB1 := Lib.hid ((Below.refl w.heap.size w).alloc (Nat.le_refl _) (.cells (psCells ⟨o, (p, r) :: v, G⟩ Ao co gp cp gr cr) 57))
      obtain ⟨c1, f1⟩ := h1.slab.facts
      obtain ⟨k0, k1, k2, k3⟩ := h1.st.tops
      have hlen := h1.lenR
      clear h1 h
      unfold psCells at c1 f1 k0 k1 k2 k3 HB1
      simp only [List.length_cons] at c1 f1 k0 k1 k2 k3 hlen HB1
      obtain ⟨l1, l2, l3, l4⟩ := hlen
      show Calls Tryz.prog 52 #[.agg #[.slice Ao o.length co, .slice (some ⟨gp, 0, none⟩) (v.length + 1) cp, .slice (some ⟨gr, 0, none⟩) (v.length + 1) cr, .int .i64 (G : Int)], .int .u8 (c.toNat : Int)] w _
      go_enter Tryz.func52, Tryz.ntmps52
      go_wp2
      go_ret
      exact ⟨rfl, HB1.out⟩
    · rw [if_neg h1]
      have t1 : ((v.length : Int) == 0) = false := by rw [beq_eq_false_iff_ne]; omega
      clear h1
      have h1 := BxAt.new h
      have HB1 := Lib.hid ((Below.refl w.heap.size w).alloc (Nat.le_refl _) (.cells (psCells ⟨o, (p, r) :: v, G⟩ Ao co gp cp gr cr) 57))
      obtain ⟨c1, f1⟩ := h1.slab.facts
      obtain ⟨k0, k1, k2, k3⟩ := h1.st.tops
      have hlen := h1.lenR
      clear h1 h
      unfold psCells at c1 f1 k0 k1 k2 k3 HB1
      simp only [List.length_cons] at c1 f1 k0 k1 k2 k3 hlen HB1
      obtain ⟨l1, l2, l3, l4⟩ := hlen
      show Calls Tryz.prog 52 #[.agg #[.slice Ao o.length co, .slice (some ⟨gp, 0, none⟩) (v.length + 1) cp, .slice (some ⟨gr, 0, none⟩) (v.length + 1) cr, .int .i64 (G : Int)], .int .u8 (c.toNat : Int)] w _
      go_enter Tryz.func52, Tryz.ntmps52
      go_wp2
      go_ret
      exact ⟨rfl, HB1.out⟩
  | false =>
  rw [x41] at u41
  rw [if_neg (by simp)]
  cases x40 : (c == 40) with
  | true =>
    rw [x40] at u40
    rw [if_pos rfl]
    by_cases h1 : G = 9
    · rw [if_pos h1]
      have t1 : ((G : Int) == 9) = true := by rw [beq_iff_eq]; omega
      clear h1
      have h1 := BxAt.new h
      have HB1 := Lib.hid ((Below.refl w.heap.size w).alloc (Nat.le_refl _) (.cells (psCells ⟨o, (p, r) :: v, G⟩ Ao co gp cp gr cr) 57))
      obtain ⟨c1, f1⟩ := h1.slab.facts
      obtain ⟨k0, k1, k2, k3⟩ := h1.st.tops
      have hlen := h1.lenR
      clear h1 h
      unfold psCells at c1 f1 k0 k1 k2 k3 HB1
      simp only [List.length_cons] at c1 f1 k0 k1 k2 k3 hlen HB1
      obtain ⟨l1, l2, l3, l4⟩ := hlen
      show Calls Tryz.prog 52 #[.agg #[.slice Ao o.length co, .slice (some ⟨gp, 0, none⟩) (v.length + 1) cp, .slice (some ⟨gr, 0, none⟩) (v.length + 1) cr, .int .i64 (G : Int)], .int .u8 (c.toNat : Int)] w _
      go_enter Tryz.func52, Tryz.ntmps52
      go_wp2
      go_ret
      exact ⟨rfl, HB1.out⟩
    · rw [if_neg h1]
      have t1 : ((G : Int) == 9) = false := by rw [beq_eq_false_iff_ne]; omega
      clear h1
      have h1 := BxAt.new h
      have HB1 := Lib.hid ((Below.refl w.heap.size w).alloc (Nat.le_refl _) (.cells (psCells ⟨o, (p, r) :: v, G⟩ Ao co gp cp gr cr) 57))
      obtain ⟨c1, f1⟩ := h1.slab.facts
      obtain ⟨k0, k1, k2, k3⟩ := h1.st.tops
      have hlen := h1.lenR
      clear h1 h
      unfold psCells at c1 f1 k0 k1 k2 k3 HB1
      simp only [List.length_cons] at c1 f1 k0 k1 k2 k3 hlen HB1
      obtain ⟨l1, l2, l3, l4⟩ := hlen
      show Calls Tryz.prog 52 #[.agg #[.slice Ao o.length co, .slice (some ⟨gp, 0, none⟩) (v.length + 1) cp, .slice (some ⟨gr, 0, none⟩) (v.length + 1) cr, .int .i64 (G : Int)], .int .u8 (c.toNat : Int)] w _
      go_enter Tryz.func52, Tryz.ntmps52
      go_wp2
      go_ret
      exact ⟨rfl, HB1.out⟩
  | false =>
    rw [x40] at u40
    rw [if_neg (by simp)]
    have h1 := BxAt.new h
    have HB1 := Lib.hid ((Below.refl w.heap.size w).alloc (Nat.le_refl _) (.cells (psCells ⟨o, (p, r) :: v, G⟩ Ao co gp cp gr cr) 57))
    obtain ⟨c1, f1⟩ := h1.slab.facts
    obtain ⟨k0, k1, k2, k3⟩ := h1.st.tops
    have hlen := h1.lenR
    clear h1 h
    unfold psCells at c1 f1 k0 k1 k2 k3 HB1
    simp only [List.length_cons] at c1 f1 k0 k1 k2 k3 hlen HB1
    obtain ⟨l1, l2, l3, l4⟩ := hlen
    show Calls Tryz.prog 52 #[.agg #[.slice Ao o.length co, .slice (some ⟨gp, 0, none⟩) (v.length + 1) cp, .slice (some ⟨gr, 0, none⟩) (v.length + 1) cr, .int .i64 (G : Int)], .int .u8 (c.toNat : Int)] w _
    go_enter Tryz.func52, Tryz.ntmps52
    go_wp2
    go_ret
    exact ⟨rfl, HB1.out⟩
end Go.Proofs.YtfcgmgpcbenfpaaGreat

/- Walks of the document's parser: a word more. -/
namespace Go.Proofs.YtfcgmgpcbenfpaaGreat
open Go.RowKit SetP BrkP LexP AstP ParP
abbrev bxw (w : World) (cs ws : Array Value) : World := ((w.alloc (.cells cs 57)).alloc (.cells ws 74)).alloc (.cells #[.slice none 0 0, .slice none 0 0, .slice none 0 0, .int .i64 0] 57)
theorem bxw_below (w : World) (B : Nat) (h : B ≤ w.heap.size) (cs ws : Array Value) : Below B w (bxw w cs ws) := (((Below.refl B w).alloc h _).alloc (by simp; omega) _).alloc (by simp; omega) _
theorem bxw_box {w : World} {B : Nat} {x : PS} {Ao : Option Addr} {co gp cp gr cr : Nat} (h : StAt w B x Ao co gp cp gr cr) (ws : Array Value) : BxAt (bxw w (psCells x Ao co gp cp gr cr) ws) B w.heap.size x Ao co gp cp gr cr :=
  (BxAt.new h).keep (((Below.refl _ _).alloc (Nat.le_refl _) _).alloc (by simp) _)
theorem bxw_word (w : World) (cs ws : Array Value) : Slab (bxw w cs ws) (w.heap.size + 1) ws 74 := (Slab.newAt _ _ _ (by simp)).alloc _
theorem bxw_res (w : World) (cs ws : Array Value) : Slab (bxw w cs ws) (w.heap.size + 2) #[.slice none 0 0, .slice none 0 0, .slice none 0 0, .int .i64 0] 57 := Slab.newAt _ _ _ (by simp)
theorem bxw_slab {w : World} {cs ws : Array Value} {k : Nat} {ks : Array Value} {t : TypeId} (h : Slab w k ks t) : Slab (bxw w cs ws) k ks t := ((h.alloc _).alloc _).alloc _
set_option maxRecDepth 100000 in
set_option maxHeartbeats 2000000 in
theorem rtake_one {B : Nat} {o : List Nd} {p r : Nat} {v : List (Nat × Nat)} {G : Nat} {Ao : Option Addr} {co gp cp gr cr : Nat} {w : World} (h : StAt w B ⟨o, (p, r) :: v, G⟩ Ao co gp cp gr cr) (hn : o.length ≤ 1000000) (hv : v.length ≤ 1000000) (hp : p ≤ 1000000) (hr : r ≤ 1000000) (at_ stop n m : Int) (f : Nat → Bool) : Calls Tryz.prog 54 #[.agg (psCells ⟨o, (p, r) :: v, G⟩ Ao co gp cp gr cr), wdV ⟨1, at_, stop, f, n, m⟩] w (toSt B ⟨o, (p, r) :: v, G⟩ Ao co gp gr ⟨o ++ [ndS f], (p + 1, r) :: v, G⟩ w) := by
  obtain ⟨i0, hi, hz0, hz1, hz2⟩ := info_parts info_node7
  have HI := Lib.hid hi; clear hi
  have HZ0 := Lib.hid hz0; clear hz0
  have HZ1 := Lib.hid hz1; clear hz1
  have HZ2 := Lib.hid hz2; clear hz2
  have hB0 : B ≤ w.heap.size := h.hB
  have h1 : BxAt (bxw w #[.slice Ao o.length co, .slice (some ⟨gp, 0, none⟩) (v.length + 1) cp, .slice (some ⟨gr, 0, none⟩) (v.length + 1) cr, .int .i64 (G : Int)] #[.int .i64 1, .int .i64 at_, .int .i64 stop, .int .u64 (wd f 0), .int .u64 (wd f 1), .int .u64 (wd f 2), .int .u64 (wd f 3), .int .i64 n, .int .i64 m]) B w.heap.size ⟨o, (p, r) :: v, G⟩ Ao co gp cp gr cr := bxw_box h _
  have HB0 := Lib.hid (bxw_below w B hB0 #[.slice Ao o.length co, .slice (some ⟨gp, 0, none⟩) (v.length + 1) cp, .slice (some ⟨gr, 0, none⟩) (v.length + 1) cr, .int .i64 (G : Int)] #[.int .i64 1, .int .i64 at_, .int .i64 stop, .int .u64 (wd f 0), .int .u64 (wd f 1), .int .u64 (wd f 2), .int .u64 (wd f 3), .int .i64 n, .int .i64 m])
  have F2 := h.free (b := w.heap.size + 2) (by omega)
  have d1 : gp ≠ w.heap.size := h1.free.2.1
  have d2 : gr ≠ w.heap.size := h1.free.2.2
  have d4 : gp ≠ w.heap.size + 2 := F2.2.1
  have d5 : gr ≠ w.heap.size + 2 := F2.2.2
  have HF2 := Lib.hid (show Free (w.heap.size + 2) Ao o.length co gp gr from F2)
  obtain ⟨c1, f1⟩ := h1.slab.facts
  obtain ⟨k0, k1, k2, k3⟩ := h1.st.tops
  have hlen := h1.lenR
  have O1 := Lib.hid (bxw_word w #[.slice Ao o.length co, .slice (some ⟨gp, 0, none⟩) (v.length + 1) cp, .slice (some ⟨gr, 0, none⟩) (v.length + 1) cr, .int .i64 (G : Int)] #[.int .i64 1, .int .i64 at_, .int .i64 stop, .int .u64 (wd f 0), .int .u64 (wd f 1), .int .u64 (wd f 2), .int .u64 (wd f 3), .int .i64 n, .int .i64 m])
  have O2 := Lib.hid (bxw_res w #[.slice Ao o.length co, .slice (some ⟨gp, 0, none⟩) (v.length + 1) cp, .slice (some ⟨gr, 0, none⟩) (v.length + 1) cr, .int .i64 (G : Int)] #[.int .i64 1, .int .i64 at_, .int .i64 stop, .int .u64 (wd f 0), .int .u64 (wd f 1), .int .u64 (wd f 2), .int .u64 (wd f 3), .int .i64 n, .int .i64 m])
  obtain ⟨cw, fw⟩ := O1.out.facts
  obtain ⟨c2, f2⟩ := O2.out.facts
  have hown1 : (bxw w #[.slice Ao o.length co, .slice (some ⟨gp, 0, none⟩) (v.length + 1) cp, .slice (some ⟨gr, 0, none⟩) (v.length + 1) cr, .int .i64 (G : Int)] #[.int .i64 1, .int .i64 at_, .int .i64 stop, .int .u64 (wd f 0), .int .u64 (wd f 1), .int .u64 (wd f 2), .int .u64 (wd f 3), .int .i64 n, .int .i64 m]).ownsRow B 51 8 (.slice Ao o.length co) o.length (flatD o) := h1.st.out
  have hsz1 : B ≤ (bxw w #[.slice Ao o.length co, .slice (some ⟨gp, 0, none⟩) (v.length + 1) cp, .slice (some ⟨gr, 0, none⟩) (v.length + 1) cr, .int .i64 (G : Int)] #[.int .i64 1, .int .i64 at_, .int .i64 stop, .int .u64 (wd f 0), .int .u64 (wd f 1), .int .u64 (wd f 2), .int .u64 (wd f 3), .int .i64 n, .int .i64 m]).heap.size := h1.st.hB
  have H1 := Lib.hid h1
  clear h1 h F2
  unfold psCells at c1
  simp only [List.length_cons] at c1 hlen
  obtain ⟨l1, l2, l3, l4⟩ := hlen
  show Calls Tryz.prog 54 #[.agg #[.slice Ao o.length co, .slice (some ⟨gp, 0, none⟩) (v.length + 1) cp, .slice (some ⟨gr, 0, none⟩) (v.length + 1) cr, .int .i64 (G : Int)], .agg #[.int .i64 1, .int .i64 at_, .int .i64 stop, .int .u64 (wd f 0), .int .u64 (wd f 1), .int .u64 (wd f 2), .int .u64 (wd f 3), .int .i64 n, .int .i64 m]] w _
  go_enter Tryz.func54, Tryz.ntmps54
  go_wp2_with (at_builtin; go_must (
    (refine wpList_append_elem_at _ ?g1 (.tmp 15) (.tmp 19) 28 ?g2 B 51 i0 ndZero7 8 64 ?g3 ?g4 ?g5 ?g6 ?g7 ?g8 ?g9 _ _ _ _ ?g10 hown1 ?gc ?gg ?g11 ?g12 ?g13 ?g14 ?g15 ?g16 ?g17 ?g18; (case g1 => rfl); (case g2 => rfl); (case g3 => exact Tryz.underlying28); (case g4 => exact HI.out); (case g5 => exact HZ0.out); (case g6 => exact HZ1.out); (case g7 => exact HZ2.out); (case g8 => rfl); (case g9 => decide); (case g10 => rfl); (case g12 => rfl); (case g11 => first | rfl | exact slice_at (by simp)); (case g13 => rfl); (case g14 => simp [Value.oneCell']); (case g15 => unfold maxLen; omega); (case g16 => omega); (case g17 => first | omega | (simp; omega)); intro A5 q5 w5 hown5 hbl5 has5)
    have hown5' : w5.ownsRow B 51 8 (.slice A5 (o.length + 1) q5) (o.length + 1) (flatD o ++ (ndCells (ndS f)).toList) := by
      exact hown5
    have h6 := H1.out.more (nd := ndS f) hown5' has5 (Nat.le_trans H1.out.st.hB hbl5.size)
    obtain ⟨o5, hx5⟩ := has5 _ _ _ H1.out.slab H1.out.free.1
    obtain ⟨c5, f5⟩ := o5.facts
    have HB6 := Lib.hid (below_set (HB0.out.trans hbl5) h6.hg (i := 0) (.slice A5 (o.length + 1) q5))
    have h6' : BxAt (w5.setCell ⟨w.heap.size, 0, none⟩ (.slice A5 (o.length + 1) q5)) B w.heap.size ⟨o ++ [ndS f], (p, r) :: v, G⟩ A5 q5 gp cp gr cr := h6
    obtain ⟨k60, k61, k62, k63⟩ := h6'.st.tops
    have H6 := Lib.hid h6'
    obtain ⟨o7, hx7⟩ := has5 _ _ _ O2.out HF2.out.1
    have HX7 := Lib.hid hx7; clear hx7
    have HAS := Lib.hid has5
    obtain ⟨c7, f7⟩ := o7.facts
    have O7 := Lib.hid (o7.far (b := w.heap.size) (i := 0) (by omega) (.slice A5 (o.length + 1) q5)); clear o7
    clear hbl5 has5 h6 h6' hown5 hown5' o5 c1 f1 k0 k1 k2 k3 hown1 c2 f2 cw fw
    unfold psCells at c5
    simp only [List.length_cons] at c5))
  have hl : (o ++ [ndS f]).length = o.length + 1 := by simp
  have HE := H6.out.poke0 (p + 1)
  have hfr : Fr w ((w5.setCell ⟨w.heap.size, 0, none⟩ (.slice A5 (o.length + 1) q5)).setCell ⟨gp, v.length, none⟩ (.int .i64 ((p + 1 : Nat) : Int))) o.length Ao co gp gr (o ++ [ndS f]).length A5 q5 gp gr := by
    intro k cs t hk hf
    have hlt := hk.lt
    obtain ⟨g1, g2⟩ := HAS.out k cs t (bxw_slab hk) hf.1
    exact ⟨(g1.far (by omega) _).far (fun e => hf.2.1 e.symm) _, by rw [hl]; exact g2, hf.2⟩
  obtain ⟨S1, S2⟩ := st_out (g := w.heap.size + 2) (HE.st) (O7.out.far (fun e => d4 e.symm) _) (⟨by show (Value.slice A5 (o ++ [ndS f]).length q5).ownBlock ≠ _; rw [hl]; exact HX7.out, d4, d5⟩)
  simp only [List.length_cons, hl] at S1 S2
  refine bodyPost_ret (results_cell rfl rfl (load_slab (t := 57) (cs := psCells ⟨o ++ [ndS f], (p + 1, r) :: v, G⟩ A5 q5 gp cp gr cr) ?_ 57 Tryz.underlying57 rfl (by kernel_rfl))) rfl ⟨_, _, _, _, _, _, rfl, ?_, ?_, ?_⟩
  · exact S1
  · exact below_set (below_set (below_set (below_set (below_set HB6.out l3 _) (by omega) _) (by omega) _) (by omega) _) (by omega) _
  · exact S2
  · intro k cs t hk hf
    have hlt := hk.lt
    obtain ⟨h1, h2⟩ := hfr k cs t hk hf
    exact ⟨(((h1.far (by omega) _).far (by omega) _).far (by omega) _).far (by omega) _, h2⟩
set_option maxRecDepth 100000 in
set_option maxHeartbeats 2000000 in
theorem rtake_rep {B : Nat} {o : List Nd} {p r : Nat} {v : List (Nat × Nat)} {G : Nat} {Ao : Option Addr} {co gp cp gr cr : Nat} {w : World} (h : StAt w B ⟨o, (p, r) :: v, G⟩ Ao co gp cp gr cr) (hn : o.length ≤ 1000000) (hv : v.length ≤ 1000000) (hp : p ≤ 1000000) (hr : r ≤ 1000000) (at_ stop n m : Int) (f : Nat → Bool) : Calls Tryz.prog 54 #[.agg (psCells ⟨o, (p, r) :: v, G⟩ Ao co gp cp gr cr), wdV ⟨5, at_, stop, f, n, m⟩] w (toSt B ⟨o, (p, r) :: v, G⟩ Ao co gp gr ⟨o ++ [ndR n m], (p, r) :: v, G⟩ w) := by
  obtain ⟨i0, hi, hz0, hz1, hz2⟩ := info_parts info_node7
  have HI := Lib.hid hi; clear hi
  have HZ0 := Lib.hid hz0; clear hz0
  have HZ1 := Lib.hid hz1; clear hz1
  have HZ2 := Lib.hid hz2; clear hz2
  have hB0 : B ≤ w.heap.size := h.hB
  have h1 : BxAt (bxw w #[.slice Ao o.length co, .slice (some ⟨gp, 0, none⟩) (v.length + 1) cp, .slice (some ⟨gr, 0, none⟩) (v.length + 1) cr, .int .i64 (G : Int)] #[.int .i64 5, .int .i64 at_, .int .i64 stop, .int .u64 (wd f 0), .int .u64 (wd f 1), .int .u64 (wd f 2), .int .u64 (wd f 3), .int .i64 n, .int .i64 m]) B w.heap.size ⟨o, (p, r) :: v, G⟩ Ao co gp cp gr cr := bxw_box h _
  have HB0 := Lib.hid (bxw_below w B hB0 #[.slice Ao o.length co, .slice (some ⟨gp, 0, none⟩) (v.length + 1) cp, .slice (some ⟨gr, 0, none⟩) (v.length + 1) cr, .int .i64 (G : Int)] #[.int .i64 5, .int .i64 at_, .int .i64 stop, .int .u64 (wd f 0), .int .u64 (wd f 1), .int .u64 (wd f 2), .int .u64 (wd f 3), .int .i64 n, .int .i64 m])
  have F2 := h.free (b := w.heap.size + 2) (by omega)
  have d1 : gp ≠ w.heap.size := h1.free.2.1
  have d2 : gr ≠ w.heap.size := h1.free.2.2
  have d4 : gp ≠ w.heap.size + 2 := F2.2.1
  have d5 : gr ≠ w.heap.size + 2 := F2.2.2
  have HF2 := Lib.hid (show Free (w.heap.size + 2) Ao o.length co gp gr from F2)
  obtain ⟨c1, f1⟩ := h1.slab.facts
  obtain ⟨k0, k1, k2, k3⟩ := h1.st.tops
  have hlen := h1.lenR
  have O1 := Lib.hid (bxw_word w #[.slice Ao o.length co, .slice (some ⟨gp, 0, none⟩) (v.length + 1) cp, .slice (some ⟨gr, 0, none⟩) (v.length + 1) cr, .int .i64 (G : Int)] #[.int .i64 5, .int .i64 at_, .int .i64 stop, .int .u64 (wd f 0), .int .u64 (wd f 1), .int .u64 (wd f 2), .int .u64 (wd f 3), .int .i64 n, .int .i64 m])
  have O2 := Lib.hid (bxw_res w #[.slice Ao o.length co, .slice (some ⟨gp, 0, none⟩) (v.length + 1) cp, .slice (some ⟨gr, 0, none⟩) (v.length + 1) cr, .int .i64 (G : Int)] #[.int .i64 5, .int .i64 at_, .int .i64 stop, .int .u64 (wd f 0), .int .u64 (wd f 1), .int .u64 (wd f 2), .int .u64 (wd f 3), .int .i64 n, .int .i64 m])
  obtain ⟨cw, fw⟩ := O1.out.facts
  obtain ⟨c2, f2⟩ := O2.out.facts
  have hown1 : (bxw w #[.slice Ao o.length co, .slice (some ⟨gp, 0, none⟩) (v.length + 1) cp, .slice (some ⟨gr, 0, none⟩) (v.length + 1) cr, .int .i64 (G : Int)] #[.int .i64 5, .int .i64 at_, .int .i64 stop, .int .u64 (wd f 0), .int .u64 (wd f 1), .int .u64 (wd f 2), .int .u64 (wd f 3), .int .i64 n, .int .i64 m]).ownsRow B 51 8 (.slice Ao o.length co) o.length (flatD o) := h1.st.out
  have hsz1 : B ≤ (bxw w #[.slice Ao o.length co, .slice (some ⟨gp, 0, none⟩) (v.length + 1) cp, .slice (some ⟨gr, 0, none⟩) (v.length + 1) cr, .int .i64 (G : Int)] #[.int .i64 5, .int .i64 at_, .int .i64 stop, .int .u64 (wd f 0), .int .u64 (wd f 1), .int .u64 (wd f 2), .int .u64 (wd f 3), .int .i64 n, .int .i64 m]).heap.size := h1.st.hB
  have H1 := Lib.hid h1
  clear h1 h F2
  unfold psCells at c1
  simp only [List.length_cons] at c1 hlen
  obtain ⟨l1, l2, l3, l4⟩ := hlen
  show Calls Tryz.prog 54 #[.agg #[.slice Ao o.length co, .slice (some ⟨gp, 0, none⟩) (v.length + 1) cp, .slice (some ⟨gr, 0, none⟩) (v.length + 1) cr, .int .i64 (G : Int)], .agg #[.int .i64 5, .int .i64 at_, .int .i64 stop, .int .u64 (wd f 0), .int .u64 (wd f 1), .int .u64 (wd f 2), .int .u64 (wd f 3), .int .i64 n, .int .i64 m]] w _
  go_enter Tryz.func54, Tryz.ntmps54
  go_wp2_with (at_builtin; go_must (
    (refine wpList_append_elem_at _ ?g1 (.tmp 70) (.tmp 76) 28 ?g2 B 51 i0 ndZero7 8 64 ?g3 ?g4 ?g5 ?g6 ?g7 ?g8 ?g9 _ _ _ _ ?g10 hown1 ?gc ?gg ?g11 ?g12 ?g13 ?g14 ?g15 ?g16 ?g17 ?g18; (case g1 => rfl); (case g2 => rfl); (case g3 => exact Tryz.underlying28); (case g4 => exact HI.out); (case g5 => exact HZ0.out); (case g6 => exact HZ1.out); (case g7 => exact HZ2.out); (case g8 => rfl); (case g9 => decide); (case g10 => rfl); (case g12 => rfl); (case g11 => first | rfl | exact slice_at (by simp)); (case g13 => rfl); (case g14 => simp [Value.oneCell']); (case g15 => unfold maxLen; omega); (case g16 => omega); (case g17 => first | omega | (simp; omega)); intro A5 q5 w5 hown5 hbl5 has5)
    have hown5' : w5.ownsRow B 51 8 (.slice A5 (o.length + 1) q5) (o.length + 1) (flatD o ++ (ndCells (ndR n m)).toList) := by
      have e : ndCells (ndR n m) = #[.int .i64 4, .int .i64 1, .int .i64 n, .int .i64 m, .int .u64 0, .int .u64 0, .int .u64 0, .int .u64 0] := (by unfold ndCells; simp only [ndR, noSet, wd_zero]); rw [e]; exact hown5
    have h6 := H1.out.more (nd := ndR n m) hown5' has5 (Nat.le_trans H1.out.st.hB hbl5.size)
    obtain ⟨o5, hx5⟩ := has5 _ _ _ H1.out.slab H1.out.free.1
    obtain ⟨c5, f5⟩ := o5.facts
    have HB6 := Lib.hid (below_set (HB0.out.trans hbl5) h6.hg (i := 0) (.slice A5 (o.length + 1) q5))
    have h6' : BxAt (w5.setCell ⟨w.heap.size, 0, none⟩ (.slice A5 (o.length + 1) q5)) B w.heap.size ⟨o ++ [ndR n m], (p, r) :: v, G⟩ A5 q5 gp cp gr cr := h6
    obtain ⟨k60, k61, k62, k63⟩ := h6'.st.tops
    have H6 := Lib.hid h6'
    obtain ⟨o7, hx7⟩ := has5 _ _ _ O2.out HF2.out.1
    have HX7 := Lib.hid hx7; clear hx7
    have HAS := Lib.hid has5
    obtain ⟨c7, f7⟩ := o7.facts
    have O7 := Lib.hid (o7.far (b := w.heap.size) (i := 0) (by omega) (.slice A5 (o.length + 1) q5)); clear o7
    clear hbl5 has5 h6 h6' hown5 hown5' o5 c1 f1 k0 k1 k2 k3 hown1 c2 f2 cw fw
    unfold psCells at c5
    simp only [List.length_cons] at c5))
  have hl : (o ++ [ndR n m]).length = o.length + 1 := by simp
  have hfr : Fr w (w5.setCell ⟨w.heap.size, 0, none⟩ (.slice A5 (o.length + 1) q5)) o.length Ao co gp gr (o ++ [ndR n m]).length A5 q5 gp gr := by
    intro k cs t hk hf
    have hlt := hk.lt
    obtain ⟨g1, g2⟩ := HAS.out k cs t (bxw_slab hk) hf.1
    exact ⟨g1.far (by omega) _, by rw [hl]; exact g2, hf.2⟩
  obtain ⟨S1, S2⟩ := st_out (g := w.heap.size + 2) (H6.out.st) (O7.out) (⟨by show (Value.slice A5 (o ++ [ndR n m]).length q5).ownBlock ≠ _; rw [hl]; exact HX7.out, d4, d5⟩)
  simp only [List.length_cons, hl] at S1 S2
  refine bodyPost_ret (results_cell rfl rfl (load_slab (t := 57) (cs := psCells ⟨o ++ [ndR n m], (p, r) :: v, G⟩ A5 q5 gp cp gr cr) ?_ 57 Tryz.underlying57 rfl (by kernel_rfl))) rfl ⟨_, _, _, _, _, _, rfl, ?_, ?_, ?_⟩
  · exact S1
  · exact below_set (below_set (below_set (below_set (HB6.out) (by omega) _) (by omega) _) (by omega) _) (by omega) _
  · exact S2
  · intro k cs t hk hf
    have hlt := hk.lt
    obtain ⟨h1, h2⟩ := hfr k cs t hk hf
    exact ⟨(((h1.far (by omega) _).far (by omega) _).far (by omega) _).far (by omega) _, h2⟩
set_option maxRecDepth 100000 in
set_option maxHeartbeats 2000000 in
theorem rtake_bar {B : Nat} {o : List Nd} {p r : Nat} {v : List (Nat × Nat)} {G : Nat} {Ao : Option Addr} {co gp cp gr cr : Nat} {w : World} (h : StAt w B ⟨o, (p, r) :: v, G⟩ Ao co gp cp gr cr) (hn : o.length ≤ 1000000) (hv : v.length ≤ 1000000) (hp : p ≤ 1000000) (hr : r ≤ 1000000) (at_ stop n m : Int) (f : Nat → Bool) : Calls Tryz.prog 54 #[.agg (psCells ⟨o, (p, r) :: v, G⟩ Ao co gp cp gr cr), wdV ⟨4, at_, stop, f, n, m⟩] w (toSt B ⟨o, (p, r) :: v, G⟩ Ao co gp gr ⟨o ++ rowN p, (0, r + 1) :: v, G⟩ w) := by
  have hB0 : B ≤ w.heap.size := h.hB
  have h1 : BxAt (bxw w #[.slice Ao o.length co, .slice (some ⟨gp, 0, none⟩) (v.length + 1) cp, .slice (some ⟨gr, 0, none⟩) (v.length + 1) cr, .int .i64 (G : Int)] #[.int .i64 4, .int .i64 at_, .int .i64 stop, .int .u64 (wd f 0), .int .u64 (wd f 1), .int .u64 (wd f 2), .int .u64 (wd f 3), .int .i64 n, .int .i64 m]) B w.heap.size ⟨o, (p, r) :: v, G⟩ Ao co gp cp gr cr := bxw_box h _
  have HB0 := Lib.hid (bxw_below w B hB0 #[.slice Ao o.length co, .slice (some ⟨gp, 0, none⟩) (v.length + 1) cp, .slice (some ⟨gr, 0, none⟩) (v.length + 1) cr, .int .i64 (G : Int)] #[.int .i64 4, .int .i64 at_, .int .i64 stop, .int .u64 (wd f 0), .int .u64 (wd f 1), .int .u64 (wd f 2), .int .u64 (wd f 3), .int .i64 n, .int .i64 m])
  have F2 := h.free (b := w.heap.size + 2) (by omega)
  have d1 : gp ≠ w.heap.size := h1.free.2.1
  have d2 : gr ≠ w.heap.size := h1.free.2.2
  have d4 : gp ≠ w.heap.size + 2 := F2.2.1
  have d5 : gr ≠ w.heap.size + 2 := F2.2.2
  have HF2 := Lib.hid (show Free (w.heap.size + 2) Ao o.length co gp gr from F2)
  obtain ⟨c1, f1⟩ := h1.slab.facts
  obtain ⟨k0, k1, k2, k3⟩ := h1.st.tops
  have hlen := h1.lenR
  have O1 := Lib.hid (bxw_word w #[.slice Ao o.length co, .slice (some ⟨gp, 0, none⟩) (v.length + 1) cp, .slice (some ⟨gr, 0, none⟩) (v.length + 1) cr, .int .i64 (G : Int)] #[.int .i64 4, .int .i64 at_, .int .i64 stop, .int .u64 (wd f 0), .int .u64 (wd f 1), .int .u64 (wd f 2), .int .u64 (wd f 3), .int .i64 n, .int .i64 m])
  have O2 := Lib.hid (bxw_res w #[.slice Ao o.length co, .slice (some ⟨gp, 0, none⟩) (v.length + 1) cp, .slice (some ⟨gr, 0, none⟩) (v.length + 1) cr, .int .i64 (G : Int)] #[.int .i64 4, .int .i64 at_, .int .i64 stop, .int .u64 (wd f 0), .int .u64 (wd f 1), .int .u64 (wd f 2), .int .u64 (wd f 3), .int .i64 n, .int .i64 m])
  obtain ⟨cw, fw⟩ := O1.out.facts
  obtain ⟨c2, f2⟩ := O2.out.facts
  have hown1 : (bxw w #[.slice Ao o.length co, .slice (some ⟨gp, 0, none⟩) (v.length + 1) cp, .slice (some ⟨gr, 0, none⟩) (v.length + 1) cr, .int .i64 (G : Int)] #[.int .i64 4, .int .i64 at_, .int .i64 stop, .int .u64 (wd f 0), .int .u64 (wd f 1), .int .u64 (wd f 2), .int .u64 (wd f 3), .int .i64 n, .int .i64 m]).ownsRow B 51 8 (.slice Ao o.length co) o.length (flatD o) := h1.st.out
  have hsz1 : B ≤ (bxw w #[.slice Ao o.length co, .slice (some ⟨gp, 0, none⟩) (v.length + 1) cp, .slice (some ⟨gr, 0, none⟩) (v.length + 1) cr, .int .i64 (G : Int)] #[.int .i64 4, .int .i64 at_, .int .i64 stop, .int .u64 (wd f 0), .int .u64 (wd f 1), .int .u64 (wd f 2), .int .u64 (wd f 3), .int .i64 n, .int .i64 m]).heap.size := h1.st.hB
  have H1 := Lib.hid h1
  clear h1 h F2
  unfold psCells at c1
  simp only [List.length_cons] at c1 hlen
  obtain ⟨l1, l2, l3, l4⟩ := hlen
  have C := rrow_any H1.out.st hn hv hp hr
  have he : endRow ⟨o, (p, r) :: v, G⟩ = ⟨o ++ rowN p, (0, r + 1) :: v, G⟩ := rfl
  rw [he] at C
  generalize o ++ rowN p = q at *
  clear he
  have k1_ := k1
  clear k1
  unfold psCells at C
  simp only [List.length_cons] at C
  show Calls Tryz.prog 54 #[.agg #[.slice Ao o.length co, .slice (some ⟨gp, 0, none⟩) (v.length + 1) cp, .slice (some ⟨gr, 0, none⟩) (v.length + 1) cr, .int .i64 (G : Int)], .agg #[.int .i64 4, .int .i64 at_, .int .i64 stop, .int .u64 (wd f 0), .int .u64 (wd f 1), .int .u64 (wd f 2), .int .u64 (wd f 3), .int .i64 n, .int .i64 m]] w _
  go_enter Tryz.func54, Tryz.ntmps54
  go_wp2_with fail
  refine C.mono ?_
  rintro e1 w1 ⟨A1, k1, p1, q1, r1, s1, he1, hb1, hs1, hfr1⟩
  have he2 : e1 = .returned (.agg #[.slice A1 q.length k1, .slice (some ⟨p1, 0, none⟩) (v.length + 1) q1, .slice (some ⟨r1, 0, none⟩) (v.length + 1) s1, .int .i64 (G : Int)]) := he1
  clear he1
  subst he2
  obtain ⟨ob, fb⟩ := hfr1 _ _ _ H1.out.slab H1.out.free
  obtain ⟨or_, fr_⟩ := hfr1 _ _ _ O2.out HF2.out
  have hx0 := st_over hs1 ob rfl fb hB0
  have HX := Lib.hid (show BxAt ((((w1.setCell ⟨w.heap.size, 0, none⟩ (.slice A1 q.length k1)).setCell ⟨w.heap.size, 1, none⟩ (.slice (some ⟨p1, 0, none⟩) (v.length + 1) q1)).setCell ⟨w.heap.size, 2, none⟩ (.slice (some ⟨r1, 0, none⟩) (v.length + 1) s1)).setCell ⟨w.heap.size, 3, none⟩ (.int .i64 (G : Int))) B w.heap.size ⟨q, (0, r + 1) :: v, G⟩ A1 k1 p1 q1 r1 s1 from hx0)
  clear hx0
  have HB1 := Lib.hid (show Below B w ((((w1.setCell ⟨w.heap.size, 0, none⟩ (.slice A1 q.length k1)).setCell ⟨w.heap.size, 1, none⟩ (.slice (some ⟨p1, 0, none⟩) (v.length + 1) q1)).setCell ⟨w.heap.size, 2, none⟩ (.slice (some ⟨r1, 0, none⟩) (v.length + 1) s1)).setCell ⟨w.heap.size, 3, none⟩ (.int .i64 (G : Int))) from below_set (below_set (below_set (below_set (HB0.out.trans hb1) hB0 _) hB0 _) hB0 _) hB0 _)
  have HFR := Lib.hid (show Fr w ((((w1.setCell ⟨w.heap.size, 0, none⟩ (.slice A1 q.length k1)).setCell ⟨w.heap.size, 1, none⟩ (.slice (some ⟨p1, 0, none⟩) (v.length + 1) q1)).setCell ⟨w.heap.size, 2, none⟩ (.slice (some ⟨r1, 0, none⟩) (v.length + 1) s1)).setCell ⟨w.heap.size, 3, none⟩ (.int .i64 (G : Int))) o.length Ao co gp gr q.length A1 k1 p1 r1 from fun k cs t hk hf => by
    have hlt := hk.lt
    obtain ⟨h1, h2⟩ := hfr1 k cs t (bxw_slab hk) hf
    exact ⟨(((h1.far (by omega) _).far (by omega) _).far (by omega) _).far (by omega) _, h2⟩)
  have OR := Lib.hid (show Slab ((((w1.setCell ⟨w.heap.size, 0, none⟩ (.slice A1 q.length k1)).setCell ⟨w.heap.size, 1, none⟩ (.slice (some ⟨p1, 0, none⟩) (v.length + 1) q1)).setCell ⟨w.heap.size, 2, none⟩ (.slice (some ⟨r1, 0, none⟩) (v.length + 1) s1)).setCell ⟨w.heap.size, 3, none⟩ (.int .i64 (G : Int))) (w.heap.size + 2) #[.slice none 0 0, .slice none 0 0, .slice none 0 0, .int .i64 0] 57 from (((or_.far (by omega) _).far (by omega) _).far (by omega) _).far (by omega) _)
  have FR_ := Lib.hid fr_
  obtain ⟨cb, fb'⟩ := ob.facts
  unfold psCells at cb
  simp only [List.length_cons] at cb
  clear C hb1 hs1 hfr1 ob fb or_ fr_ c1 f1 k0 k1_ k2 k3 cw fw c2 f2 d1 d2 d4 d5 l1 l2 l3 l4
  go_upto_region 18 with fail
  generalize hW2 : ((((w1.setCell ⟨w.heap.size, 0, none⟩ (.slice A1 q.length k1)).setCell ⟨w.heap.size, 1, none⟩ (.slice (some ⟨p1, 0, none⟩) (v.length + 1) q1)).setCell ⟨w.heap.size, 2, none⟩ (.slice (some ⟨r1, 0, none⟩) (v.length + 1) s1)).setCell ⟨w.heap.size, 3, none⟩ (.int .i64 (G : Int))) = W2
  replace HX := Lib.hid (show BxAt W2 B w.heap.size ⟨q, (0, r + 1) :: v, G⟩ A1 k1 p1 q1 r1 s1 from by rw [← hW2]; exact HX.out)
  replace HB1 := Lib.hid (show Below B w W2 from by rw [← hW2]; exact HB1.out)
  replace HFR := Lib.hid (show Fr w W2 o.length Ao co gp gr q.length A1 k1 p1 r1 from by rw [← hW2]; exact HFR.out)
  replace OR := Lib.hid (show Slab W2 (w.heap.size + 2) #[.slice none 0 0, .slice none 0 0, .slice none 0 0, .int .i64 0] 57 from by rw [← hW2]; exact OR.out)
  clear hW2 cb fb'
  obtain ⟨cx, fx⟩ := HX.out.slab.facts
  obtain ⟨cy, fy⟩ := OR.out.facts
  unfold psCells at cx
  simp only [List.length_cons] at cx
  go_wp2
  obtain ⟨S1, S2⟩ := st_out (g := w.heap.size + 2) (HX.out.st) (OR.out) (FR_.out)
  simp only [List.length_cons, List.length_nil] at S1 S2
  refine bodyPost_ret (results_cell rfl rfl (load_slab (t := 57) (cs := psCells ⟨q, (0, r + 1) :: v, G⟩ A1 k1 p1 q1 r1 s1) ?_ 57 Tryz.underlying57 rfl (by kernel_rfl))) rfl ⟨_, _, _, _, _, _, rfl, ?_, ?_, ?_⟩
  · exact S1
  · exact below_set (below_set (below_set (below_set (HB1.out) (by omega) _) (by omega) _) (by omega) _) (by omega) _
  · exact S2
  · intro k cs t hk hf
    have hlt := hk.lt
    obtain ⟨h1, h2⟩ := HFR.out k cs t hk hf
    exact ⟨(((h1.far (by omega) _).far (by omega) _).far (by omega) _).far (by omega) _, h2⟩
set_option maxRecDepth 100000 in
set_option maxHeartbeats 2000000 in
theorem rtake_shut {B : Nat} {o : List Nd} {p r p' r' : Nat} {v : List (Nat × Nat)} {G : Nat} {Ao : Option Addr} {co gp cp gr cr : Nat} {w : World} (h : StAt w B ⟨o, (p, r) :: (p', r') :: v, G⟩ Ao co gp cp gr cr)
    (hn : o.length ≤ 1000000) (hv : v.length ≤ 1000000) (hp : p ≤ 1000000) (hr : r ≤ 1000000) (at_ stop n m : Int) (f : Nat → Bool) (hp' : p' ≤ 1000000) (hv2 : v.length ≤ 900000) : Calls Tryz.prog 54 #[.agg (psCells ⟨o, (p, r) :: (p', r') :: v, G⟩ Ao co gp cp gr cr), wdV ⟨3, at_, stop, f, n, m⟩] w (toSt B ⟨o, (p, r) :: (p', r') :: v, G⟩ Ao co gp gr ⟨o ++ rowN p ++ rowsN (r + 1) ++ [ndG], (p' + 1, r') :: v, G⟩ w) := by
  obtain ⟨i0, hi, hz0, hz1, hz2⟩ := info_parts info_node7
  have HI := Lib.hid hi; clear hi
  have HZ0 := Lib.hid hz0; clear hz0
  have HZ1 := Lib.hid hz1; clear hz1
  have HZ2 := Lib.hid hz2; clear hz2
  have hB0 : B ≤ w.heap.size := h.hB
  have h1 : BxAt (bxw w #[.slice Ao o.length co, .slice (some ⟨gp, 0, none⟩) (v.length + 1 + 1) cp, .slice (some ⟨gr, 0, none⟩) (v.length + 1 + 1) cr, .int .i64 (G : Int)] #[.int .i64 3, .int .i64 at_, .int .i64 stop, .int .u64 (wd f 0), .int .u64 (wd f 1), .int .u64 (wd f 2), .int .u64 (wd f 3), .int .i64 n, .int .i64 m]) B w.heap.size ⟨o, (p, r) :: (p', r') :: v, G⟩ Ao co gp cp gr cr := bxw_box h _
  have HB0 := Lib.hid (bxw_below w B hB0 #[.slice Ao o.length co, .slice (some ⟨gp, 0, none⟩) (v.length + 1 + 1) cp, .slice (some ⟨gr, 0, none⟩) (v.length + 1 + 1) cr, .int .i64 (G : Int)] #[.int .i64 3, .int .i64 at_, .int .i64 stop, .int .u64 (wd f 0), .int .u64 (wd f 1), .int .u64 (wd f 2), .int .u64 (wd f 3), .int .i64 n, .int .i64 m])
  have F2 := h.free (b := w.heap.size + 2) (by omega)
  have d1 : gp ≠ w.heap.size := h1.free.2.1
  have d2 : gr ≠ w.heap.size := h1.free.2.2
  have d4 : gp ≠ w.heap.size + 2 := F2.2.1
  have d5 : gr ≠ w.heap.size + 2 := F2.2.2
  have HF2 := Lib.hid (show Free (w.heap.size + 2) Ao o.length co gp gr from F2)
  obtain ⟨c1, f1⟩ := h1.slab.facts
  obtain ⟨k0, k1, k2, k3⟩ := h1.st.tops
  have hlen := h1.lenR
  have O1 := Lib.hid (bxw_word w #[.slice Ao o.length co, .slice (some ⟨gp, 0, none⟩) (v.length + 1 + 1) cp, .slice (some ⟨gr, 0, none⟩) (v.length + 1 + 1) cr, .int .i64 (G : Int)] #[.int .i64 3, .int .i64 at_, .int .i64 stop, .int .u64 (wd f 0), .int .u64 (wd f 1), .int .u64 (wd f 2), .int .u64 (wd f 3), .int .i64 n, .int .i64 m])
  have O2 := Lib.hid (bxw_res w #[.slice Ao o.length co, .slice (some ⟨gp, 0, none⟩) (v.length + 1 + 1) cp, .slice (some ⟨gr, 0, none⟩) (v.length + 1 + 1) cr, .int .i64 (G : Int)] #[.int .i64 3, .int .i64 at_, .int .i64 stop, .int .u64 (wd f 0), .int .u64 (wd f 1), .int .u64 (wd f 2), .int .u64 (wd f 3), .int .i64 n, .int .i64 m])
  obtain ⟨cw, fw⟩ := O1.out.facts
  obtain ⟨c2, f2⟩ := O2.out.facts
  have hown1 : (bxw w #[.slice Ao o.length co, .slice (some ⟨gp, 0, none⟩) (v.length + 1 + 1) cp, .slice (some ⟨gr, 0, none⟩) (v.length + 1 + 1) cr, .int .i64 (G : Int)] #[.int .i64 3, .int .i64 at_, .int .i64 stop, .int .u64 (wd f 0), .int .u64 (wd f 1), .int .u64 (wd f 2), .int .u64 (wd f 3), .int .i64 n, .int .i64 m]).ownsRow B 51 8 (.slice Ao o.length co) o.length (flatD o) := h1.st.out
  have hsz1 : B ≤ (bxw w #[.slice Ao o.length co, .slice (some ⟨gp, 0, none⟩) (v.length + 1 + 1) cp, .slice (some ⟨gr, 0, none⟩) (v.length + 1 + 1) cr, .int .i64 (G : Int)] #[.int .i64 3, .int .i64 at_, .int .i64 stop, .int .u64 (wd f 0), .int .u64 (wd f 1), .int .u64 (wd f 2), .int .u64 (wd f 3), .int .i64 n, .int .i64 m]).heap.size := h1.st.hB
  have H1 := Lib.hid h1
  clear h1 h F2
  unfold psCells at c1
  simp only [List.length_cons] at c1 hlen
  obtain ⟨l1, l2, l3, l4⟩ := hlen
  have C := rrows_any H1.out.st hn (by simp; omega) hp hr
  have he : endRows ⟨o, (p, r) :: (p', r') :: v, G⟩ = ⟨o ++ rowN p ++ rowsN (r + 1), (p', r') :: v, G⟩ := rfl
  rw [he] at C
  have hn2 : (o ++ rowN p ++ rowsN (r + 1)).length ≤ 1000002 := by
    have l1 := rowN_le p
    have l2 := rowsN_le (r + 1)
    rw [List.length_append, List.length_append]; omega
  generalize o ++ rowN p ++ rowsN (r + 1) = q at *
  clear he
  have k1_ := k1
  clear k1
  unfold psCells at C
  simp only [List.length_cons] at C
  show Calls Tryz.prog 54 #[.agg #[.slice Ao o.length co, .slice (some ⟨gp, 0, none⟩) (v.length + 1 + 1) cp, .slice (some ⟨gr, 0, none⟩) (v.length + 1 + 1) cr, .int .i64 (G : Int)], .agg #[.int .i64 3, .int .i64 at_, .int .i64 stop, .int .u64 (wd f 0), .int .u64 (wd f 1), .int .u64 (wd f 2), .int .u64 (wd f 3), .int .i64 n, .int .i64 m]] w _
  go_enter Tryz.func54, Tryz.ntmps54
  go_wp2_with fail
  refine C.mono ?_
  rintro e1 w1 ⟨A1, k1, p1, q1, r1, s1, he1, hb1, hs1, hfr1⟩
  have he2 : e1 = .returned (.agg #[.slice A1 q.length k1, .slice (some ⟨p1, 0, none⟩) (v.length + 1) q1, .slice (some ⟨r1, 0, none⟩) (v.length + 1) s1, .int .i64 (G : Int)]) := he1
  clear he1
  subst he2
  obtain ⟨ob, fb⟩ := hfr1 _ _ _ H1.out.slab H1.out.free
  obtain ⟨or_, fr_⟩ := hfr1 _ _ _ O2.out HF2.out
  have hx0 := st_over hs1 ob rfl fb hB0
  have HX := Lib.hid (show BxAt ((((w1.setCell ⟨w.heap.size, 0, none⟩ (.slice A1 q.length k1)).setCell ⟨w.heap.size, 1, none⟩ (.slice (some ⟨p1, 0, none⟩) (v.length + 1) q1)).setCell ⟨w.heap.size, 2, none⟩ (.slice (some ⟨r1, 0, none⟩) (v.length + 1) s1)).setCell ⟨w.heap.size, 3, none⟩ (.int .i64 (G : Int))) B w.heap.size ⟨q, (p', r') :: v, G⟩ A1 k1 p1 q1 r1 s1 from hx0)
  clear hx0
  have HB1 := Lib.hid (show Below B w ((((w1.setCell ⟨w.heap.size, 0, none⟩ (.slice A1 q.length k1)).setCell ⟨w.heap.size, 1, none⟩ (.slice (some ⟨p1, 0, none⟩) (v.length + 1) q1)).setCell ⟨w.heap.size, 2, none⟩ (.slice (some ⟨r1, 0, none⟩) (v.length + 1) s1)).setCell ⟨w.heap.size, 3, none⟩ (.int .i64 (G : Int))) from below_set (below_set (below_set (below_set (HB0.out.trans hb1) hB0 _) hB0 _) hB0 _) hB0 _)
  have HFR := Lib.hid (show Fr w ((((w1.setCell ⟨w.heap.size, 0, none⟩ (.slice A1 q.length k1)).setCell ⟨w.heap.size, 1, none⟩ (.slice (some ⟨p1, 0, none⟩) (v.length + 1) q1)).setCell ⟨w.heap.size, 2, none⟩ (.slice (some ⟨r1, 0, none⟩) (v.length + 1) s1)).setCell ⟨w.heap.size, 3, none⟩ (.int .i64 (G : Int))) o.length Ao co gp gr q.length A1 k1 p1 r1 from fun k cs t hk hf => by
    have hlt := hk.lt
    obtain ⟨h1, h2⟩ := hfr1 k cs t (bxw_slab hk) hf
    exact ⟨(((h1.far (by omega) _).far (by omega) _).far (by omega) _).far (by omega) _, h2⟩)
  have OR := Lib.hid (show Slab ((((w1.setCell ⟨w.heap.size, 0, none⟩ (.slice A1 q.length k1)).setCell ⟨w.heap.size, 1, none⟩ (.slice (some ⟨p1, 0, none⟩) (v.length + 1) q1)).setCell ⟨w.heap.size, 2, none⟩ (.slice (some ⟨r1, 0, none⟩) (v.length + 1) s1)).setCell ⟨w.heap.size, 3, none⟩ (.int .i64 (G : Int))) (w.heap.size + 2) #[.slice none 0 0, .slice none 0 0, .slice none 0 0, .int .i64 0] 57 from (((or_.far (by omega) _).far (by omega) _).far (by omega) _).far (by omega) _)
  have FR_ := Lib.hid fr_
  obtain ⟨cb, fb'⟩ := ob.facts
  unfold psCells at cb
  simp only [List.length_cons] at cb
  clear C hb1 hs1 hfr1 ob fb or_ fr_ c1 f1 k0 k1_ k2 k3 cw fw c2 f2 d1 d2 d4 d5 l1 l2 l3 l4
  go_upto_region 12 with fail
  generalize hW2 : ((((w1.setCell ⟨w.heap.size, 0, none⟩ (.slice A1 q.length k1)).setCell ⟨w.heap.size, 1, none⟩ (.slice (some ⟨p1, 0, none⟩) (v.length + 1) q1)).setCell ⟨w.heap.size, 2, none⟩ (.slice (some ⟨r1, 0, none⟩) (v.length + 1) s1)).setCell ⟨w.heap.size, 3, none⟩ (.int .i64 (G : Int))) = W2
  replace HX := Lib.hid (show BxAt W2 B w.heap.size ⟨q, (p', r') :: v, G⟩ A1 k1 p1 q1 r1 s1 from by rw [← hW2]; exact HX.out)
  replace HB1 := Lib.hid (show Below B w W2 from by rw [← hW2]; exact HB1.out)
  replace HFR := Lib.hid (show Fr w W2 o.length Ao co gp gr q.length A1 k1 p1 r1 from by rw [← hW2]; exact HFR.out)
  replace OR := Lib.hid (show Slab W2 (w.heap.size + 2) #[.slice none 0 0, .slice none 0 0, .slice none 0 0, .int .i64 0] 57 from by rw [← hW2]; exact OR.out)
  clear hW2 cb fb'
  obtain ⟨cx, fx⟩ := HX.out.slab.facts
  obtain ⟨cy, fy⟩ := OR.out.facts
  unfold psCells at cx
  simp only [List.length_cons] at cx
  obtain ⟨kx0, kx1, kx2, kx3⟩ := HX.out.st.tops
  obtain ⟨l1, l2, l3, l4⟩ := HX.out.lenR
  simp only [List.length_cons] at l1 l2
  have d1 : p1 ≠ w.heap.size := HX.out.free.2.1
  have d2 : r1 ≠ w.heap.size := HX.out.free.2.2
  have d4 : p1 ≠ w.heap.size + 2 := FR_.out.2.1
  have d5 : r1 ≠ w.heap.size + 2 := FR_.out.2.2
  have hown2 : W2.ownsRow B 51 8 (.slice A1 q.length k1) q.length (flatD q) := HX.out.st.out
  have hsz2 : B ≤ W2.heap.size := HX.out.st.hB
  go_wp2_with (at_builtin; go_must (
    (refine wpList_append_elem_at _ ?g1 (.tmp 50) (.tmp 52) 28 ?g2 B 51 i0 ndZero7 8 64 ?g3 ?g4 ?g5 ?g6 ?g7 ?g8 ?g9 _ _ _ _ ?g10 hown2 ?gc ?gg ?g11 ?g12 ?g13 ?g14 ?g15 ?g16 ?g17 ?g18; (case g1 => rfl); (case g2 => rfl); (case g3 => exact Tryz.underlying28); (case g4 => exact HI.out); (case g5 => exact HZ0.out); (case g6 => exact HZ1.out); (case g7 => exact HZ2.out); (case g8 => rfl); (case g9 => decide); (case g10 => rfl); (case g12 => rfl); (case g11 => first | rfl | exact slice_at (by simp)); (case g13 => rfl); (case g14 => simp [Value.oneCell']); (case g15 => unfold maxLen; omega); (case g16 => omega); (case g17 => first | omega | (simp; omega)); intro A5 q5 w5 hown5 hbl5 has5)
    have hown5' : w5.ownsRow B 51 8 (.slice A5 (q.length + 1) q5) (q.length + 1) (flatD q ++ (ndCells ndG).toList) := by
      have e := nd_lit 3 1
      show w5.ownsRow _ _ _ _ _ (flatD q ++ (ndCells ⟨3, 1, 0, 0, noSet⟩).toList)
      rw [e]; exact hown5
    have h6 := HX.out.more (nd := ndG) hown5' has5 (Nat.le_trans HX.out.st.hB hbl5.size)
    obtain ⟨o5, hx5⟩ := has5 _ _ _ HX.out.slab HX.out.free.1
    obtain ⟨c5, f5⟩ := o5.facts
    have HB6 := Lib.hid (below_set (HB1.out.trans hbl5) h6.hg (i := 0) (.slice A5 (q.length + 1) q5))
    have h6' : BxAt (w5.setCell ⟨w.heap.size, 0, none⟩ (.slice A5 (q.length + 1) q5)) B w.heap.size ⟨q ++ [ndG], (p', r') :: v, G⟩ A5 q5 p1 q1 r1 s1 := h6
    obtain ⟨k60, k61, k62, k63⟩ := h6'.st.tops
    have H6 := Lib.hid h6'
    obtain ⟨o7, hx7⟩ := has5 _ _ _ OR.out FR_.out.1
    have HX7 := Lib.hid hx7; clear hx7
    have HAS := Lib.hid has5
    obtain ⟨c7, f7⟩ := o7.facts
    have O7 := Lib.hid (o7.far (b := w.heap.size) (i := 0) (by omega) (.slice A5 (q.length + 1) q5)); clear o7
    clear hbl5 has5 h6 h6' hown5 hown5' o5 cx fx cy fy kx0 kx1 kx2 kx3 hown2
    unfold psCells at c5
    simp only [List.length_cons] at c5))
  have hl : (q ++ [ndG]).length = q.length + 1 := by simp
  have HE := H6.out.poke0 (p' + 1)
  have hfr : Fr w ((w5.setCell ⟨w.heap.size, 0, none⟩ (.slice A5 (q.length + 1) q5)).setCell ⟨p1, v.length, none⟩ (.int .i64 ((p' + 1 : Nat) : Int))) o.length Ao co gp gr (q ++ [ndG]).length A5 q5 p1 r1 := by
    intro k cs t hk hf
    have hlt := hk.lt
    obtain ⟨g1, g2⟩ := HFR.out k cs t hk hf
    obtain ⟨g3, g4⟩ := HAS.out k cs t g1 g2.1
    exact ⟨(g3.far (by omega) _).far (fun e => g2.2.1 e.symm) _, by rw [hl]; exact g4, g2.2⟩
  obtain ⟨S1, S2⟩ := st_out (g := w.heap.size + 2) (HE.st) (O7.out.far (fun e => d4 e.symm) _) (⟨by show (Value.slice A5 (q ++ [ndG]).length q5).ownBlock ≠ _; rw [hl]; exact HX7.out, d4, d5⟩)
  simp only [List.length_cons, hl] at S1 S2
  refine bodyPost_ret (results_cell rfl rfl (load_slab (t := 57) (cs := psCells ⟨q ++ [ndG], (p' + 1, r') :: v, G⟩ A5 q5 p1 q1 r1 s1) ?_ 57 Tryz.underlying57 rfl (by kernel_rfl))) rfl ⟨_, _, _, _, _, _, rfl, ?_, ?_, ?_⟩
  · exact S1
  · exact below_set (below_set (below_set (below_set (below_set HB6.out l3 _) (by omega) _) (by omega) _) (by omega) _) (by omega) _
  · exact S2
  · intro k cs t hk hf
    have hlt := hk.lt
    obtain ⟨h1, h2⟩ := hfr k cs t hk hf
    exact ⟨(((h1.far (by omega) _).far (by omega) _).far (by omega) _).far (by omega) _, h2⟩
end Go.Proofs.YtfcgmgpcbenfpaaGreat

/- Walks of the document's parser: a group opens. -/
namespace Go.Proofs.YtfcgmgpcbenfpaaGreat
open Go.RowKit SetP BrkP LexP AstP ParP
set_option maxRecDepth 100000 in
set_option maxHeartbeats 2000000 in
theorem rtake_opn {B : Nat} {o : List Nd} {p r : Nat} {v : List (Nat × Nat)} {G : Nat} {Ao : Option Addr} {co gp cp gr cr : Nat} {w : World} (h : StAt w B ⟨o, (p, r) :: v, G⟩ Ao co gp cp gr cr) (hn : o.length ≤ 1000000) (hv : v.length ≤ 1000000) (hp : p ≤ 1000000) (hr : r ≤ 1000000) (at_ stop n m : Int) (f : Nat → Bool) (hG : G ≤ 1000000) : Calls Tryz.prog 54 #[.agg (psCells ⟨o, (p, r) :: v, G⟩ Ao co gp cp gr cr), wdV ⟨2, at_, stop, f, n, m⟩] w (toSt B ⟨o, (p, r) :: v, G⟩ Ao co gp gr ⟨o, (0, 0) :: (p, r) :: v, G + 1⟩ w) := by
  obtain ⟨i0, hi, hz0, hz1, hz2⟩ := info_parts info_int7
  have HI := Lib.hid hi; clear hi
  have HZ0 := Lib.hid hz0; clear hz0
  have HZ1 := Lib.hid hz1; clear hz1
  have HZ2 := Lib.hid hz2; clear hz2
  have hownp : (bxw w #[.slice Ao o.length co, .slice (some ⟨gp, 0, none⟩) (v.length + 1) cp, .slice (some ⟨gr, 0, none⟩) (v.length + 1) cr, .int .i64 (G : Int)] #[.int .i64 2, .int .i64 at_, .int .i64 stop, .int .u64 (wd f 0), .int .u64 (wd f 1), .int .u64 (wd f 2), .int .u64 (wd f 3), .int .i64 n, .int .i64 m]).ownsRow B 3 1 (.slice (some ⟨gp, 0, none⟩) (v.length + 1) cp) (v.length + 1) (pcV ((p, r) :: v)) := (bxw_box h #[.int .i64 2, .int .i64 at_, .int .i64 stop, .int .u64 (wd f 0), .int .u64 (wd f 1), .int .u64 (wd f 2), .int .u64 (wd f 3), .int .i64 n, .int .i64 m]).st.pc
  have hne := h.ne
  have ha1 := h.a1
  have ha2 := h.a2
  have HNE := Lib.hid hne
  have HA1 := Lib.hid ha1
  have HA2 := Lib.hid ha2
  clear hne ha1 ha2
  have hB0 : B ≤ w.heap.size := h.hB
  have h1 : BxAt (bxw w #[.slice Ao o.length co, .slice (some ⟨gp, 0, none⟩) (v.length + 1) cp, .slice (some ⟨gr, 0, none⟩) (v.length + 1) cr, .int .i64 (G : Int)] #[.int .i64 2, .int .i64 at_, .int .i64 stop, .int .u64 (wd f 0), .int .u64 (wd f 1), .int .u64 (wd f 2), .int .u64 (wd f 3), .int .i64 n, .int .i64 m]) B w.heap.size ⟨o, (p, r) :: v, G⟩ Ao co gp cp gr cr := bxw_box h _
  have HB0 := Lib.hid (bxw_below w B hB0 #[.slice Ao o.length co, .slice (some ⟨gp, 0, none⟩) (v.length + 1) cp, .slice (some ⟨gr, 0, none⟩) (v.length + 1) cr, .int .i64 (G : Int)] #[.int .i64 2, .int .i64 at_, .int .i64 stop, .int .u64 (wd f 0), .int .u64 (wd f 1), .int .u64 (wd f 2), .int .u64 (wd f 3), .int .i64 n, .int .i64 m])
  have F2 := h.free (b := w.heap.size + 2) (by omega)
  have d1 : gp ≠ w.heap.size := h1.free.2.1
  have d2 : gr ≠ w.heap.size := h1.free.2.2
  have d4 : gp ≠ w.heap.size + 2 := F2.2.1
  have d5 : gr ≠ w.heap.size + 2 := F2.2.2
  have HF2 := Lib.hid (show Free (w.heap.size + 2) Ao o.length co gp gr from F2)
  obtain ⟨c1, f1⟩ := h1.slab.facts
  obtain ⟨k0, k1, k2, k3⟩ := h1.st.tops
  have hlen := h1.lenR
  have O1 := Lib.hid (bxw_word w #[.slice Ao o.length co, .slice (some ⟨gp, 0, none⟩) (v.length + 1) cp, .slice (some ⟨gr, 0, none⟩) (v.length + 1) cr, .int .i64 (G : Int)] #[.int .i64 2, .int .i64 at_, .int .i64 stop, .int .u64 (wd f 0), .int .u64 (wd f 1), .int .u64 (wd f 2), .int .u64 (wd f 3), .int .i64 n, .int .i64 m])
  have O2 := Lib.hid (bxw_res w #[.slice Ao o.length co, .slice (some ⟨gp, 0, none⟩) (v.length + 1) cp, .slice (some ⟨gr, 0, none⟩) (v.length + 1) cr, .int .i64 (G : Int)] #[.int .i64 2, .int .i64 at_, .int .i64 stop, .int .u64 (wd f 0), .int .u64 (wd f 1), .int .u64 (wd f 2), .int .u64 (wd f 3), .int .i64 n, .int .i64 m])
  obtain ⟨cw, fw⟩ := O1.out.facts
  obtain ⟨c2, f2⟩ := O2.out.facts
  have hown1 : (bxw w #[.slice Ao o.length co, .slice (some ⟨gp, 0, none⟩) (v.length + 1) cp, .slice (some ⟨gr, 0, none⟩) (v.length + 1) cr, .int .i64 (G : Int)] #[.int .i64 2, .int .i64 at_, .int .i64 stop, .int .u64 (wd f 0), .int .u64 (wd f 1), .int .u64 (wd f 2), .int .u64 (wd f 3), .int .i64 n, .int .i64 m]).ownsRow B 51 8 (.slice Ao o.length co) o.length (flatD o) := h1.st.out
  have hsz1 : B ≤ (bxw w #[.slice Ao o.length co, .slice (some ⟨gp, 0, none⟩) (v.length + 1) cp, .slice (some ⟨gr, 0, none⟩) (v.length + 1) cr, .int .i64 (G : Int)] #[.int .i64 2, .int .i64 at_, .int .i64 stop, .int .u64 (wd f 0), .int .u64 (wd f 1), .int .u64 (wd f 2), .int .u64 (wd f 3), .int .i64 n, .int .i64 m]).heap.size := h1.st.hB
  have H1 := Lib.hid h1
  clear h1 h F2
  unfold psCells at c1
  simp only [List.length_cons] at c1 hlen
  obtain ⟨l1, l2, l3, l4⟩ := hlen
  clear hown1
  show Calls Tryz.prog 54 #[.agg #[.slice Ao o.length co, .slice (some ⟨gp, 0, none⟩) (v.length + 1) cp, .slice (some ⟨gr, 0, none⟩) (v.length + 1) cr, .int .i64 (G : Int)], .agg #[.int .i64 2, .int .i64 at_, .int .i64 stop, .int .u64 (wd f 0), .int .u64 (wd f 1), .int .u64 (wd f 2), .int .u64 (wd f 3), .int .i64 n, .int .i64 m]] w _
  go_enter Tryz.func54, Tryz.ntmps54
  go_upto_region 8 with (at_builtin; go_must (
    (refine wpList_append_elem_at _ ?g1 (.tmp 32) (.tmp 33) 55 ?g2 B 3 i0 (.int .i64 0) 1 8 ?g3 ?g4 ?g5 ?g6 ?g7 ?g8 ?g9 _ _ _ _ ?g10 hownp ?gc ?gg ?g11 ?g12 ?g13 ?g14 ?g15 ?g16 ?g17 ?g18; (case g1 => rfl); (case g2 => rfl); (case g3 => exact Tryz.underlying55); (case g4 => exact HI.out); (case g5 => exact HZ0.out); (case g6 => exact HZ1.out); (case g7 => exact HZ2.out); (case g8 => rfl); (case g9 => decide); (case g10 => rfl); (case g12 => rfl); (case g11 => first | rfl | exact slice_at (by simp)); (case g13 => rfl); (case g14 => simp [Value.oneCell']); (case g15 => unfold maxLen; omega); (case g16 => omega); (case g17 => first | omega | (simp; omega)); intro A5 q5 w5 hown5 hbl5 has5)
    obtain ⟨o5, hx5⟩ := has5 _ _ _ H1.out.slab (fun e => d1 (by injection e))
    obtain ⟨o7, hx7⟩ := has5 _ _ _ O2.out (fun e => d4 (by injection e))
    obtain ⟨rw5, ap5⟩ := row_aside H1.out.st.rw_ has5 (fun k hk hg => HNE.out ((Option.some.inj hk).trans (Option.some.inj hg).symm))
    obtain ⟨out5, ap6⟩ := row_aside H1.out.st.out has5 (fun k hk hg => HA1.out (hg.trans hk.symm))
    obtain ⟨c5, f5⟩ := o5.facts
    obtain ⟨c7, f7⟩ := o7.facts
    have HO5 := Lib.hid o5
    have HO7 := Lib.hid o7
    have HB5 := Lib.hid (HB0.out.trans hbl5)
    have HAS := Lib.hid has5
    have HOWN5 := Lib.hid hown5
    have HRW5 := Lib.hid rw5
    have HOUT5 := Lib.hid out5
    have HAP5 := Lib.hid ap5
    have HAP6 := Lib.hid ap6
    have HX5 := Lib.hid hx5
    have HX7 := Lib.hid hx7
    clear o5 o7 hx5 hx7 rw5 ap5 out5 ap6 has5 hown5 hbl5 c1 f1 c2 f2 cw fw k0 k1 k2 k3 hownp
    unfold psCells at c5
    simp only [List.length_cons] at c5))
  obtain ⟨g5, rfl, _⟩ := row_cell HOWN5.out (Nat.succ_pos _)
  have e1 : g5 ≠ w.heap.size := fun e => HX5.out (by rw [e]; rfl)
  have e2 : g5 ≠ w.heap.size + 2 := fun e => HX7.out (by rw [e]; rfl)
  have e3 : g5 ≠ gr := fun e => HAP5.out g5 rfl (by rw [e]; rfl)
  have e4 : (Value.slice Ao o.length co).ownBlock ≠ some g5 := fun e => HAP6.out g5 rfl e
  generalize hW6 : w5.setCell ⟨w.heap.size, 1, none⟩ (.slice (some ⟨g5, 0, none⟩) (v.length + 1 + 1) q5) = W6
  have s6 : Slab W6 w.heap.size #[.slice Ao o.length co, .slice (some ⟨g5, 0, none⟩) (v.length + 1 + 1) q5, .slice (some ⟨gr, 0, none⟩) (v.length + 1) cr, .int .i64 (G : Int)] 57 := by rw [← hW6]; exact HO5.out.set 1 _
  have P6 := Lib.hid (show W6.ownsRow B 3 1 (.slice (some ⟨g5, 0, none⟩) (v.length + 1 + 1) q5) (v.length + 1 + 1) (pcV ((0, 0) :: (p, r) :: v)) from by rw [← hW6, pcV_cons]; exact row_far HOWN5.out HX5.out _ _)
  have r6 : W6.ownsRow B 3 1 (.slice (some ⟨gr, 0, none⟩) (v.length + 1) cr) (v.length + 1) (rwV ((p, r) :: v)) := by rw [← hW6]; exact row_far HRW5.out (fun e => d2 (Option.some.inj e)) _ _
  have N6 := Lib.hid (show W6.ownsRow B 51 8 (.slice Ao o.length co) o.length (flatD o) from by rw [← hW6]; exact row_far HOUT5.out H1.out.free.1 _ _)
  have q6 : Slab W6 (w.heap.size + 2) #[.slice none 0 0, .slice none 0 0, .slice none 0 0, .int .i64 0] 57 := by rw [← hW6]; exact HO7.out.far (by omega) _
  have B6 := Lib.hid (show Below B w W6 from by rw [← hW6]; exact below_set HB5.out hB0 _)
  have F6 := Lib.hid (show ∀ (k : Nat) (cs : Array Value) (t : TypeId), Slab w k cs t → Free k Ao o.length co gp gr → Slab W6 k cs t ∧ g5 ≠ k from fun k cs t hk hf => by
    have hlt := hk.lt
    obtain ⟨a1, a2⟩ := HAS.out k cs t (bxw_slab hk) (fun e => hf.2.1 (Option.some.inj e))
    rw [← hW6]
    exact ⟨a1.far (by omega) _, fun e => a2 (by rw [e]; rfl)⟩)
  have hsz6 : B ≤ W6.heap.size := by have := B6.out.size; omega
  clear hW6 c5 f5 c7 f7 HOWN5 HRW5 HOUT5 HO5 HO7 HAS HB5 HAP5 HAP6 HX5 HX7
  obtain ⟨c6, f6⟩ := s6.facts
  obtain ⟨c7, f7⟩ := q6.facts
  have S6 := Lib.hid s6
  have Q6 := Lib.hid q6
  clear s6 q6
  go_upto_region 18 with (at_builtin; go_must (
    (refine wpList_append_elem_at _ ?k1 (.tmp 37) (.tmp 38) 55 ?k2 B 3 i0 (.int .i64 0) 1 8 ?k3 ?k4 ?k5 ?k6 ?k7 ?k8 ?k9 _ _ _ _ ?k10 r6 ?kc ?kg ?k11 ?k12 ?k13 ?k14 ?k15 ?k16 ?k17 ?k18; (case k1 => rfl); (case k2 => rfl); (case k3 => exact Tryz.underlying55); (case k4 => exact HI.out); (case k5 => exact HZ0.out); (case k6 => exact HZ1.out); (case k7 => exact HZ2.out); (case k8 => rfl); (case k9 => decide); (case k10 => rfl); (case k12 => rfl); (case k11 => first | rfl | exact slice_at (by simp)); (case k13 => rfl); (case k14 => simp [Value.oneCell']); (case k15 => unfold maxLen; omega); (case k16 => omega); (case k17 => first | omega | (simp; omega)); intro A8 q8 w8 hown8 hbl8 has8)
    obtain ⟨o8, hx8⟩ := has8 _ _ _ S6.out (fun e => d2 (Option.some.inj e))
    obtain ⟨o9, hx9⟩ := has8 _ _ _ Q6.out (fun e => d5 (Option.some.inj e))
    obtain ⟨p8, ap8⟩ := row_aside P6.out has8 (fun k hk hg => e3 ((Option.some.inj hg).trans (Option.some.inj hk).symm))
    obtain ⟨n8, ap9⟩ := row_aside N6.out has8 (fun k hk hg => HA2.out (hg.trans hk.symm))
    obtain ⟨c8, f8⟩ := o8.facts
    have HO8 := Lib.hid o8
    have HO9 := Lib.hid o9
    have HP8 := Lib.hid p8
    have HN8 := Lib.hid n8
    have HAP8 := Lib.hid ap8
    have HAP9 := Lib.hid ap9
    have HX8 := Lib.hid hx8
    have HX9 := Lib.hid hx9
    have HAS := Lib.hid has8
    have HOWN8 := Lib.hid hown8
    have HB8 := Lib.hid (B6.out.trans hbl8)
    clear o8 hx8 o9 hx9 p8 ap8 n8 ap9 has8 hown8 hbl8 c6 f6 c7 f7 r6))
  obtain ⟨g8, rfl, _⟩ := row_cell HOWN8.out (Nat.succ_pos _)
  have e5 : g8 ≠ w.heap.size := fun e => HX8.out (by rw [e]; rfl)
  have e6 : g8 ≠ w.heap.size + 2 := fun e => HX9.out (by rw [e]; rfl)
  have e7 : g5 ≠ g8 := fun e => HAP8.out g8 rfl (by rw [e]; rfl)
  have e8 : (Value.slice Ao o.length co).ownBlock ≠ some g8 := fun e => HAP9.out g8 rfl e
  generalize hW9 : (w8.setCell ⟨w.heap.size, 2, none⟩ (.slice (some ⟨g8, 0, none⟩) (v.length + 1 + 1) q8)).setCell ⟨w.heap.size, 3, none⟩ (.int .i64 ((G : Int) + 1)) = W9
  have hst : StAt W9 B ⟨o, (0, 0) :: (p, r) :: v, G + 1⟩ Ao co g5 q5 g8 q8 := by
    rw [← hW9]
    refine ⟨row_far (row_far HN8.out H1.out.free.1 _ _) H1.out.free.1 _ _, row_far (row_far HP8.out (fun e => e1 (Option.some.inj e)) _ _) (fun e => e1 (Option.some.inj e)) _ _, ?_, e4, e8, e7, ?_⟩
    · have := HOWN8.out
      rw [show rwV ((p, r) :: v) ++ (#[Value.int .i64 0] : Array Value).toList = rwV ((0, 0) :: (p, r) :: v) by rw [rwV_cons 0 0]; rfl] at this
      exact row_far (row_far this (fun e => e5 (Option.some.inj e)) _ _) (fun e => e5 (Option.some.inj e)) _ _
    · rw [setCell_size, setCell_size]; have := HB8.out.size; omega
  have HST := Lib.hid hst
  have s9 : Slab W9 w.heap.size #[.slice Ao o.length co, .slice (some ⟨g5, 0, none⟩) (v.length + 1 + 1) q5, .slice (some ⟨g8, 0, none⟩) (v.length + 1 + 1) q8, .int .i64 ((G : Int) + 1)] 57 := by rw [← hW9]; exact (HO8.out.set 2 _).set 3 _
  have Q9 := Lib.hid (show Slab W9 (w.heap.size + 2) #[.slice none 0 0, .slice none 0 0, .slice none 0 0, .int .i64 0] 57 from by rw [← hW9]; exact (HO9.out.far (by omega) _).far (by omega) _)
  have B9 := Lib.hid (show Below B w W9 from by rw [← hW9]; exact below_set (below_set HB8.out hB0 _) hB0 _)
  have hfr : Fr w W9 o.length Ao co gp gr o.length Ao co g5 g8 := fun k cs t hk hf => by
    have hlt := hk.lt
    obtain ⟨a1, a2⟩ := F6.out k cs t hk hf
    obtain ⟨a3, a4⟩ := HAS.out k cs t a1 (fun e => hf.2.2 (Option.some.inj e))
    rw [← hW9]
    exact ⟨(a3.far (by omega) _).far (by omega) _, hf.1, a2, fun e => a4 (by rw [e]; rfl)⟩
  have HFR := Lib.hid hfr
  clear hW9 hst hfr c8 f8
  obtain ⟨c9, f9⟩ := s9.facts
  obtain ⟨cq, fq⟩ := Q9.out.facts
  clear s9
  go_wp2
  obtain ⟨S1, S2⟩ := st_out (g := w.heap.size + 2) (HST.out) (Q9.out) (⟨H1.out.free.1 |> fun _ => (HF2.out.1), e2, e6⟩)
  simp only [List.length_cons, List.length_nil] at S1 S2
  refine bodyPost_ret (results_cell rfl rfl (load_slab (t := 57) (cs := psCells ⟨o, (0, 0) :: (p, r) :: v, G + 1⟩ Ao co g5 q5 g8 q8) ?_ 57 Tryz.underlying57 rfl (by kernel_rfl))) rfl ⟨_, _, _, _, _, _, rfl, ?_, ?_, ?_⟩
  · exact S1
  · exact below_set (below_set (below_set (below_set (B9.out) (by omega) _) (by omega) _) (by omega) _) (by omega) _
  · exact S2
  · intro k cs t hk hf
    have hlt := hk.lt
    obtain ⟨h1, h2⟩ := HFR.out k cs t hk hf
    exact ⟨(((h1.far (by omega) _).far (by omega) _).far (by omega) _).far (by omega) _, h2⟩
end Go.Proofs.YtfcgmgpcbenfpaaGreat

/- Walks of the document's parser: all words are read. -/
namespace Go.Proofs.YtfcgmgpcbenfpaaGreat
open Go.RowKit SetP BrkP LexP AstP ParP
set_option maxRecDepth 100000 in
theorem rtake_any {B : Nat} {x : PS} {Ao : Option Addr} {co gp cp gr cr : Nat} {w : World} (h : StAt w B x Ao co gp cp gr cr) (wd : Wd) (y : PS) (ht : Took x wd y) (hb : Bnd x 200000) :
    Calls Tryz.prog 54 #[.agg (psCells x Ao co gp cp gr cr), wdV wd] w (toSt B x Ao co gp gr y w) := by
  obtain ⟨kd, at_, stop, f, n, m⟩ := wd
  obtain ⟨b1, b2, b3, b4, b5⟩ := hb
  cases ht with
  | one o p r v G hk hx =>
    subst hx
    simp only at hk b1 b2 b5
    subst hk
    have hp := b4 (p, r) (by simp)
    simp only [List.length_cons] at b2 hp
    exact rtake_one h (by omega) (by omega) (by omega) (by omega) at_ stop n m f
  | opn o v G hk hx =>
    subst hx
    simp only at hk b1 b2 b3 b5
    subst hk
    cases v with
    | nil => exact absurd rfl b3
    | cons pr v =>
    obtain ⟨p, r⟩ := pr
    have hp := b4 (p, r) (by simp)
    simp only [List.length_cons] at b2 hp
    exact rtake_opn h (by omega) (by omega) (by omega) (by omega) at_ stop n m f (by omega)
  | shut o p r p' r' v G hk hx =>
    subst hx
    simp only at hk b1 b2 b5
    subst hk
    have hp := b4 (p, r) (by simp)
    have hp' := b4 (p', r') (by simp)
    simp only [List.length_cons] at b2 hp hp'
    exact rtake_shut h (by omega) (by omega) (by omega) (by omega) at_ stop n m f (by omega) (by omega)
  | bar o p r v G hk hx =>
    subst hx
    simp only at hk b1 b2 b5
    subst hk
    have hp := b4 (p, r) (by simp)
    simp only [List.length_cons] at b2 hp
    exact rtake_bar h (by omega) (by omega) (by omega) (by omega) at_ stop n m f
  | rep o p r v G hk hx =>
    subst hx
    simp only at hk b1 b2 b5
    subst hk
    have hp := b4 (p + 1, r) (by simp)
    simp only [List.length_cons] at b2 hp
    exact rtake_rep h (by omega) (by omega) (by omega) (by omega) at_ stop n m f
theorem results_cell4 {P : Program} {fn : Func} {t : TypeId} {a b c d : Tmp} (h : fn.results = #[.cell a t, .tmp b, .tmp c, .tmp d]) {tmps : Array Value} {w : World} {p : Addr} {v x y z : Value} (hp : tmps.getD a undef = .pointer (some p))
    (hl : (loadVar t p).run P w = .ok v w) (hb : tmps.getD b undef = x) (hc : tmps.getD c undef = y) (hd : tmps.getD d undef = z) : (results fn tmps).run P w = .ok (.tuple #[v, x, y, z]) w := by
  subst hb hc hd
  have hp' : tmps[a]?.getD undef = .pointer (some p) := by simpa using hp
  simp [results, h, hp', asAddr, hl]
theorem StAt.lower {w : World} {B B' : Nat} {x : PS} {Ao : Option Addr} {co gp cp gr cr : Nat} (h : StAt w B x Ao co gp cp gr cr) (hB : B' ≤ B) : StAt w B' x Ao co gp cp gr cr :=
  ⟨row_mono h.out hB, row_mono h.pc hB, row_mono h.rw_ hB, h.a1, h.a2, h.ne, Nat.le_trans hB h.hB⟩
/-- What the document's Read leaves. -/
def RetR7 (s : ByteArray) (R : PR) (w : World) (e : Ending) (w' : World) : Prop :=
  match R with
  | .bad er p => e = .returned (.tuple #[.agg #[.slice none 0 0, .slice none 0 0, .slice none 0 0, .int .i64 0], .int .i64 0, .int .i64 er, .int .i64 p]) ∧ Below w.heap.size w w'
  | .ok y => if 1 < y.lv.length then e = .returned (.tuple #[.agg #[.slice none 0 0, .slice none 0 0, .slice none 0 0, .int .i64 0], .int .i64 ((y.lv.length - 1 : Nat) : Int), .int .i64 2, .int .i64 (s.size : Int)]) ∧ Below w.heap.size w w'
    else ∃ Ao co gp cp gr cr, e = .returned (.tuple #[.agg (psCells (endRows y) Ao co gp cp gr cr), .int .i64 0, .int .i64 0, .int .i64 0]) ∧ Below w.heap.size w w' ∧ StAt w' w.heap.size (endRows y) Ao co gp cp gr cr
theorem st_start (w : World) : BxAt ((((w.alloc (.cells #[.slice none 0 0, .slice none 0 0, .slice none 0 0, .int .i64 0] 57)).alloc (.cells #[.int .i64 0] 3)).alloc (.cells #[.int .i64 0] 3)).alloc (.cells #[.slice none 0 0, .slice (some ⟨w.heap.size + 1, 0, none⟩) 1 1, .slice (some ⟨w.heap.size + 1 + 1, 0, none⟩) 1 1, .int .i64 0] 57)) (w.heap.size + 1) (w.heap.size + 1 + 1 + 1) ps0 none 0 (w.heap.size + 1) 1 (w.heap.size + 1 + 1) 1 := by
  refine ⟨Slab.newAt _ _ _ (by simp), ⟨World.ownsRow_nil _ _ _ _, ?_, ?_, (fun h => by cases h), (fun h => by cases h), by omega, (by simp <;> omega)⟩, ⟨(fun h => by cases h), by omega, by omega⟩, by omega⟩
  · exact row_lit (((Slab.newAt _ _ _ (by simp)).alloc _).alloc _) (by omega) rfl (by decide)
  · exact row_lit ((Slab.newAt _ _ _ (by simp)).alloc _) (by omega) rfl (by decide)
set_option maxRecDepth 100000 in
set_option maxHeartbeats 2000000 in
theorem rread7_any (s : ByteArray) (hs : s.size ≤ 200000) (w : World) : Calls Tryz.prog 31 #[.string s] w (RetR7 s (readGo s 0 ps0) w) := by
  have H0 := Lib.hid (st_start w)
  have HB0 := Lib.hid (show Below w.heap.size w ((((w.alloc (.cells #[.slice none 0 0, .slice none 0 0, .slice none 0 0, .int .i64 0] 57)).alloc (.cells #[.int .i64 0] 3)).alloc (.cells #[.int .i64 0] 3)).alloc (.cells #[.slice none 0 0, .slice (some ⟨w.heap.size + 1, 0, none⟩) 1 1, .slice (some ⟨w.heap.size + 1 + 1, 0, none⟩) 1 1, .int .i64 0] 57)) from ((((Below.refl _ w).alloc (Nat.le_refl _) _).alloc (by simp) _).alloc (by simp <;> omega) _).alloc (by simp <;> omega) _)
  have HZ := Lib.hid (show Slab ((((w.alloc (.cells #[.slice none 0 0, .slice none 0 0, .slice none 0 0, .int .i64 0] 57)).alloc (.cells #[.int .i64 0] 3)).alloc (.cells #[.int .i64 0] 3)).alloc (.cells #[.slice none 0 0, .slice (some ⟨w.heap.size + 1, 0, none⟩) 1 1, .slice (some ⟨w.heap.size + 1 + 1, 0, none⟩) 1 1, .int .i64 0] 57)) w.heap.size #[.slice none 0 0, .slice none 0 0, .slice none 0 0, .int .i64 0] 57 from (((Slab.new w _ _).alloc _).alloc _).alloc _)
  go_enter Tryz.func31, Tryz.ntmps31
  go_wp2_with fail
  go_loopw [7] (fun a wr => ∃ (k : Nat) (x : PS), k ≤ s.size ∧ a = .int .i64 (k : Int) ∧ Bnd x k ∧ readGo s 0 ps0 = readGo s k x ∧ (∃ Ao co gp cp gr cr, BxAt wr (w.heap.size + 1) (w.heap.size + 1 + 1 + 1) x Ao co gp cp gr cr) ∧ Slab wr w.heap.size #[.slice none 0 0, .slice none 0 0, .slice none 0 0, .int .i64 0] 57 ∧ Below w.heap.size w wr) (fun a _ => s.size - (intOf a).toNat)
  case atStart => exact ⟨0, ps0, Nat.zero_le _, rfl, bnd0, rfl, ⟨_, _, _, _, _, _, H0.out⟩, HZ.out, HB0.out⟩
  case round =>
    clear H0 HB0 HZ
    obtain ⟨k, x, hk, rfl, hbd, hgo, ⟨Ao, co, gp, cp, gr, cr, hx⟩, hz, hB⟩ := hrel
    have HGO := Lib.hid hgo; clear hgo
    have HB := Lib.hid hB; clear hB
    obtain ⟨o, lv, G⟩ := x
    cases lv with
    | nil => exact absurd rfl hbd.ne
    | cons pr v =>
    obtain ⟨p, r⟩ := pr
    have hvl : v.length ≤ 200000 := by have := hbd.lv; simp at this; omega
    have HBD := Lib.hid hbd; clear hbd
    by_cases hlt : k < s.size
    · obtain ⟨er, her⟩ : ∃ er, barF ⟨o, (p, r) :: v, G⟩ (bt s k) = er := ⟨_, rfl⟩
      have hbt : bt s k = s[k] := bt_at s k hlt
      have C1 := fun d os => rfirst_any (hx.st.keep (below_regrown wr d os)) (by omega) s[k]
      rw [← hbt, her, hbt] at C1
      have hp : ∀ d os i, («Sort».grow (redrawn wr d) os).cell? ⟨w.heap.size + 1 + 1 + 1, i, none⟩ = _ := fun d os i => (hx.slab.below (below_regrown _ d os) hx.slab.lt).cell i
      unfold psCells at C1 hp
      simp only [List.length_cons] at C1 hp
      have HER := Lib.hid her
      have HX := Lib.hid hx
      have HZ := Lib.hid hz
      clear her hbt hx hz
      go_wp2_with fail
      refine wp_region_quiet_below (by kernel_rfl) (by kernel_rfl) ?_
      repeat (first | go_big_quiet_step ((first | (go_at_call 52; exact Calls.regrown_of (C1 _ _)))) | quiet_step ((first | (go_at_call 52; exact Calls.regrown_of (C1 _ _)))))
      refine wpQuiet_nil ?_
      intro _ hw'
      obtain ⟨⟨qd, qos⟩, hw''⟩ := hw'
      subst hw''
      generalize hw2 : «Sort».grow (redrawn wr qd) qos = w2
      have hb2 : Below wr.heap.size wr w2 := by rw [← hw2]; exact below_regrown wr qd qos
      have HX2 := Lib.hid (HX.out.keep hb2)
      have hz2 := HZ.out.call hb2
      have HZ2 := Lib.hid hz2
      have HB2 := Lib.hid (below_then HB.out hb2)
      clear hw2 hb2 hp C1
      by_cases h0 : er = 0
      · have t0 : (er != 0) = false := by rw [h0]; rfl
        have hbar : barF ⟨o, (p, r) :: v, G⟩ (bt s k) = 0 := by rw [HER.out]; exact h0
        have C3 := rnext5_any s (k : Int) (by omega)
        by_cases he : (nextW s k).err = 0
        · obtain ⟨wd, e, hw, hst, g1, g2, hat⟩ := fit_ok hlt he
          rw [hw] at C3
          have HT := Lib.hid (took (x := ⟨o, (p, r) :: v, G⟩) (by simp) hlt hbar hw)
          have HGO2 := Lib.hid (HGO.out.trans (readGo_word hlt hbar hw hst))
          have HST := Lib.hid hst
          generalize takeF ⟨o, (p, r) :: v, G⟩ wd = y at *
          clear hw he hbar hat hst h0 hz2
          go_wp2_with fail
          refine (C3 _).mono ?_
          rintro e3 w3 ⟨rfl, hb3⟩
          have hb4 := hb3.alloc hb3.size (.cells (wdCells wd) 74)
          have hx4 := HX2.out.keep hb4
          have hw4 : Slab (w3.alloc (.cells (wdCells wd) 74)) w3.heap.size (wdCells wd) 74 := Slab.new _ _ _
          have hfw : Free w3.heap.size Ao o.length co gp gr := HX2.out.st.free hb3.size
          have C4 := rtake_any hx4.st wd y HT.out (HBD.out.more (by omega))
          have HX4 := Lib.hid hx4
          have HW4 := Lib.hid hw4
          have HFW := Lib.hid hfw
          have HZ4 := Lib.hid (HZ2.out.call hb4)
          have HB4 := Lib.hid (below_then HB2.out hb4)
          have HSZ := Lib.hid (show w.heap.size + 1 ≤ w3.heap.size from Nat.le_trans HX2.out.st.hB hb3.size)
          obtain ⟨c4, f4⟩ := hx4.slab.facts
          obtain ⟨cw, fw⟩ := hw4.facts
          obtain ⟨kd, at_, stop, f, n, m⟩ := wd
          have hst : stop = (e : Int) := HST.out
          subst hst
          unfold psCells at c4 C4
          simp only [List.length_cons] at c4 C4
          clear C3 hb3 hb4 hx4 hw4 hfw
          go_wp2_with fail
          refine C4.mono ?_
          rintro e5 w5 ⟨A1, k1, p1, q1, r1, s1, he5, hb5, hs5, hfr5⟩
          have he6 : e5 = .returned (.agg #[.slice A1 y.out.length k1, .slice (some ⟨p1, 0, none⟩) y.lv.length q1, .slice (some ⟨r1, 0, none⟩) y.lv.length s1, .int .i64 (y.groups : Int)]) := he5
          clear he5
          subst he6
          obtain ⟨ob, fb⟩ := hfr5 _ _ _ HX4.out.slab HX4.out.free
          obtain ⟨ow, fw5⟩ := hfr5 _ _ _ HW4.out HFW.out
          obtain ⟨cb, fb'⟩ := ob.facts
          unfold psCells at cb
          simp only [List.length_cons] at cb
          have hsz := HSZ.out
          have hne : w3.heap.size ≠ w.heap.size + 1 + 1 + 1 := fun e => by
            have h9 := HX2.out.slab.lt
            have h8 := HX4.out.slab
            have := HW4.out
            rw [e] at this
            unfold Slab at this h8
            rw [this] at h8
            injection h8 with h8
            injection h8 with _ h7
            exact absurd h7 (by decide)
          have hx6 := st_over hs5 ob rfl fb (by omega)
          have HX6 := Lib.hid hx6
          have HW6 := Lib.hid ((((ow.far hne (i := 0) (.slice A1 y.out.length k1)).far hne (i := 1) (.slice (some ⟨p1, 0, none⟩) y.lv.length q1)).far hne (i := 2) (.slice (some ⟨r1, 0, none⟩) y.lv.length s1)).far hne (i := 3) (.int .i64 (y.groups : Int)))
          have hz5 := HZ4.out.below hb5 (by omega)
          have HZ6 := Lib.hid ((((hz5.far (b := w.heap.size + 1 + 1 + 1) (by omega) (i := 0) (.slice A1 y.out.length k1)).far (b := w.heap.size + 1 + 1 + 1) (by omega) (i := 1) (.slice (some ⟨p1, 0, none⟩) y.lv.length q1)).far (b := w.heap.size + 1 + 1 + 1) (by omega) (i := 2) (.slice (some ⟨r1, 0, none⟩) y.lv.length s1)).far (b := w.heap.size + 1 + 1 + 1) (by omega) (i := 3) (.int .i64 (y.groups : Int)))
          have HB6 := Lib.hid (below_set (below_set (below_set (below_set (HB4.out.trans (hb5.mono (by omega))) (b := w.heap.size + 1 + 1 + 1) (by omega) (i := 0) (.slice A1 y.out.length k1)) (b := w.heap.size + 1 + 1 + 1) (by omega) (i := 1) (.slice (some ⟨p1, 0, none⟩) y.lv.length q1)) (b := w.heap.size + 1 + 1 + 1) (by omega) (i := 2) (.slice (some ⟨r1, 0, none⟩) y.lv.length s1)) (b := w.heap.size + 1 + 1 + 1) (by omega) (i := 3) (.int .i64 (y.groups : Int)))
          clear C4 hb5 hs5 hfr5 ob fb ow fw5 c4 f4 cw fw hx6 hz5
          go_upto_region 11 with fail
          generalize hW6 : ((((w5.setCell ⟨w.heap.size + 1 + 1 + 1, 0, none⟩ (.slice A1 y.out.length k1)).setCell ⟨w.heap.size + 1 + 1 + 1, 1, none⟩ (.slice (some ⟨p1, 0, none⟩) y.lv.length q1)).setCell ⟨w.heap.size + 1 + 1 + 1, 2, none⟩ (.slice (some ⟨r1, 0, none⟩) y.lv.length s1)).setCell ⟨w.heap.size + 1 + 1 + 1, 3, none⟩ (.int .i64 (y.groups : Int))) = W6
          have h6 := HX6.out
          have w6 := HW6.out
          have z6 := HZ6.out
          have b6 := HB6.out
          rw [hW6] at h6 w6 z6 b6
          clear hW6 cb fb' HX6 HW6 HZ6 HB6
          obtain ⟨cw, fw⟩ := w6.facts
          have H6 := Lib.hid h6
          have Z6 := Lib.hid z6
          have B6 := Lib.hid b6
          clear h6 w6 z6 b6
          go_wp2
          go_roundw
          case rel => exact ⟨e, y, g2, rfl, (HBD.out.take HT.out).more g1, HGO2.out, ⟨_, _, _, _, _, _, H6.out⟩, Z6.out, B6.out⟩
          case measure => simp [intOf]; omega
        · have hr2 := HGO.out.trans (readGo_err hlt hbar he)
          obtain ⟨⟨⟨kd, at_, stop, f, n, m⟩, er2, pl⟩, hw⟩ : ∃ R, nextW s k = R := ⟨_, rfl⟩
          rw [hw] at C3 hr2 he
          have t1 : (er2 != 0) = true := bne_iff_ne.2 he
          have HRR := Lib.hid hr2
          clear hw he hbar hr2 h0 hz2
          go_wp2_with fail
          refine (C3 _).mono ?_
          rintro e3 w3 ⟨rfl, hb3⟩
          have hb4 := hb3.alloc hb3.size (.cells (wdCells ⟨kd, at_, stop, f, n, m⟩) 74)
          have hz4 := HZ2.out.call hb4
          have HZ4 := Lib.hid hz4
          have HB4 := Lib.hid (below_then HB2.out hb4)
          obtain ⟨cz, fz⟩ := hz4.facts
          clear C3 hb3 hb4 hz4
          go_wp2
          refine bodyPost_ret (results_cell4 (v := .agg #[.slice none 0 0, .slice none 0 0, .slice none 0 0, .int .i64 0]) (x := .int .i64 0) (y := .int .i64 er2) (z := .int .i64 pl) rfl rfl (load_slab (t := 57) (cs := #[.slice none 0 0, .slice none 0 0, .slice none 0 0, .int .i64 0]) ?_ 57 Tryz.underlying57 rfl (by kernel_rfl)) rfl rfl rfl) rfl (by show RetR7 s (readGo s 0 ps0) w _ _; rw [HRR.out]; exact ⟨rfl, below_set (below_set (below_set (below_set HB4.out (Nat.le_refl _) _) (Nat.le_refl _) _) (Nat.le_refl _) _) (Nat.le_refl _) _⟩)
          exact (((HZ4.out.set 0 _).set 1 _).set 2 _).set 3 _
      · have t0 : (er != 0) = true := bne_iff_ne.2 h0
        have hr2 := HGO.out.trans (readGo_bar hlt (by rw [HER.out]; exact h0))
        rw [HER.out] at hr2
        have HRR := Lib.hid hr2
        obtain ⟨cz, fz⟩ := hz2.facts
        clear h0 hr2 hz2
        go_wp2
        refine bodyPost_ret (results_cell4 (v := .agg #[.slice none 0 0, .slice none 0 0, .slice none 0 0, .int .i64 0]) (x := .int .i64 0) (y := .int .i64 er) (z := .int .i64 ((k : Int) + 1)) rfl rfl (load_slab (t := 57) (cs := #[.slice none 0 0, .slice none 0 0, .slice none 0 0, .int .i64 0]) ?_ 57 Tryz.underlying57 rfl (by kernel_rfl)) rfl rfl rfl) rfl (by show RetR7 s (readGo s 0 ps0) w _ _; rw [HRR.out]; exact ⟨rfl, below_set (below_set (below_set (below_set HB2.out (Nat.le_refl _) _) (Nat.le_refl _) _) (Nat.le_refl _) _) (Nat.le_refl _) _⟩)
        exact (((HZ2.out.set 0 _).set 1 _).set 2 _).set 3 _
    · have hks : k = s.size := by omega
      have hr2 := HGO.out.trans (readGo_end (x := ⟨o, (p, r) :: v, G⟩) (by omega : s.size ≤ k))
      have HRR := Lib.hid hr2
      have HX := Lib.hid hx
      have HZ := Lib.hid hz
      obtain ⟨c1, f1⟩ := hx.slab.facts
      obtain ⟨cz, fz⟩ := hz.facts
      have hbd := HBD.out
      obtain ⟨b1, b2, _, b4, _⟩ := hbd
      have hpr := b4 (p, r) (by simp)
      simp only [List.length_cons] at b1 b2 hpr
      subst hks
      unfold psCells at c1
      simp only [List.length_cons] at c1
      by_cases h1 : 0 < v.length
      · have t1 : decide (0 < (v.length : Int)) = true := decide_eq_true (by omega)
        clear hr2 hx hz
        go_wp2
        refine bodyPost_ret (results_cell4 (v := .agg #[.slice none 0 0, .slice none 0 0, .slice none 0 0, .int .i64 0]) (x := .int .i64 (v.length : Int)) (y := .int .i64 2) (z := .int .i64 (s.size : Int)) rfl rfl (load_slab (t := 57) (cs := #[.slice none 0 0, .slice none 0 0, .slice none 0 0, .int .i64 0]) ?_ 57 Tryz.underlying57 rfl (by kernel_rfl)) rfl rfl rfl) rfl (by show RetR7 s (readGo s 0 ps0) w _ _; rw [HRR.out]; unfold RetR7; simp only [List.length_cons]; rw [if_pos (by omega)]; exact ⟨rfl, below_set (below_set (below_set (below_set HB.out (Nat.le_refl _) _) (Nat.le_refl _) _) (Nat.le_refl _) _) (Nat.le_refl _) _⟩)
        exact (((HZ.out.set 0 _).set 1 _).set 2 _).set 3 _
      · have hv : v = [] := List.eq_nil_of_length_eq_zero (by omega)
        subst hv
        have C := rrows_any hx.st (by omega) (by simp) (by omega) (by omega)
        generalize hy : endRows ⟨o, [(p, r)], G⟩ = y at *
        have HY := Lib.hid hy
        unfold psCells at C
        simp only [List.length_cons, List.length_nil] at C c1
        clear hr2 hx hz hy
        go_wp2_with fail
        refine C.mono ?_
        rintro e5 w5 ⟨A1, k1, p1, q1, r1, s1, he5, hb5, hs5, hfr5⟩
        have he6 : e5 = .returned (.agg #[.slice A1 y.out.length k1, .slice (some ⟨p1, 0, none⟩) y.lv.length q1, .slice (some ⟨r1, 0, none⟩) y.lv.length s1, .int .i64 (y.groups : Int)]) := he5
        clear he5
        subst he6
        have hz5 := HZ.out.below hb5 (by omega)
        have HZ5 := Lib.hid hz5
        obtain ⟨c5, f5⟩ := hz5.facts
        have hsz := HB.out.size
        have HB5 := Lib.hid (HB.out.trans (hb5.mono (by omega)))
        have HS5 := Lib.hid hs5
        clear C hb5 hs5 hfr5 c1 f1 cz fz hz5
        go_wp2
        have hfree : Free w.heap.size A1 y.out.length k1 p1 r1 :=
          ⟨fun e => by have := (HS5.out.out.lt _ e).1; omega, fun e => by have := (slab_of_row HS5.out.pc).1; omega, fun e => by have := (slab_of_row HS5.out.rw_).1; omega⟩
        obtain ⟨S1, S2⟩ := st_out (g := w.heap.size) HS5.out HZ5.out hfree
        refine bodyPost_ret (results_cell4 (v := .agg (psCells y A1 k1 p1 q1 r1 s1)) (x := .int .i64 0) (y := .int .i64 0) (z := .int .i64 0) rfl rfl (load_slab (t := 57) (cs := psCells y A1 k1 p1 q1 r1 s1) ?_ 57 Tryz.underlying57 rfl (by kernel_rfl)) rfl rfl rfl) rfl (by show RetR7 s (readGo s 0 ps0) w _ _; rw [HRR.out]; unfold RetR7; simp only [List.length_cons, List.length_nil]; rw [if_neg (by omega), HY.out]; exact ⟨_, _, _, _, _, _, rfl, below_set (below_set (below_set (below_set HB5.out (Nat.le_refl _) _) (Nat.le_refl _) _) (Nat.le_refl _) _) (Nat.le_refl _) _, S2.lower (by omega)⟩)
        exact S1
end Go.Proofs.YtfcgmgpcbenfpaaGreat

/- Walks of the document's parser: the tree of a pattern; what is open. -/
namespace Go.Proofs.YtfcgmgpcbenfpaaGreat
open Go.RowKit SetP BrkP LexP AstP ParP
set_option maxRecDepth 100000 in
set_option maxHeartbeats 2000000 in
theorem rparse_any (s : ByteArray) (hs : s.size ≤ 200000) (w : World) : Calls Tryz.prog 15 #[.string s] w (RetParse (parseF s) w) := by
  have C := rread7_any s hs w
  rcases read7 s with ⟨y, h, hb⟩ | ⟨er, p, h, h0⟩
  · have hp : parseF s = if 1 < y.lv.length then ([], 2, (s.size : Int)) else ((endRows y).out, 0, 0) := by unfold parseF; rw [h]; rfl
    rw [h] at C
    unfold RetR7 at C
    simp only at C
    clear h
    by_cases h1 : 1 < y.lv.length
    · rw [if_pos h1] at hp
      rw [hp]
      simp only [if_pos h1] at C
      clear hp h1 hb
      go_enter Tryz.func15, Tryz.ntmps15
      go_wp2_with fail
      refine C.mono ?_
      rintro e1 w1 ⟨rfl, hb1⟩
      clear C
      go_wp2
      refine bodyPost_ret (v := .tuple #[.slice none 0 0, .int .i64 2, .int .i64 (s.size : Int)]) (by simp [results, Tryz.results15, go_sem]) rfl ⟨none, 0, rfl, World.ownsRow_nil _ _ _ _, hb1.alloc hb1.size _⟩
    · rw [if_neg h1] at hp
      rw [hp]
      simp only [if_neg h1] at C
      generalize endRows y = z at *
      clear hp h1 hb
      go_enter Tryz.func15, Tryz.ntmps15
      go_wp2_with fail
      refine C.mono ?_
      rintro e1 w1 ⟨A1, k1, p1, q1, r1, s1, he1, hb1, hs1⟩
      have he2 : e1 = .returned (.tuple #[.agg #[.slice A1 z.out.length k1, .slice (some ⟨p1, 0, none⟩) z.lv.length q1, .slice (some ⟨r1, 0, none⟩) z.lv.length s1, .int .i64 (z.groups : Int)], .int .i64 0, .int .i64 0, .int .i64 0]) := he1
      clear he1
      subst he2
      have HS := Lib.hid hs1
      clear C hs1
      go_wp2
      refine bodyPost_ret (v := .tuple #[.slice A1 z.out.length k1, .int .i64 0, .int .i64 0]) (by simp [results, Tryz.results15, go_sem]) rfl ⟨A1, k1, rfl, row_call HS.out.out ((Below.refl _ _).alloc (Nat.le_refl _) _), hb1.alloc hb1.size _⟩
  · rw [(parse_bad7 h).1]
    rw [h] at C
    unfold RetR7 at C
    simp only at C
    clear h h0
    go_enter Tryz.func15, Tryz.ntmps15
    go_wp2_with fail
    refine C.mono ?_
    rintro e1 w1 ⟨rfl, hb1⟩
    clear C
    go_wp2
    refine bodyPost_ret (v := .tuple #[.slice none 0 0, .int .i64 er, .int .i64 p]) (by simp [results, Tryz.results15, go_sem]) rfl ⟨none, 0, rfl, World.ownsRow_nil _ _ _ _, hb1.alloc hb1.size _⟩
end Go.Proofs.YtfcgmgpcbenfpaaGreat
