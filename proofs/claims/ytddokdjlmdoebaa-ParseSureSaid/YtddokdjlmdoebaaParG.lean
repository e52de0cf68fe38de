/- Walks of the document's parser: what bars a word; a word more. -/
import Derived.Test.YtddokdjlmdoebaaProg
import Derived.WalkKit
import Derived.WalkSpells
import Derived.WalkLawsBesides
import Derived.Handy
import Derived.Lib.Hide
import Derived.Test.YtddokdjlmdoebaaParF
import Derived.Test.YtddokdjlmdoebaaParT
import Derived.Test.YtddokdjlmdoebaaLexA
import Derived.Deep.QuietTactic
import Derived.Deep.Cut
import Derived.BigQuiet
import Derived.Lib.QuietBelow
set_option linter.unusedVariables false
set_option linter.unusedSimpArgs false
namespace Go.Proofs.Ytddokdjlmdoebaa
open Go.RowKit SetP BrkP LexP AstP ParP
set_option maxRecDepth 100000 in
set_option maxHeartbeats 2000000 in
theorem rfirst_any {B : Nat} {o : List Nd} {p r : Nat} {v : List (Nat × Nat)} {G : Nat} {Ao : Option Addr} {co gp cp gr cr : Nat} {w : World} (h : StAt w B ⟨o, (p, r) :: v, G⟩ Ao co gp cp gr cr) (hv : v.length ≤ 1000000) (c : UInt8) : Calls Try.prog 112 #[.agg (psCells ⟨o, (p, r) :: v, G⟩ Ao co gp cp gr cr), .int .u8 (c.toNat : Int)] w fun e w' => e = .returned (.int .i64 (barF ⟨o, (p, r) :: v, G⟩ c)) ∧ Below w.heap.size w w' := by
  have u42 : ((c.toNat : Int) == 42) = (c == 42) := beqI7 c 42
  have u43 : ((c.toNat : Int) == 43) = (c == 43) := beqI7 c 43
  have u63 : ((c.toNat : Int) == 63) = (c == 63) := beqI7 c 63
  have u123 : ((c.toNat : Int) == 123) = (c == 123) := beqI7 c 123
  have u41 : ((c.toNat : Int) == 41) = (c == 41) := beqI7 c 41
  have u40 : ((c.toNat : Int) == 40) = (c == 40) := beqI7 c 40
  cases x42 : (c == 42) with
  | true =>
    rw [x42] at u42
    have hx := x42
    clear u43 u63 u123 u41 u40
    rw [show barF ⟨o, (p, r) :: v, G⟩ c = (if p = 0 then 7 else 0) by unfold barF; rw [if_pos (by unfold isCnt; rw [hx]; simp)]; rfl]
    clear hx
    by_cases h0 : p = 0
    · rw [if_pos h0]
      have t0 : ((p : Int) == 0) = true := by rw [beq_iff_eq]; omega
      clear h0
      have h1 := BxAt.new h
      have HB1 := Lib.hid ((Below.refl w.heap.size w).alloc (Nat.le_refl _) (.cells (psCells ⟨o, (p, r) :: v, G⟩ Ao co gp cp gr cr) 104))
      obtain ⟨c1, f1⟩ := h1.slab.facts
      obtain ⟨k0, k1, k2, k3⟩ := h1.st.tops
      have hlen := h1.lenR
      clear h1 h
      unfold psCells at c1 f1 k0 k1 k2 k3 HB1
      simp only [List.length_cons] at c1 f1 k0 k1 k2 k3 hlen HB1
      obtain ⟨l1, l2, l3, l4⟩ := hlen
      show Calls Try.prog 112 #[.agg #[.slice Ao o.length co, .slice (some ⟨gp, 0, none⟩) (v.length + 1) cp, .slice (some ⟨gr, 0, none⟩) (v.length + 1) cr, .int .i64 (G : Int)], .int .u8 (c.toNat : Int)] w _
      go_enter Try.func112, Try.ntmps112
      go_wp2
      go_ret
      exact ⟨rfl, HB1.out⟩
    · rw [if_neg h0]
      have t0 : ((p : Int) == 0) = false := by rw [beq_eq_false_iff_ne]; omega
      clear h0
      have h1 := BxAt.new h
      have HB1 := Lib.hid ((Below.refl w.heap.size w).alloc (Nat.le_refl _) (.cells (psCells ⟨o, (p, r) :: v, G⟩ Ao co gp cp gr cr) 104))
      obtain ⟨c1, f1⟩ := h1.slab.facts
      obtain ⟨k0, k1, k2, k3⟩ := h1.st.tops
      have hlen := h1.lenR
      clear h1 h
      unfold psCells at c1 f1 k0 k1 k2 k3 HB1
      simp only [List.length_cons] at c1 f1 k0 k1 k2 k3 hlen HB1
      obtain ⟨l1, l2, l3, l4⟩ := hlen
      show Calls Try.prog 112 #[.agg #[.slice Ao o.length co, .slice (some ⟨gp, 0, none⟩) (v.length + 1) cp, .slice (some ⟨gr, 0, none⟩) (v.length + 1) cr, .int .i64 (G : Int)], .int .u8 (c.toNat : Int)] w _
      go_enter Try.func112, Try.ntmps112
      go_wp2
      go_ret
      exact ⟨rfl, HB1.out⟩
  | false =>
  rw [x42] at u42
  cases x43 : (c == 43) with
  | true =>
    rw [x43] at u43
    have hx := x43
    clear u63 u123 u41 u40
    rw [show barF ⟨o, (p, r) :: v, G⟩ c = (if p = 0 then 7 else 0) by unfold barF; rw [if_pos (by unfold isCnt; rw [hx]; simp)]; rfl]
    clear hx
    by_cases h0 : p = 0
    · rw [if_pos h0]
      have t0 : ((p : Int) == 0) = true := by rw [beq_iff_eq]; omega
      clear h0
      have h1 := BxAt.new h
      have HB1 := Lib.hid ((Below.refl w.heap.size w).alloc (Nat.le_refl _) (.cells (psCells ⟨o, (p, r) :: v, G⟩ Ao co gp cp gr cr) 104))
      obtain ⟨c1, f1⟩ := h1.slab.facts
      obtain ⟨k0, k1, k2, k3⟩ := h1.st.tops
      have hlen := h1.lenR
      clear h1 h
      unfold psCells at c1 f1 k0 k1 k2 k3 HB1
      simp only [List.length_cons] at c1 f1 k0 k1 k2 k3 hlen HB1
      obtain ⟨l1, l2, l3, l4⟩ := hlen
      show Calls Try.prog 112 #[.agg #[.slice Ao o.length co, .slice (some ⟨gp, 0, none⟩) (v.length + 1) cp, .slice (some ⟨gr, 0, none⟩) (v.length + 1) cr, .int .i64 (G : Int)], .int .u8 (c.toNat : Int)] w _
      go_enter Try.func112, Try.ntmps112
      go_wp2
      go_ret
      exact ⟨rfl, HB1.out⟩
    · rw [if_neg h0]
      have t0 : ((p : Int) == 0) = false := by rw [beq_eq_false_iff_ne]; omega
      clear h0
      have h1 := BxAt.new h
      have HB1 := Lib.hid ((Below.refl w.heap.size w).alloc (Nat.le_refl _) (.cells (psCells ⟨o, (p, r) :: v, G⟩ Ao co gp cp gr cr) 104))
      obtain ⟨c1, f1⟩ := h1.slab.facts
      obtain ⟨k0, k1, k2, k3⟩ := h1.st.tops
      have hlen := h1.lenR
      clear h1 h
      unfold psCells at c1 f1 k0 k1 k2 k3 HB1
      simp only [List.length_cons] at c1 f1 k0 k1 k2 k3 hlen HB1
      obtain ⟨l1, l2, l3, l4⟩ := hlen
      show Calls Try.prog 112 #[.agg #[.slice Ao o.length co, .slice (some ⟨gp, 0, none⟩) (v.length + 1) cp, .slice (some ⟨gr, 0, none⟩) (v.length + 1) cr, .int .i64 (G : Int)], .int .u8 (c.toNat : Int)] w _
      go_enter Try.func112, Try.ntmps112
      go_wp2
      go_ret
      exact ⟨rfl, HB1.out⟩
  | false =>
  rw [x43] at u43
  cases x63 : (c == 63) with
  | true =>
    rw [x63] at u63
    have hx := x63
    clear u123 u41 u40
    rw [show barF ⟨o, (p, r) :: v, G⟩ c = (if p = 0 then 7 else 0) by unfold barF; rw [if_pos (by unfold isCnt; rw [hx]; simp)]; rfl]
    clear hx
    by_cases h0 : p = 0
    · rw [if_pos h0]
      have t0 : ((p : Int) == 0) = true := by rw [beq_iff_eq]; omega
      clear h0
      have h1 := BxAt.new h
      have HB1 := Lib.hid ((Below.refl w.heap.size w).alloc (Nat.le_refl _) (.cells (psCells ⟨o, (p, r) :: v, G⟩ Ao co gp cp gr cr) 104))
      obtain ⟨c1, f1⟩ := h1.slab.facts
      obtain ⟨k0, k1, k2, k3⟩ := h1.st.tops
      have hlen := h1.lenR
      clear h1 h
      unfold psCells at c1 f1 k0 k1 k2 k3 HB1
      simp only [List.length_cons] at c1 f1 k0 k1 k2 k3 hlen HB1
      obtain ⟨l1, l2, l3, l4⟩ := hlen
      show Calls Try.prog 112 #[.agg #[.slice Ao o.length co, .slice (some ⟨gp, 0, none⟩) (v.length + 1) cp, .slice (some ⟨gr, 0, none⟩) (v.length + 1) cr, .int .i64 (G : Int)], .int .u8 (c.toNat : Int)] w _
      go_enter Try.func112, Try.ntmps112
      go_wp2
      go_ret
      exact ⟨rfl, HB1.out⟩
    · rw [if_neg h0]
      have t0 : ((p : Int) == 0) = false := by rw [beq_eq_false_iff_ne]; omega
      clear h0
      have h1 := BxAt.new h
      have HB1 := Lib.hid ((Below.refl w.heap.size w).alloc (Nat.le_refl _) (.cells (psCells ⟨o, (p, r) :: v, G⟩ Ao co gp cp gr cr) 104))
      obtain ⟨c1, f1⟩ := h1.slab.facts
      obtain ⟨k0, k1, k2, k3⟩ := h1.st.tops
      have hlen := h1.lenR
      clear h1 h
      unfold psCells at c1 f1 k0 k1 k2 k3 HB1
      simp only [List.length_cons] at c1 f1 k0 k1 k2 k3 hlen HB1
      obtain ⟨l1, l2, l3, l4⟩ := hlen
      show Calls Try.prog 112 #[.agg #[.slice Ao o.length co, .slice (some ⟨gp, 0, none⟩) (v.length + 1) cp, .slice (some ⟨gr, 0, none⟩) (v.length + 1) cr, .int .i64 (G : Int)], .int .u8 (c.toNat : Int)] w _
      go_enter Try.func112, Try.ntmps112
      go_wp2
      go_ret
      exact ⟨rfl, HB1.out⟩
  | false =>
  rw [x63] at u63
  cases x123 : (c == 123) with
  | true =>
    rw [x123] at u123
    have hx := x123
    clear u41 u40
    rw [show barF ⟨o, (p, r) :: v, G⟩ c = (if p = 0 then 7 else 0) by unfold barF; rw [if_pos (by unfold isCnt; rw [hx]; simp)]; rfl]
    clear hx
    by_cases h0 : p = 0
    · rw [if_pos h0]
      have t0 : ((p : Int) == 0) = true := by rw [beq_iff_eq]; omega
      clear h0
      have h1 := BxAt.new h
      have HB1 := Lib.hid ((Below.refl w.heap.size w).alloc (Nat.le_refl _) (.cells (psCells ⟨o, (p, r) :: v, G⟩ Ao co gp cp gr cr) 104))
      obtain ⟨c1, f1⟩ := h1.slab.facts
      obtain ⟨k0, k1, k2, k3⟩ := h1.st.tops
      have hlen := h1.lenR
      clear h1 h
      unfold psCells at c1 f1 k0 k1 k2 k3 HB1
      simp only [List.length_cons] at c1 f1 k0 k1 k2 k3 hlen HB1
      obtain ⟨l1, l2, l3, l4⟩ := hlen
      show Calls Try.prog 112 #[.agg #[.slice Ao o.length co, .slice (some ⟨gp, 0, none⟩) (v.length + 1) cp, .slice (some ⟨gr, 0, none⟩) (v.length + 1) cr, .int .i64 (G : Int)], .int .u8 (c.toNat : Int)] w _
      go_enter Try.func112, Try.ntmps112
      go_wp2
      go_ret
      exact ⟨rfl, HB1.out⟩
    · rw [if_neg h0]
      have t0 : ((p : Int) == 0) = false := by rw [beq_eq_false_iff_ne]; omega
      clear h0
      have h1 := BxAt.new h
      have HB1 := Lib.hid ((Below.refl w.heap.size w).alloc (Nat.le_refl _) (.cells (psCells ⟨o, (p, r) :: v, G⟩ Ao co gp cp gr cr) 104))
      obtain ⟨c1, f1⟩ := h1.slab.facts
      obtain ⟨k0, k1, k2, k3⟩ := h1.st.tops
      have hlen := h1.lenR
      clear h1 h
      unfold psCells at c1 f1 k0 k1 k2 k3 HB1
      simp only [List.length_cons] at c1 f1 k0 k1 k2 k3 hlen HB1
      obtain ⟨l1, l2, l3, l4⟩ := hlen
      show Calls Try.prog 112 #[.agg #[.slice Ao o.length co, .slice (some ⟨gp, 0, none⟩) (v.length + 1) cp, .slice (some ⟨gr, 0, none⟩) (v.length + 1) cr, .int .i64 (G : Int)], .int .u8 (c.toNat : Int)] w _
      go_enter Try.func112, Try.ntmps112
      go_wp2
      go_ret
      exact ⟨rfl, HB1.out⟩
  | false =>
  rw [x123] at u123
  have hn : isCnt c = false := by unfold isCnt; rw [x42, x43, x63, x123]; rfl
  have hb : barF ⟨o, (p, r) :: v, G⟩ c = if c == 41 then (if v.length + 1 = 1 then 8 else 0) else if c == 40 then (if G = 9 then 9 else 0) else 0 := by
    unfold barF; rw [if_neg (by rw [hn]; simp)]; rfl
  rw [hb]
  clear hb hn x42 x43 x63 x123
  cases x41 : (c == 41) with
  | true =>
    rw [x41] at u41
    rw [if_pos rfl]
    clear u40
    by_cases h1 : v.length + 1 = 1
    · rw [if_pos h1]
      have t1 : ((v.length : Int) == 0) = true := by rw [beq_iff_eq]; omega
      clear h1
      have h1 := BxAt.new h
      have HB1 := Lib.hid ((Below.refl w.heap.size w).alloc (Nat.le_refl _) (.cells (psCells ⟨o, (p, r) :: v, G⟩ Ao co gp cp gr cr) 104))
      obtain ⟨c1, f1⟩ := h1.slab.facts
      obtain ⟨k0, k1, k2, k3⟩ := h1.st.tops
      have hlen := h1.lenR
      clear h1 h
      unfold psCells at c1 f1 k0 k1 k2 k3 HB1
      simp only [List.length_cons] at c1 f1 k0 k1 k2 k3 hlen HB1
      obtain ⟨l1, l2, l3, l4⟩ := hlen
      show Calls Try.prog 112 #[.agg #[.slice Ao o.length co, .slice (some ⟨gp, 0, none⟩) (v.length + 1) cp, .slice (some ⟨gr, 0, none⟩) (v.length + 1) cr, .int .i64 (G : Int)], .int .u8 (c.toNat : Int)] w _
      go_enter Try.func112, Try.ntmps112
      go_wp2
      go_ret
      exact ⟨rfl, HB1.out⟩
    · rw [if_neg h1]
      have t1 : ((v.length : Int) == 0) = false := by rw [beq_eq_false_iff_ne]; omega
      clear h1
      have h1 := BxAt.new h
      have HB1 := Lib.hid ((Below.refl w.heap.size w).alloc (Nat.le_refl _) (.cells (psCells ⟨o, (p, r) :: v, G⟩ Ao co gp cp gr cr) 104))
      obtain ⟨c1, f1⟩ := h1.slab.facts
      obtain ⟨k0, k1, k2, k3⟩ := h1.st.tops
      have hlen := h1.lenR
      clear h1 h
      unfold psCells at c1 f1 k0 k1 k2 k3 HB1
      simp only [List.length_cons] at c1 f1 k0 k1 k2 k3 hlen HB1
      obtain ⟨l1, l2, l3, l4⟩ := hlen
      show Calls Try.prog 112 #[.agg #[.slice Ao o.length co, .slice (some ⟨gp, 0, none⟩) (v.length + 1) cp, .slice (some ⟨gr, 0, none⟩) (v.length + 1) cr, .int .i64 (G : Int)], .int .u8 (c.toNat : Int)] w _
      go_enter Try.func112, Try.ntmps112
      go_wp2
      go_ret
      exact ⟨rfl, HB1.out⟩
  | false =>
  rw [x41] at u41
  rw [if_neg (by simp)]
  cases x40 : (c == 40) with
  | true =>
    rw [x40] at u40
    rw [if_pos rfl]
    by_cases h1 : G = 9
    · rw [if_pos h1]
      have t1 : ((G : Int) == 9) = true := by rw [beq_iff_eq]; omega
      clear h1
      have h1 := BxAt.new h
      have HB1 := Lib.hid ((Below.refl w.heap.size w).alloc (Nat.le_refl _) (.cells (psCells ⟨o, (p, r) :: v, G⟩ Ao co gp cp gr cr) 104))
      obtain ⟨c1, f1⟩ := h1.slab.facts
      obtain ⟨k0, k1, k2, k3⟩ := h1.st.tops
      have hlen := h1.lenR
      clear h1 h
      unfold psCells at c1 f1 k0 k1 k2 k3 HB1
      simp only [List.length_cons] at c1 f1 k0 k1 k2 k3 hlen HB1
      obtain ⟨l1, l2, l3, l4⟩ := hlen
      show Calls Try.prog 112 #[.agg #[.slice Ao o.length co, .slice (some ⟨gp, 0, none⟩) (v.length + 1) cp, .slice (some ⟨gr, 0, none⟩) (v.length + 1) cr, .int .i64 (G : Int)], .int .u8 (c.toNat : Int)] w _
      go_enter Try.func112, Try.ntmps112
      go_wp2
      go_ret
      exact ⟨rfl, HB1.out⟩
    · rw [if_neg h1]
      have t1 : ((G : Int) == 9) = false := by rw [beq_eq_false_iff_ne]; omega
      clear h1
      have h1 := BxAt.new h
      have HB1 := Lib.hid ((Below.refl w.heap.size w).alloc (Nat.le_refl _) (.cells (psCells ⟨o, (p, r) :: v, G⟩ Ao co gp cp gr cr) 104))
      obtain ⟨c1, f1⟩ := h1.slab.facts
      obtain ⟨k0, k1, k2, k3⟩ := h1.st.tops
      have hlen := h1.lenR
      clear h1 h
      unfold psCells at c1 f1 k0 k1 k2 k3 HB1
      simp only [List.length_cons] at c1 f1 k0 k1 k2 k3 hlen HB1
      obtain ⟨l1, l2, l3, l4⟩ := hlen
      show Calls Try.prog 112 #[.agg #[.slice Ao o.length co, .slice (some ⟨gp, 0, none⟩) (v.length + 1) cp, .slice (some ⟨gr, 0, none⟩) (v.length + 1) cr, .int .i64 (G : Int)], .int .u8 (c.toNat : Int)] w _
      go_enter Try.func112, Try.ntmps112
      go_wp2
      go_ret
      exact ⟨rfl, HB1.out⟩
  | false =>
    rw [x40] at u40
    rw [if_neg (by simp)]
    have h1 := BxAt.new h
    have HB1 := Lib.hid ((Below.refl w.heap.size w).alloc (Nat.le_refl _) (.cells (psCells ⟨o, (p, r) :: v, G⟩ Ao co gp cp gr cr) 104))
    obtain ⟨c1, f1⟩ := h1.slab.facts
    obtain ⟨k0, k1, k2, k3⟩ := h1.st.tops
    have hlen := h1.lenR
    clear h1 h
    unfold psCells at c1 f1 k0 k1 k2 k3 HB1
    simp only [List.length_cons] at c1 f1 k0 k1 k2 k3 hlen HB1
    obtain ⟨l1, l2, l3, l4⟩ := hlen
    show Calls Try.prog 112 #[.agg #[.slice Ao o.length co, .slice (some ⟨gp, 0, none⟩) (v.length + 1) cp, .slice (some ⟨gr, 0, none⟩) (v.length + 1) cr, .int .i64 (G : Int)], .int .u8 (c.toNat : Int)] w _
    go_enter Try.func112, Try.ntmps112
    go_wp2
    go_ret
    exact ⟨rfl, HB1.out⟩
end Go.Proofs.Ytddokdjlmdoebaa
