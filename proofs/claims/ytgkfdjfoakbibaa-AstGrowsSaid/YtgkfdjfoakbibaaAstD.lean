/- Walks of the packages ast, gimletref06 and slices: lists of numbers; kids. -/
import Derived.Test.YtgkfdjfoakbibaaProg
import Derived.WalkKit
import Derived.WalkSpells
import Derived.WalkLawsBesides
import Derived.Handy
import Derived.Lib.Hide
import Derived.Test.YtgkfdjfoakbibaaAstC
import Derived.Deep.QuietTactic
import Derived.BigQuiet
namespace Go.Proofs.Ytgkfdjfoakbibaa
open Go.RowKit SetP AstP
/-- A list of numbers, as a slice of whatever make, in a block below B. -/
def IntsAt (w : World) (B : Nat) (A : Option Addr) (l : List Nat) : Prop :=
  l.length ≤ 1000000000000 ∧ (l.length = 0 ∨ ∃ b off, A = some ⟨b, off, none⟩ ∧ b < B ∧ ∀ j, j < l.length → w.cell? ⟨b, off + j, none⟩ = some (.int .i64 ((l.getD j 0 : Nat) : Int)))
theorem IntsAt.below {w w' : World} {B : Nat} {A : Option Addr} {l : List Nat} (h : IntsAt w B A l) (hb : Below B w w') : IntsAt w' B A l := by
  obtain ⟨h1, h2⟩ := h
  refine ⟨h1, ?_⟩
  rcases h2 with h2 | ⟨b, off, rfl, hB, hc⟩
  · exact .inl h2
  · exact .inr ⟨b, off, rfl, hB, fun j hj => (hb.cell (p := ⟨b, off + j, none⟩) hB).trans (hc j hj)⟩
theorem IntsAt.more {w : World} {B B' : Nat} {A : Option Addr} {l : List Nat} (h : IntsAt w B A l) (hB : B ≤ B') : IntsAt w B' A l := by
  obtain ⟨h1, h2⟩ := h
  refine ⟨h1, ?_⟩
  rcases h2 with h2 | ⟨b, off, rfl, hb, hc⟩
  · exact .inl h2
  · exact .inr ⟨b, off, rfl, by omega, hc⟩
theorem IntsAt.at_ {w : World} {B : Nat} {A : Option Addr} {l : List Nat} (h : IntsAt w B A l) {j : Nat} (hj : j < l.length) : ∃ b off, A = some ⟨b, off, none⟩ ∧ b < B ∧ w.cell? ⟨b, off + j, none⟩ = some (.int .i64 ((l.getD j 0 : Nat) : Int)) := by
  rcases h.2 with h2 | ⟨b, off, rfl, hb, hc⟩
  · omega
  · exact ⟨b, off, rfl, hb, hc j hj⟩
/-- A row of numbers of one's own, read. -/
theorem row_at0 {w : World} {base n c : Nat} {A : Option Addr} {l : List Nat} (h : w.ownsRow base 3 1 (.slice A n c) n (ints l)) (hn : n ≤ 1000000000000) : IntsAt w w.heap.size A l := by
  have hl := row_len h
  refine ⟨by omega, ?_⟩
  rcases rowInts h with ⟨rfl, rfl, rfl⟩ | ⟨g, rfl, hg, hc, hcell⟩
  · exact .inl hl
  · by_cases h0 : n = 0
    · exact .inl (by omega)
    · exact .inr ⟨g, 0, rfl, block_lt_of_cell (hcell 0 (by omega)), fun j hj => by rw [Nat.zero_add]; exact hcell j (by omega)⟩
theorem eq_at {l l' : List Nat} (hl : l.length = l'.length) (h : ∀ j, j < l.length → l.getD j 0 = l'.getD j 0) : (l == l') = true := by
  rw [beq_iff_eq]
  apply List.ext_getElem hl
  intro j h1 h2
  have := h j h1
  rwa [List.getD_eq_getElem?_getD, List.getElem?_eq_getElem h1, List.getD_eq_getElem?_getD, List.getElem?_eq_getElem h2] at this
theorem ne_at {l l' : List Nat} {j : Nat} (h : l.getD j 0 ≠ l'.getD j 0) : (l == l') = false := by
  rw [beq_eq_false_iff_ne]; rintro rfl; exact h rfl
theorem ne_len {l l' : List Nat} (h : l.length ≠ l'.length) : (l == l') = false := by
  rw [beq_eq_false_iff_ne]; rintro rfl; exact h rfl
set_option maxRecDepth 100000 in
set_option maxHeartbeats 2000000 in
theorem ints_any (A A' : Option Addr) (c c' : Nat) (l l' : List Nat) (w : World) (h : IntsAt w w.heap.size A l) (h' : IntsAt w w.heap.size A' l') :
    Calls Try.prog 26 #[.slice A l.length c, .slice A' l'.length c'] w fun e w' => e = .returned (.bool (l == l')) ∧ Below w.heap.size w w' := by
  obtain ⟨N, hN⟩ : ∃ N, l.length = N := ⟨_, rfl⟩
  obtain ⟨N', hN'⟩ : ∃ N, l'.length = N := ⟨_, rfl⟩
  have hb := h.1
  have hb' := h'.1
  have H := Lib.hid h; clear h
  have H' := Lib.hid h'; clear h'
  rw [hN] at hb ⊢
  rw [hN'] at hb' ⊢
  have HN := Lib.hid hN; clear hN
  have HN' := Lib.hid hN'; clear hN'
  by_cases hne : N = N'
  · subst hne
    go_enter Try.func26, Try.ntmps26
    go_wp2
    go_loopw [5] (fun i wr => ∃ k : Nat, k ≤ N ∧ i = .int .i64 k ∧ (∀ j, j < k → l.getD j 0 = l'.getD j 0) ∧ Below w.heap.size w wr) (fun i _ => N - (intOf i).toNat)
    case atStart => exact ⟨0, by omega, rfl, fun j hj => by omega, Below.refl _ _⟩
    case round =>
      obtain ⟨k, hk, rfl, hE, hB⟩ := hrel
      have HE := Lib.hid hE; clear hE
      have HB := Lib.hid hB; clear hB
      by_cases hlt : k < N
      · obtain ⟨b, off, rfl, hb1, hc1⟩ := (H.out.below HB.out).at_ (j := k) (by rw [HN.out]; exact hlt)
        obtain ⟨b', off', rfl, hb2, hc2⟩ := (H'.out.below HB.out).at_ (j := k) (by rw [HN'.out]; exact hlt)
        obtain ⟨y, hy⟩ : ∃ y, l.getD k 0 = y := ⟨_, rfl⟩
        obtain ⟨z, hz⟩ : ∃ z, l'.getD k 0 = z := ⟨_, rfl⟩
        rw [hy] at hc1
        rw [hz] at hc2
        have HY := Lib.hid hy; clear hy
        have HZ := Lib.hid hz; clear hz
        cases ht : (y != z) with
        | true =>
          have hno : (l == l') = false := ne_at (j := k) (by rw [HY.out, HZ.out]; simpa using ht)
          have HNo := Lib.hid hno; clear hno
          have ht2 : ((y : Int) != (z : Int)) = true := by simp at ht ⊢; omega
          go_wp2
          go_quiet (fail)
          go_wp2
          refine bodyPost_ret (v := .bool false) (by simp [results, Try.results26, go_sem]) rfl ⟨by rw [HNo.out], below_drewN HB.out _⟩
        | false =>
          have hyz : y = z := by simpa using ht
          have ht2 : ((y : Int) != (z : Int)) = false := by subst hyz; simp
          have HYZ := Lib.hid hyz; clear hyz
          go_wp2
          go_quiet (fail)
          go_wp2
          go_roundw
          case rel =>
            refine ⟨k + 1, by omega, by go_num, fun j hj => ?_, below_drewN HB.out _⟩
            by_cases e : j = k
            · rw [e, HY.out, HZ.out]; exact HYZ.out
            · exact HE.out j (by omega)
          case measure => simp [intOf]; omega
      · obtain rfl : k = N := by omega
        have hyes : (l == l') = true := eq_at (by rw [HN.out, HN'.out]) fun j hj => HE.out j (by rw [HN.out] at hj; exact hj)
        have HYes := Lib.hid hyes; clear hyes
        go_wp2
        refine bodyPost_ret (v := .bool true) (by simp [results, Try.results26, go_sem]) rfl ⟨by rw [HYes.out], HB.out⟩
  · have hno : (l == l') = false := ne_len (by rw [HN.out, HN'.out]; exact hne)
    have HNo := Lib.hid hno; clear hno
    have hd : (N != N') = true := by simpa using hne
    go_enter Try.func26, Try.ntmps26
    go_wp2
    refine bodyPost_ret (v := .bool false) (by simp [results, Try.results26, go_sem]) rfl ⟨by rw [HNo.out], Below.refl _ _⟩
/-- A list whose first k and last k are turned around. -/
def turnedAt (l : List Nat) (k p : Nat) : Nat := l.getD (if p < k ∨ l.length ≤ p + k then l.length - 1 - p else p) 0
/-- A block that begins with numbers. -/
def Starts (cs : Array Value) (n : Nat) (F : Nat → Nat) : Prop := n ≤ cs.size ∧ ∀ p, p < n → cs[p]? = some (.int .i64 ((F p : Nat) : Int))
theorem turned_next {l : List Nat} {k : Nat} {cs : Array Value} (hk : 2 * k + 1 < l.length) (h : Starts cs l.length (turnedAt l k)) :
    Starts ((cs.setIfInBounds k (.int .i64 ((l.getD (l.length - 1 - k) 0 : Nat) : Int))).setIfInBounds (l.length - 1 - k) (.int .i64 ((l.getD k 0 : Nat) : Int))) l.length (turnedAt l (k + 1)) := by
  obtain ⟨h1, h2⟩ := h
  refine ⟨by simpa using h1, fun p hp => ?_⟩
  rw [Array.getElem?_setIfInBounds, Array.getElem?_setIfInBounds]
  have hs : p < cs.size := by omega
  by_cases e1 : l.length - 1 - k = p
  · rw [if_pos e1, if_pos (by simpa using by omega)]
    unfold turnedAt
    rw [if_pos (by omega)]
    congr 4; omega
  · rw [if_neg e1]
    by_cases e2 : k = p
    · rw [if_pos e2, if_pos (by omega)]
      unfold turnedAt
      rw [if_pos (by omega)]
      congr 4; omega
    · rw [if_neg e2, h2 p hp]
      unfold turnedAt
      by_cases e3 : p < k ∨ l.length ≤ p + k
      · rw [if_pos e3, if_pos (by omega)]
      · rw [if_neg e3, if_neg (by omega)]
theorem turned_end {l : List Nat} {k p : Nat} (hk : l.length ≤ 2 * k + 1) (hp : p < l.length) : turnedAt l k p = l.reverse.getD p 0 := by
  unfold turnedAt
  have e : l.reverse.getD p 0 = l.getD (l.length - 1 - p) 0 := by
    rw [List.getD_eq_getElem?_getD, List.getD_eq_getElem?_getD, List.getElem?_reverse (by omega)]
  rw [e]
  split
  · rfl
  · congr 1; omega
theorem starts_ints {cs : Array Value} {l : List Nat} (h : Starts cs l.length (fun p => l.getD p 0)) : cs.toList.take (l.length * 1) = ints l := by
  obtain ⟨h1, h2⟩ := h
  apply List.ext_getElem?
  intro p
  by_cases hp : p < l.length
  · rw [List.getElem?_take_of_lt (by omega), Array.getElem?_toList, h2 p hp, List.getElem?_map]; show some (Value.int .i64 ((l.getD p 0 : Nat) : Int)) = _; rw [List.getD_eq_getElem?_getD, List.getElem?_eq_getElem hp]; rfl
  · rw [List.getElem?_eq_none (by simp; omega), List.getElem?_eq_none (by simp; omega)]
theorem ints_starts {cs : Array Value} {l : List Nat} {n : Nat} (h : cs.toList.take (n * 1) = ints l) (hl : l.length = n) : Starts cs l.length (fun p => l.getD p 0) := by
  have hz : n ≤ cs.size := by
    have := congrArg List.length h
    simp at this; omega
  refine ⟨by omega, fun p hp => ?_⟩
  have e : cs.toList[p]? = (ints l)[p]? := by rw [← h, List.getElem?_take_of_lt (by omega)]
  rw [← Array.getElem?_toList, e, List.getElem?_map]
  show _ = some (Value.int .i64 ((l.getD p 0 : Nat) : Int))
  rw [List.getD_eq_getElem?_getD, List.getElem?_eq_getElem hp]; rfl
set_option maxRecDepth 100000 in
set_option maxHeartbeats 2000000 in
theorem reverse_any (base : Nat) (A : Option Addr) (c : Nat) (l : List Nat) (w : World) (h : w.ownsRow base 3 1 (.slice A l.length c) l.length (ints l)) (hn : l.length ≤ 1000000000000) (hbs : base ≤ w.heap.size) :
    Calls Try.prog 42 #[.slice A l.length c] w fun e w' => e = .returned (.tuple #[]) ∧ w'.ownsRow base 3 1 (.slice A l.length c) l.length (ints l.reverse) ∧ Below base w w' := by
  rcases h.2 with ⟨hv, h0⟩ | ⟨g, cap, cur, hv, hg, hh, hc, hx, hs, ht⟩
  · have hl : l = [] := List.eq_nil_of_length_eq_zero h0
    subst hl
    cases hv
    have h2 := Lib.hid h; clear h h0
    go_enter Try.func42, Try.ntmps42
    go_wp2
    go_rounds 1
    first | go_end0 | refine bodyPost_ret (results_none rfl _ _ _) rfl ?_
    exact ⟨rfl, h2.out, Below.refl _ _⟩
  · cases hv
    have hst := ints_starts ht rfl
    have o0 : Slab w g cur 3 := hh
    obtain ⟨N, hN⟩ : ∃ N, l.length = N := ⟨_, rfl⟩
    rw [hN] at hst hn hc ⊢
    have HN := Lib.hid hN
    have HS := Lib.hid hst
    clear h hst hh ht hN
    go_enter Try.func42, Try.ntmps42
    go_wp2
    go_loopw [2, 3] (fun i j wr => ∃ (k : Nat) (cs : Array Value), 2 * k ≤ N + 1 ∧ i = .int .i64 k ∧ j = .int .i64 ((N : Int) - 1 - k) ∧ Slab wr g cs 3 ∧ cs.size = c ∧ Starts cs N (turnedAt l k) ∧ Below base w wr) (fun i _ _ => N + 1 - (intOf i).toNat)
    case atStart => exact ⟨0, cur, by omega, rfl, by simp, o0, by omega, ⟨HS.out.1, fun p hp => by rw [HS.out.2 p hp]; unfold turnedAt; rw [if_neg (by rw [HN.out]; omega)]⟩, Below.refl _ _⟩
    case round =>
      clear o0
      obtain ⟨k, cs, hk, rfl, rfl, o, hcs, hS, hB⟩ := hrel
      have HB := Lib.hid hB; clear hB
      have HS2 := Lib.hid hS; clear hS
      by_cases hlt : 2 * k + 1 < N
      · obtain ⟨q, hq⟩ : ∃ q, N - 1 - k = q := ⟨_, rfl⟩
        have hq' : (N : Int) - 1 - k = (q : Int) := by omega
        rw [hq']
        have hkq : k < q := by omega
        obtain ⟨y, hy⟩ : ∃ y, l.getD k 0 = y := ⟨_, rfl⟩
        obtain ⟨z, hz⟩ : ∃ z, l.getD q 0 = z := ⟨_, rfl⟩
        have ck := (o.cell k).trans (HS2.out.2 k (by omega))
        have cq := (o.cell q).trans (HS2.out.2 q (by omega))
        have tk : turnedAt l k k = y := by unfold turnedAt; rw [if_neg (by rw [HN.out]; omega), hy]
        have tq : turnedAt l k q = z := by unfold turnedAt; rw [if_neg (by rw [HN.out]; omega), hz]
        rw [tk] at ck
        rw [tq] at cq
        have hnext := turned_next (l := l) (k := k) (cs := cs) (by rw [HN.out]; omega) (by rw [HN.out]; exact HS2.out)
        rw [HN.out, hq, hy, hz] at hnext
        have HX := Lib.hid hnext
        obtain ⟨c1, f1⟩ := o.facts
        have HQ := Lib.hid hq
        have i1 : k < N := by omega
        have i2 : q < N := by omega
        have i3 : (k : Int) < (N : Int) := by omega
        have i4 : (q : Int) < (N : Int) := by omega
        clear hnext tk tq hy hz c1 hq hq'
        go_wp2
        go_region
        go_wp2
        go_roundw
        case rel =>
          refine ⟨k + 1, _, by omega, by go_num, ?_, (o.set k (.int .i64 (z : Int))).set q (.int .i64 (y : Int)), by simpa using hcs, HX.out, ?_⟩
          · have := HQ.out; congr 1; omega
          · have hb := HB.out
            exact (below_set (below_set hb hg _) hg _).drew
        case measure => simp [intOf]; omega
      · have d0 : decide ((k : Int) < (N : Int) - 1 - (k : Int)) = false := by simp; omega
        have hrow : wr.ownsRow base 3 1 (.slice (some ⟨g, 0, none⟩) N c) N (ints l.reverse) := by
          refine ⟨by simp [HN.out], .inr ⟨g, c, cs, rfl, hg, o, hc, hx, by omega, ?_⟩⟩
          have hlr : l.reverse.length = N := by rw [List.length_reverse, HN.out]
          rw [← hlr]
          apply starts_ints
          rw [hlr]
          exact ⟨HS2.out.1, fun p hp => by rw [HS2.out.2 p hp, turned_end (by rw [HN.out]; omega) (by rw [HN.out]; exact hp)]⟩
        go_wp2
        first | go_end0 | refine bodyPost_ret (results_none rfl _ _ _) rfl ?_
        exact ⟨rfl, hrow, HB.out⟩
end Go.Proofs.Ytgkfdjfoakbibaa
