/- Walks of the packages ast, gimletref06 and slices: lists of numbers; kids. -/
import Derived.Test.YtddokdjlmdoebaaProg
import Derived.WalkKit
import Derived.WalkSpells
import Derived.WalkLawsBesides
import Derived.Handy
import Derived.Lib.Hide
import Derived.Test.YtddokdjlmdoebaaMAsa
import Derived.Deep.QuietTactic
import Derived.BigQuiet
set_option linter.unusedVariables false
set_option linter.unusedSimpArgs false
namespace Go.Proofs.Ytddokdjlmdoebaa
open Go.RowKit SetP AstP
/-- A list of numbers, as a slice of whatever make, in a block below B. -/
def IntsAt (w : World) (B : Nat) (A : Option Addr) (l : List Nat) : Prop :=
  l.length ≤ 1000000000000 ∧ (l.length = 0 ∨ ∃ b off, A = some ⟨b, off, none⟩ ∧ b < B ∧ ∀ j, j < l.length → w.cell? ⟨b, off + j, none⟩ = some (.int .i64 ((l.getD j 0 : Nat) : Int)))
theorem IntsAt.below {w w' : World} {B : Nat} {A : Option Addr} {l : List Nat} (h : IntsAt w B A l) (hb : Below B w w') : IntsAt w' B A l := by
  obtain ⟨h1, h2⟩ := h
  refine ⟨h1, ?_⟩
  rcases h2 with h2 | ⟨b, off, rfl, hB, hc⟩
  · exact .inl h2
  · exact .inr ⟨b, off, rfl, hB, fun j hj => (hb.cell (p := ⟨b, off + j, none⟩) hB).trans (hc j hj)⟩
theorem IntsAt.more {w : World} {B B' : Nat} {A : Option Addr} {l : List Nat} (h : IntsAt w B A l) (hB : B ≤ B') : IntsAt w B' A l := by
  obtain ⟨h1, h2⟩ := h
  refine ⟨h1, ?_⟩
  rcases h2 with h2 | ⟨b, off, rfl, hb, hc⟩
  · exact .inl h2
  · exact .inr ⟨b, off, rfl, by omega, hc⟩
theorem IntsAt.at_ {w : World} {B : Nat} {A : Option Addr} {l : List Nat} (h : IntsAt w B A l) {j : Nat} (hj : j < l.length) : ∃ b off, A = some ⟨b, off, none⟩ ∧ b < B ∧ w.cell? ⟨b, off + j, none⟩ = some (.int .i64 ((l.getD j 0 : Nat) : Int)) := by
  rcases h.2 with h2 | ⟨b, off, rfl, hb, hc⟩
  · omega
  · exact ⟨b, off, rfl, hb, hc j hj⟩
/-- A row of numbers of one's own, read. -/
theorem row_at0 {w : World} {base n c : Nat} {A : Option Addr} {l : List Nat} (h : w.ownsRow base 3 1 (.slice A n c) n (ints l)) (hn : n ≤ 1000000000000) : IntsAt w w.heap.size A l := by
  have hl := row_len h
  refine ⟨by omega, ?_⟩
  rcases rowInts h with ⟨rfl, rfl, rfl⟩ | ⟨g, rfl, hg, hc, hcell⟩
  · exact .inl hl
  · by_cases h0 : n = 0
    · exact .inl (by omega)
    · exact .inr ⟨g, 0, rfl, block_lt_of_cell (hcell 0 (by omega)), fun j hj => by rw [Nat.zero_add]; exact hcell j (by omega)⟩
theorem eq_at {l l' : List Nat} (hl : l.length = l'.length) (h : ∀ j, j < l.length → l.getD j 0 = l'.getD j 0) : (l == l') = true := by
  rw [beq_iff_eq]
  apply List.ext_getElem hl
  intro j h1 h2
  have := h j h1
  rwa [List.getD_eq_getElem?_getD, List.getElem?_eq_getElem h1, List.getD_eq_getElem?_getD, List.getElem?_eq_getElem h2] at this
theorem ne_at {l l' : List Nat} {j : Nat} (h : l.getD j 0 ≠ l'.getD j 0) : (l == l') = false := by
  rw [beq_eq_false_iff_ne]; rintro rfl; exact h rfl
theorem ne_len {l l' : List Nat} (h : l.length ≠ l'.length) : (l == l') = false := by
  rw [beq_eq_false_iff_ne]; rintro rfl; exact h rfl
/-- A list whose first k and last k are turned around. -/
def turnedAt (l : List Nat) (k p : Nat) : Nat := l.getD (if p < k ∨ l.length ≤ p + k then l.length - 1 - p else p) 0
/-- A block that begins with numbers. -/
def Starts (cs : Array Value) (n : Nat) (F : Nat → Nat) : Prop := n ≤ cs.size ∧ ∀ p, p < n → cs[p]? = some (.int .i64 ((F p : Nat) : Int))
theorem turned_next {l : List Nat} {k : Nat} {cs : Array Value} (hk : 2 * k + 1 < l.length) (h : Starts cs l.length (turnedAt l k)) :
    Starts ((cs.setIfInBounds k (.int .i64 ((l.getD (l.length - 1 - k) 0 : Nat) : Int))).setIfInBounds (l.length - 1 - k) (.int .i64 ((l.getD k 0 : Nat) : Int))) l.length (turnedAt l (k + 1)) := by
  obtain ⟨h1, h2⟩ := h
  refine ⟨by simpa using h1, fun p hp => ?_⟩
  rw [Array.getElem?_setIfInBounds, Array.getElem?_setIfInBounds]
  have hs : p < cs.size := by omega
  by_cases e1 : l.length - 1 - k = p
  · rw [if_pos e1, if_pos (by simpa using by omega)]
    unfold turnedAt
    rw [if_pos (by omega)]
    congr 4; omega
  · rw [if_neg e1]
    by_cases e2 : k = p
    · rw [if_pos e2, if_pos (by omega)]
      unfold turnedAt
      rw [if_pos (by omega)]
      congr 4; omega
    · rw [if_neg e2, h2 p hp]
      unfold turnedAt
      by_cases e3 : p < k ∨ l.length ≤ p + k
      · rw [if_pos e3, if_pos (by omega)]
      · rw [if_neg e3, if_neg (by omega)]
theorem turned_end {l : List Nat} {k p : Nat} (hk : l.length ≤ 2 * k + 1) (hp : p < l.length) : turnedAt l k p = l.reverse.getD p 0 := by
  unfold turnedAt
  have e : l.reverse.getD p 0 = l.getD (l.length - 1 - p) 0 := by
    rw [List.getD_eq_getElem?_getD, List.getD_eq_getElem?_getD, List.getElem?_reverse (by omega)]
  rw [e]
  split
  · rfl
  · congr 1; omega
theorem starts_ints {cs : Array Value} {l : List Nat} (h : Starts cs l.length (fun p => l.getD p 0)) : cs.toList.take (l.length * 1) = ints l := by
  obtain ⟨h1, h2⟩ := h
  apply List.ext_getElem?
  intro p
  by_cases hp : p < l.length
  · rw [List.getElem?_take_of_lt (by omega), Array.getElem?_toList, h2 p hp, List.getElem?_map]; show some (Value.int .i64 ((l.getD p 0 : Nat) : Int)) = _; rw [List.getD_eq_getElem?_getD, List.getElem?_eq_getElem hp]; rfl
  · rw [List.getElem?_eq_none (by simp; omega), List.getElem?_eq_none (by simp; omega)]
theorem ints_starts {cs : Array Value} {l : List Nat} {n : Nat} (h : cs.toList.take (n * 1) = ints l) (hl : l.length = n) : Starts cs l.length (fun p => l.getD p 0) := by
  have hz : n ≤ cs.size := by
    have := congrArg List.length h
    simp at this; omega
  refine ⟨by omega, fun p hp => ?_⟩
  have e : cs.toList[p]? = (ints l)[p]? := by rw [← h, List.getElem?_take_of_lt (by omega)]
  rw [← Array.getElem?_toList, e, List.getElem?_map]
  show _ = some (Value.int .i64 ((l.getD p 0 : Nat) : Int))
  rw [List.getD_eq_getElem?_getD, List.getElem?_eq_getElem hp]; rfl
set_option maxRecDepth 100000 in
set_option maxHeartbeats 2000000 in
theorem reverse_any (base : Nat) (A : Option Addr) (c : Nat) (l : List Nat) (w : World) (h : w.ownsRow base 3 1 (.slice A l.length c) l.length (ints l)) (hn : l.length ≤ 1000000000000) (hbs : base ≤ w.heap.size) :
    Calls Try.prog 86 #[.slice A l.length c] w fun e w' => e = .returned (.tuple #[]) ∧ w'.ownsRow base 3 1 (.slice A l.length c) l.length (ints l.reverse) ∧ Below base w w' := by
  rcases h.2 with ⟨hv, h0⟩ | ⟨g, cap, cur, hv, hg, hh, hc, hx, hs, ht⟩
  · have hl : l = [] := List.eq_nil_of_length_eq_zero h0
    subst hl
    cases hv
    have h2 := Lib.hid h; clear h h0
    go_enter Try.func86, Try.ntmps86
    go_wp2
    go_rounds 1
    first | go_end0 | refine bodyPost_ret (results_none rfl _ _ _) rfl ?_
    exact ⟨rfl, h2.out, Below.refl _ _⟩
  · cases hv
    have hst := ints_starts ht rfl
    have o0 : Slab w g cur 3 := hh
    obtain ⟨N, hN⟩ : ∃ N, l.length = N := ⟨_, rfl⟩
    rw [hN] at hst hn hc ⊢
    have HN := Lib.hid hN
    have HS := Lib.hid hst
    clear h hst hh ht hN
    go_enter Try.func86, Try.ntmps86
    go_wp2
    go_loopw [2, 3] (fun i j wr => ∃ (k : Nat) (cs : Array Value), 2 * k ≤ N + 1 ∧ i = .int .i64 k ∧ j = .int .i64 ((N : Int) - 1 - k) ∧ Slab wr g cs 3 ∧ cs.size = c ∧ Starts cs N (turnedAt l k) ∧ Below base w wr) (fun i _ _ => N + 1 - (intOf i).toNat)
    case atStart => exact ⟨0, cur, by omega, rfl, by simp, o0, by omega, ⟨HS.out.1, fun p hp => by rw [HS.out.2 p hp]; unfold turnedAt; rw [if_neg (by rw [HN.out]; omega)]⟩, Below.refl _ _⟩
    case round =>
      clear o0
      obtain ⟨k, cs, hk, rfl, rfl, o, hcs, hS, hB⟩ := hrel
      have HB := Lib.hid hB; clear hB
      have HS2 := Lib.hid hS; clear hS
      by_cases hlt : 2 * k + 1 < N
      · obtain ⟨q, hq⟩ : ∃ q, N - 1 - k = q := ⟨_, rfl⟩
        have hq' : (N : Int) - 1 - k = (q : Int) := by omega
        rw [hq']
        have hkq : k < q := by omega
        obtain ⟨y, hy⟩ : ∃ y, l.getD k 0 = y := ⟨_, rfl⟩
        obtain ⟨z, hz⟩ : ∃ z, l.getD q 0 = z := ⟨_, rfl⟩
        have ck := (o.cell k).trans (HS2.out.2 k (by omega))
        have cq := (o.cell q).trans (HS2.out.2 q (by omega))
        have tk : turnedAt l k k = y := by unfold turnedAt; rw [if_neg (by rw [HN.out]; omega), hy]
        have tq : turnedAt l k q = z := by unfold turnedAt; rw [if_neg (by rw [HN.out]; omega), hz]
        rw [tk] at ck
        rw [tq] at cq
        have hnext := turned_next (l := l) (k := k) (cs := cs) (by rw [HN.out]; omega) (by rw [HN.out]; exact HS2.out)
        rw [HN.out, hq, hy, hz] at hnext
        have HX := Lib.hid hnext
        obtain ⟨c1, f1⟩ := o.facts
        have HQ := Lib.hid hq
        have i1 : k < N := by omega
        have i2 : q < N := by omega
        have i3 : (k : Int) < (N : Int) := by omega
        have i4 : (q : Int) < (N : Int) := by omega
        clear hnext tk tq hy hz c1 hq hq'
        go_wp2
        go_region
        go_wp2
        go_roundw
        case rel =>
          refine ⟨k + 1, _, by omega, by go_num, ?_, (o.set k (.int .i64 (z : Int))).set q (.int .i64 (y : Int)), by simpa using hcs, HX.out, ?_⟩
          · have := HQ.out; congr 1; omega
          · have hb := HB.out
            exact (below_set (below_set hb hg _) hg _).drew
        case measure => simp [intOf]; omega
      · have d0 : decide ((k : Int) < (N : Int) - 1 - (k : Int)) = false := by simp; omega
        have hrow : wr.ownsRow base 3 1 (.slice (some ⟨g, 0, none⟩) N c) N (ints l.reverse) := by
          refine ⟨by simp [HN.out], .inr ⟨g, c, cs, rfl, hg, o, hc, hx, by omega, ?_⟩⟩
          have hlr : l.reverse.length = N := by rw [List.length_reverse, HN.out]
          rw [← hlr]
          apply starts_ints
          rw [hlr]
          exact ⟨HS2.out.1, fun p hp => by rw [HS2.out.2 p hp, turned_end (by rw [HN.out]; omega) (by rw [HN.out]; exact hp)]⟩
        go_wp2
        first | go_end0 | refine bodyPost_ret (results_none rfl _ _ _) rfl ?_
        exact ⟨rfl, hrow, HB.out⟩
end Go.Proofs.Ytddokdjlmdoebaa

/- Walks of the packages ast and gimletref06: kids. -/
namespace Go.Proofs.Ytddokdjlmdoebaa
open Go.RowKit SetP AstP
set_option maxRecDepth 100000 in
theorem sizes_at (A : Option Addr) (c : Nat) (L : List Nd) : ∀ w : World, NodesAt w w.heap.size A L →
    Calls Try.prog 85 #[.slice A L.length c] w (RetRow 3 1 (sizesF L).length (ints (sizesF L)) w) := fun w h => sizes_any A c L w h
set_option maxRecDepth 100000 in
theorem rsizes_at (A : Option Addr) (c : Nat) (L : List Nd) : ∀ w : World, NodesAt w w.heap.size A L →
    Calls Try.prog 87 #[.slice A L.length c] w (RetRow 3 1 (sizesF L).length (ints (sizesF L)) w) := fun w h => rsizes_any A c L w h
theorem sizes_len_le (L : List Nd) : (sizesF L).length ≤ L.length := by
  cases h : formedF L with
  | true => rw [sizesF_formed h, Sz_length (Nat.le_refl _)]; exact Nat.le_refl _
  | false => rw [sizesF_not h]; simp
theorem formed_of_len {L : List Nd} {k : Nat} (h : k < (sizesF L).length) : formedF L = true := by
  cases hf : formedF L with
  | true => rfl
  | false => rw [sizesF_not hf] at h; simp at h
theorem row_read {w : World} {base n c g : Nat} {l : List Nat} (h : w.ownsRow base 3 1 (.slice (some ⟨g, 0, none⟩) n c) n (ints l)) {q : Nat} (hq : q < n) : w.cell? ⟨g, q, none⟩ = some (.int .i64 ((l.getD q 0 : Nat) : Int)) := by
  rcases rowInts h with ⟨h, _⟩ | ⟨g', h, _, _, hc⟩
  · cases h
  · cases h; exact hc q hq
set_option maxRecDepth 100000 in
set_option maxHeartbeats 2000000 in
theorem kids_any (A : Option Addr) (c : Nat) (L : List Nd) (i : Int) (w : World) (hL : NodesAt w w.heap.size A L) :
    Calls Try.prog 47 #[.slice A L.length c, .int .i64 i] w (RetRow 3 1 (kidsF L i).length (ints (kidsF L i)) w) := by
  obtain ⟨i0, hi, hz0, hz1, hz2⟩ := info_parts info_int
  have HI := Lib.hid hi; clear hi
  have HZ0 := Lib.hid hz0; clear hz0
  have HZ1 := Lib.hid hz1; clear hz1
  have HZ2 := Lib.hid hz2; clear hz2
  have hlen := hL.1
  have CS := sizes_any A c L w hL
  have HL := Lib.hid hL; clear hL
  have hle := sizes_len_le L
  by_cases h0 : i < 0
  · have d0 : decide (i < 0) = true := by simpa using h0
    have hk0 : kidsF L i = [] := by unfold kidsF; rw [if_pos (.inl h0)]
    rw [hk0]
    clear hk0
    go_enter Try.func47, Try.ntmps47
    go_wp2_with fail
    refine CS.mono ?_
    rintro e1 w1 ⟨A1, c1, rfl, hrow, hb1⟩
    clear hrow
    go_wp2
    go_ret
    exact ⟨none, 0, rfl, World.ownsRow_nil _ _ _ _, hb1⟩
  by_cases h1 : ((sizesF L).length : Int) ≤ i
  · have d0 : decide (i < 0) = false := by simpa using h0
    have d1 : decide (((sizesF L).length : Int) ≤ i) = true := by simpa using h1
    have hk0 : kidsF L i = [] := by unfold kidsF; rw [if_pos (.inr h1)]
    rw [hk0]
    clear hk0
    go_enter Try.func47, Try.ntmps47
    go_wp2_with fail
    refine CS.mono ?_
    rintro e1 w1 ⟨A1, c1, rfl, hrow, hb1⟩
    clear hrow
    go_wp2
    go_ret
    exact ⟨none, 0, rfl, World.ownsRow_nil _ _ _ _, hb1⟩
  obtain ⟨k, rfl⟩ := Int.eq_ofNat_of_zero_le (show 0 ≤ i by omega)
  have hkl : k < (sizesF L).length := by omega
  have hF := formed_of_len hkl
  have hsz := sizesF_formed hF
  have hkF : kidsF L (k : Int) = (kidsRev L k (L.getD k ndEmpty).kids.toNat).reverse := by unfold kidsF; rw [if_neg (by omega)]; rfl
  rw [hkF, List.length_reverse, kidsRev_length]
  rw [hsz] at CS
  rw [Sz_length (Nat.le_refl _)] at CS
  have hltL : k < L.length := by omega
  have hat := formed_at hF hltL
  obtain ⟨N, hN⟩ : ∃ N, L.length = N := ⟨_, rfl⟩
  have hkid := fun j (hj : j < (St L k).length) => kid_at (L := L) hltL hj
  have hszl := Sz_length (L := L) (k := L.length) (Nat.le_refl _)
  have hstl := St_len (L := L) (k := k) (by omega)
  rw [hN] at CS hlen hszl hkid ⊢
  have hlt : k < N := by omega
  have HN := Lib.hid hN
  obtain ⟨x, hx⟩ : ∃ x, L.getD k ndEmpty = x := ⟨_, rfl⟩
  rw [hx] at hat ⊢
  obtain ⟨kn, hkn⟩ := Int.eq_ofNat_of_zero_le hat.1
  have HK : Hid (x.kids.toNat = kn) := Lib.hid (by omega)
  have hknl : kn ≤ (St L k).length := by omega
  have hknb : kn ≤ N := by omega
  have HKNL := Lib.hid hknl
  rw [HK.out]
  have HX := Lib.hid hx
  clear hx hat hknl hstl
  have HKID := Lib.hid hkid
  have HSZL := Lib.hid hszl
  clear hN hF hsz hkF hle h0 h1 hkl hkid hszl
  have d0 : decide ((k : Int) < 0) = false := by simp
  have d1 : decide (N ≤ k) = false := by simpa using hlt
  go_enter Try.func47, Try.ntmps47
  go_wp2_with fail
  refine CS.mono ?_
  rintro e1 w1 ⟨A1, c1, rfl, hrow, hb1⟩
  have HB1 := Lib.hid hb1
  clear CS hb1
  obtain ⟨g1, rfl⟩ : ∃ g1, A1 = some ⟨g1, 0, none⟩ := by
    rcases rowInts hrow with ⟨_, h, _⟩ | ⟨g, h, _⟩
    · omega
    · exact ⟨g, h⟩
  go_wp2
  go_loopw [6, 7] (fun o a wr => ∃ (m : Nat) (A2 : Option Addr) (c2 : Nat) (p : Int), m ≤ kn ∧ o = .slice A2 m c2 ∧ a = .int .i64 p ∧ p = (k : Int) - 1 - ((St L k).take m).sum ∧
      wr.ownsRow w.heap.size 3 1 (.slice A2 m c2) m (ints (kidsRev L k m)) ∧ wr.ownsRow w.heap.size 3 1 (.slice (some ⟨g1, 0, none⟩) N c1) N (ints (Sz L N)) ∧ Apart (.slice A2 m c2) (.slice (some ⟨g1, 0, none⟩) N c1) ∧ Below w.heap.size w wr)
    (fun o _ _ => match o with | .slice _ m _ => kn - m | _ => 0)
  case atStart => exact ⟨0, none, 0, _, by omega, rfl, rfl, by simp, World.ownsRow_nil w1 _ _ _, hrow, (fun k hk => by cases hk), HB1.out⟩
  case round =>
    clear hrow HB1
    obtain ⟨m, A2, c2, p, hm, rfl, rfl, hp, hown, hrow, hap, hB⟩ := hrel
    have HB := Lib.hid hB; clear hB
    have HAP := Lib.hid hap; clear hap
    have HP := Lib.hid hp; clear hp
    obtain ⟨b, off, rfl, hb, hn8⟩ := (HL.out.below HB.out).node hltL
    unfold Node8 at hn8
    rw [HX.out] at hn8
    obtain ⟨n0, n1, n2, n3, n4, n5, n6, n7⟩ := hn8
    by_cases hlt2 : m < kn
    · obtain ⟨q1, q2, q3, q4, q5⟩ := HKID.out m (by have := HKNL.out; omega)
      have hq : p = ((kidAt L k m : Nat) : Int) := by have := HP.out; unfold kidAt; omega
      subst hq
      have hsz := HB.out.size
      obtain ⟨y, hy⟩ : ∃ y, (St L k).getD m 0 = y := ⟨_, rfl⟩
      rw [hy] at q3 q5
      obtain ⟨q, hq⟩ : ∃ q, kidAt L k m = q := ⟨_, rfl⟩
      have hyb : y ≤ q + 1 := by have := HP.out; rw [hq] at this; omega
      rw [hq] at q3 q4 ⊢
      have HQ := Lib.hid hq
      have hqN : q < N := by omega
      have HQ3 := Lib.hid q3
      have HQ5 := Lib.hid q5
      clear q1 q2 q3 q5 hy hq
      go_wp2_with (at_builtin; first | ((refine wpList_append_elem_at _ rfl (.tmp 34) (.tmp 36) 76 rfl (w.heap.size) 3 i0 _ _ _ Try.underlying76 HI.out HZ0.out HZ1.out HZ2.out rfl (by decide) _ _ _ _ ?q1 hown _ _ ?q2 (by first | rfl | simp) ?q3 ?q4 (by unfold maxLen; omega) (by omega) (by first | omega | (simp; omega)) ?_; (case q1 => rfl); (case q2 => first | rfl | exact slice_at (by simp)); (case q3 => rfl); (case q4 => simp [Value.oneCell']); intro A5 q5 w5 hown5 hbl5 has5); obtain ⟨hrow5, hap5⟩ := row_aside hrow has5 HAP.out; have HB5 := Lib.hid (HB.out.trans hbl5); have hc5 := row_read hrow5 hqN; rw [HQ3.out] at hc5; clear has5 hbl5 hown))
      go_roundw
      case rel =>
        have e1 : ints (kidsRev L k m) ++ [Value.int .i64 (q : Int)] = ints (kidsRev L k (m + 1)) := by rw [kidsRev_succ, HQ.out]; simp
        have h5 : w5.ownsRow w.heap.size 3 1 (.slice A5 (m + 1) q5) (m + 1) (ints (kidsRev L k (m + 1))) := e1 ▸ hown5
        refine ⟨m + 1, A5, q5, _, by omega, rfl, rfl, ?_, h5, hrow5, hap5, HB5.out⟩
        have g1 := HP.out
        have g2 := HQ.out
        have g3 := HQ5.out
        rw [g2] at g1
        omega
      case measure => simp; omega
    · have hmk : m = kn := by omega
      have CR := reverse_any w.heap.size A2 c2 (kidsRev L k kn) wr (by rw [kidsRev_length]; rw [hmk] at hown; exact hown) (by rw [kidsRev_length]; omega) HB.out.size
      rw [kidsRev_length] at CR
      rw [hmk]
      clear hown hrow
      go_wp2_with fail
      refine CR.mono ?_
      rintro e6 w6 ⟨rfl, hown6, hb6⟩
      have HB6 := HB.out.trans hb6
      go_wp2
      go_ret
      exact ⟨_, _, rfl, hown6, HB6⟩
end Go.Proofs.Ytddokdjlmdoebaa

/- Walks of the package gimletref06: kids. -/
namespace Go.Proofs.Ytddokdjlmdoebaa
open Go.RowKit SetP AstP
theorem fill_back (R : List Nat) (n v : Nat) (h : 0 < n) : (List.replicate n 0 ++ R).set (n - 1) v = List.replicate (n - 1) 0 ++ (v :: R) := by
  obtain ⟨m, rfl⟩ : ∃ m, n = m + 1 := ⟨n - 1, by omega⟩
  rw [Nat.add_sub_cancel, List.replicate_succ', List.append_assoc, List.set_append_right _ _ (by simp)]
  simp
set_option maxRecDepth 100000 in
set_option maxHeartbeats 2000000 in
theorem rkids_any (A : Option Addr) (c : Nat) (L : List Nd) (i : Int) (w : World) (hL : NodesAt w w.heap.size A L) :
    Calls Try.prog 48 #[.slice A L.length c, .int .i64 i] w (RetRow 3 1 (kidsF L i).length (ints (kidsF L i)) w) := by
  obtain ⟨i0, hi, hz0, hz1, hz2⟩ := info_parts info_int
  have HI := Lib.hid hi; clear hi
  have HZ0 := Lib.hid hz0; clear hz0
  have HZ1 := Lib.hid hz1; clear hz1
  have HZ2 := Lib.hid hz2; clear hz2
  have hlen := hL.1
  have CS := rsizes_any A c L w hL
  have HL := Lib.hid hL; clear hL
  have hle := sizes_len_le L
  by_cases h0 : i < 0
  · have d0 : decide (i < 0) = true := by simpa using h0
    have hk0 : kidsF L i = [] := by unfold kidsF; rw [if_pos (.inl h0)]
    rw [hk0]
    clear hk0
    go_enter Try.func48, Try.ntmps48
    go_wp2_with fail
    refine CS.mono ?_
    rintro e1 w1 ⟨A1, c1, rfl, hrow, hb1⟩
    clear hrow
    go_wp2
    go_ret
    exact ⟨none, 0, rfl, World.ownsRow_nil _ _ _ _, hb1⟩
  by_cases h1 : ((sizesF L).length : Int) ≤ i
  · have d0 : decide (i < 0) = false := by simpa using h0
    have d1 : decide (((sizesF L).length : Int) ≤ i) = true := by simpa using h1
    have hk0 : kidsF L i = [] := by unfold kidsF; rw [if_pos (.inr h1)]
    rw [hk0]
    clear hk0
    go_enter Try.func48, Try.ntmps48
    go_wp2_with fail
    refine CS.mono ?_
    rintro e1 w1 ⟨A1, c1, rfl, hrow, hb1⟩
    clear hrow
    go_wp2
    go_ret
    exact ⟨none, 0, rfl, World.ownsRow_nil _ _ _ _, hb1⟩
  obtain ⟨k, rfl⟩ := Int.eq_ofNat_of_zero_le (show 0 ≤ i by omega)
  have hkl : k < (sizesF L).length := by omega
  have hF := formed_of_len hkl
  have hsz := sizesF_formed hF
  have hkF : kidsF L (k : Int) = (kidsRev L k (L.getD k ndEmpty).kids.toNat).reverse := by unfold kidsF; rw [if_neg (by omega)]; rfl
  rw [hkF, List.length_reverse, kidsRev_length]
  rw [hsz] at CS
  rw [Sz_length (Nat.le_refl _)] at CS
  have hltL : k < L.length := by omega
  have hat := formed_at hF hltL
  obtain ⟨N, hN⟩ : ∃ N, L.length = N := ⟨_, rfl⟩
  have hkid := fun j (hj : j < (St L k).length) => kid_at (L := L) hltL hj
  have hszl := Sz_length (L := L) (k := L.length) (Nat.le_refl _)
  have hstl := St_len (L := L) (k := k) (by omega)
  rw [hN] at CS hlen hszl hkid ⊢
  have hlt : k < N := by omega
  have HN := Lib.hid hN
  obtain ⟨x, hx⟩ : ∃ x, L.getD k ndEmpty = x := ⟨_, rfl⟩
  rw [hx] at hat ⊢
  obtain ⟨kn, hkn⟩ := Int.eq_ofNat_of_zero_le hat.1
  have HK : Hid (x.kids.toNat = kn) := Lib.hid (by omega)
  have hknl : kn ≤ (St L k).length := by omega
  have hknb : kn ≤ N := by omega
  have HKNL := Lib.hid hknl
  rw [HK.out]
  have HX := Lib.hid hx
  clear hx hat hknl hstl
  have HKID := Lib.hid hkid
  have HSZL := Lib.hid hszl
  clear hN hF hsz hkF hle h0 h1 hkl hkid hszl
  have d0 : decide ((k : Int) < 0) = false := by simp
  have d1 : decide (N ≤ k) = false := by simpa using hlt
  have hmake := make_int kn (by omega)
  go_enter Try.func48, Try.ntmps48
  go_wp2_with fail
  refine CS.mono ?_
  rintro e1 w1 ⟨A1, c1, rfl, hrow, hb1⟩
  have HB1 := Lib.hid hb1
  clear CS hb1
  obtain ⟨g1, rfl⟩ : ∃ g1, A1 = some ⟨g1, 0, none⟩ := by
    rcases rowInts hrow with ⟨_, h, _⟩ | ⟨g, h, _⟩
    · omega
    · exact ⟨g, h⟩
  obtain ⟨b, off, rfl, hb, hn8⟩ := (HL.out.below HB1.out).node hltL
  unfold Node8 at hn8
  rw [HX.out] at hn8
  obtain ⟨n0, n1, n2, n3, n4, n5, n6, n7⟩ := hn8
  go_wp2
  clear n0 n1 n2 n3 n4 n5 n6 n7
  have o1 : Slab (w1.alloc (.cells (intsA (List.replicate kn 0)) 3)) w1.heap.size (intsA (List.replicate (kn - 0) 0 ++ (kidsRev L k 0).reverse)) 3 := by
    simp only [Nat.sub_zero, kidsRev, List.range_zero, List.map_nil, List.reverse_nil, List.append_nil]; exact Slab.new _ _ _
  have HB2 := Lib.hid (HB1.out.alloc HB1.out.size (.cells (intsA (List.replicate kn 0)) 3))
  have hcr : ∀ q, q < N → w1.cell? ⟨g1, q, none⟩ = some (.int .i64 (((Sz L N).getD q 0 : Nat) : Int)) := fun q hq => row_read hrow hq
  have hg1 : N = 0 ∨ g1 < w1.heap.size := by
    by_cases h : N = 0
    · exact .inl h
    · exact .inr (block_lt_of_cell (hcr 0 (by omega)))
  have hg1' : g1 < w1.heap.size := by omega
  have hgw : w.heap.size ≤ w1.heap.size := HB1.out.size
  have HBX := Lib.hid ((Below.refl w1.heap.size w1).alloc (Nat.le_refl _) (.cells (intsA (List.replicate kn 0)) 3))
  have HCR := Lib.hid hcr
  clear hrow HB1 hmake hcr hg1
  go_loopw [7, 8] (fun a j wr => ∃ (m : Nat) (p : Int), m ≤ kn ∧ j = .int .i64 ((kn : Int) - 1 - m) ∧ a = .int .i64 p ∧ p = (k : Int) - 1 - ((St L k).take m).sum ∧
      Slab wr w1.heap.size (intsA (List.replicate (kn - m) 0 ++ (kidsRev L k m).reverse)) 3 ∧ Below w.heap.size w wr ∧ Below w1.heap.size w1 wr)
    (fun _ j _ => (intOf j + 1).toNat)
  case atStart => exact ⟨0, _, by omega, by simp, rfl, by simp, o1, HB2.out, HBX.out⟩
  case round =>
    clear o1 HB2 HBX
    obtain ⟨m, p, hm, rfl, rfl, hp, o, hB, hBX⟩ := hrel
    have HB := Lib.hid hB; clear hB
    have HBX := Lib.hid hBX; clear hBX
    have HP := Lib.hid hp; clear hp
    by_cases hlt2 : m < kn
    · obtain ⟨q1, q2, q3, q4, q5⟩ := HKID.out m (by have := HKNL.out; omega)
      have hq : p = ((kidAt L k m : Nat) : Int) := by have := HP.out; unfold kidAt; omega
      subst hq
      obtain ⟨y, hy⟩ : ∃ y, (St L k).getD m 0 = y := ⟨_, rfl⟩
      rw [hy] at q3 q5
      obtain ⟨q, hq⟩ : ∃ q, kidAt L k m = q := ⟨_, rfl⟩
      have hyb : y ≤ q + 1 := by have := HP.out; rw [hq] at this; omega
      rw [hq] at q3 q4 ⊢
      have HQ := Lib.hid hq
      have hqN : q < N := by omega
      have HQ5 := Lib.hid q5
      have hc5 : wr.cell? ⟨g1, q, none⟩ = some (.int .i64 (y : Int)) := by
        rw [← q3]
        exact (HBX.out.cell (p := ⟨g1, q, none⟩) hg1').trans (HCR.out q hqN)
      obtain ⟨r, hr⟩ : ∃ r, kn - m - 1 = r := ⟨_, rfl⟩
      have hr' : (kn : Int) - 1 - m = (r : Int) := by omega
      rw [hr']
      have hrk : r < kn := by omega
      have hlr : (List.replicate (kn - m) 0 ++ (kidsRev L k m).reverse).length = kn := by simp [kidsRev_length]; omega
      have hcw := (o.cell r).trans (ints_get _ (by rw [hlr]; exact hrk))
      obtain ⟨z, hz⟩ : ∃ z, (List.replicate (kn - m) 0 ++ (kidsRev L k m).reverse).getD r 0 = z := ⟨_, rfl⟩
      rw [hz] at hcw
      obtain ⟨c9, f9⟩ := o.facts
      have HR := Lib.hid hr
      have hne : ¬ w1.heap.size = g1 := by omega
      have hne2 : ¬ g1 = w1.heap.size := by omega
      clear q1 q2 q3 q5 hy hq hkn hlr hz c9 hr hr'
      go_wp2
      go_roundw
      case rel =>
        refine ⟨m + 1, _, by omega, ?_, rfl, ?_, ?_, ?_, ?_⟩
        · have := HR.out; congr 1; omega
        · have g1 := HP.out
          have g2 := HQ.out
          have g3 := HQ5.out
          rw [g2] at g1
          omega
        · have o2 := o.set r (.int .i64 (q : Int))
          rw [ints_put] at o2
          have e : (List.replicate (kn - m) 0 ++ (kidsRev L k m).reverse).set r q = List.replicate (kn - (m + 1)) 0 ++ (kidsRev L k (m + 1)).reverse := by
            have h := fill_back (kidsRev L k m).reverse (kn - m) q (by omega)
            rw [HR.out] at h
            rw [h, kidsRev_succ, List.reverse_append, HQ.out]
            have : kn - (m + 1) = r := by have := HR.out; omega
            rw [this]; rfl
          rw [e] at o2
          exact o2
        · exact below_set HB.out hgw _
        · exact below_set HBX.out (Nat.le_refl _) _
      case measure => simp [intOf]
    · have hmk : m = kn := by omega
      have d2 : decide ((0 : Int) ≤ (kn : Int) - 1 - (kn : Int)) = false := by simp; omega
      rw [hmk] at o ⊢
      rw [Nat.sub_self, List.replicate_zero, List.nil_append] at o
      have hrow := row_ints (base := w.heap.size) (n := kn) o hgw (by simp [kidsRev_length]) (by omega)
      clear o
      go_wp2
      go_ret
      exact ⟨_, _, rfl, hrow, HB.out⟩
end Go.Proofs.Ytddokdjlmdoebaa
