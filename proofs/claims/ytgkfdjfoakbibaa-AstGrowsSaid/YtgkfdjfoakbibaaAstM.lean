/- Walks of the packages ast and gimletref06: the groups' numbers of a list. -/
import Derived.Test.YtgkfdjfoakbibaaProg
import Derived.WalkKit
import Derived.WalkSpells
import Derived.WalkLawsBesides
import Derived.Handy
import Derived.Lib.Hide
import Derived.Test.YtgkfdjfoakbibaaAstL
import Derived.Test.YtgkfdjfoakbibaaAstF
import Derived.Deep.QuietTactic
import Derived.BigQuiet
import Derived.IntWalk
namespace Go.Proofs.Ytgkfdjfoakbibaa
open Go.RowKit SetP AstP
theorem below_only2 {B a b : Nat} {u w w' : World} (h : Below B u w) (ho : Only2 a b w w') (ha : B ≤ a) (hb : B ≤ b) (hB : B ≤ w.heap.size) : Below B u w' :=
  ⟨ho.os.trans h.os, ho.tape.trans h.tape, ho.output.trans h.output, Nat.le_trans h.size ho.size, fun k hk => (ho.block k (by omega) (by omega) (by omega)).trans (h.block k hk)⟩
theorem below_al {a w : World} (h : Below a.heap.size a w) (o : Obj) : Below a.heap.size a (w.alloc o) := h.alloc h.size o
set_option maxRecDepth 100000 in
set_option maxHeartbeats 2000000 in
theorem numbers_any (A : Option Addr) (c : Nat) (L : List Nd) (w : World) (hL : NodesAt w w.heap.size A L) :
    Calls Try.prog 31 #[.slice A L.length c] w (RetRow 3 1 (numsF L).length (ints (numsF L)) w) := by
  have hmf : ∀ (fn : Fn) (first cap : Array Value) (w : World), (Instr.makeFunc fn first cap).run Try.prog w = .ok (.func fn first cap) w := fun _ _ _ _ => rfl
  have hsf := fun (a : Addr) (c : Array Value) (w : World) => run_store Try.prog w a (.func (.func 43) #[] c) .plain rfl
  have hlen := hL.1
  have HL0 := Lib.hid hL
  have hL1 : NodesAt (w.alloc (.cells #[.slice A L.length c] 37)) (w.alloc (.cells #[.slice A L.length c] 37)).heap.size A L :=
    (hL.below ((Below.refl w.heap.size w).alloc (Nat.le_refl _) _)).more (by simp)
  have CS := sizes_any A c L _ hL1
  have o0 : Slab (w.alloc (.cells #[.slice A L.length c] 37)) w.heap.size #[.slice A L.length c] 37 := Slab.new _ _ _
  have HB0 := Lib.hid ((Below.refl w.heap.size w).alloc (Nat.le_refl _) (.cells #[.slice A L.length c] 37))
  clear hL hL1
  cases hF : formedF L with
  | false =>
    rw [sizesF_not hF] at CS
    rw [numsF_not hF]
    have hmake := make_int 0 (by omega)
    go_enter Try.func31, Try.ntmps31
    go_wp2_with fail
    refine CS.mono ?_
    rintro e1 w1 ⟨A1, c1, rfl, hrow, hb1⟩
    have HB1 := Lib.hid (below_then HB0.out hb1)
    clear hrow hb1 o0 HB0
    have hmake0 : ∀ w : World, (Instr.makeSlice 40 (.int .i64 0) (.int .i64 0)).run Try.prog w = .ok (.slice (some ⟨w.heap.size, 0, none⟩) 0 0) (w.alloc (.cells (intsA (List.replicate 0 0)) 3)) := hmake
    have o1 : Slab (w1.alloc (.cells (intsA []) 3)) w1.heap.size (intsA []) 3 := Slab.new _ _ _
    have o4 := ((o1.alloc (.cells #[.slice (some ⟨w1.heap.size, 0, none⟩) 0 0] 40)).alloc (.cells #[.int .i64 0] 3)).alloc (.cells #[wkV w.heap.size (w1.heap.size + 1 + 1) (w1.heap.size + 1) (w1.heap.size + 1 + 1 + 1)] 54)
    have hrow := row_ints (base := w.heap.size) (n := 0) o4 HB1.out.size rfl (by omega)
    clear o1 o4
    go_wp2
    go_ret
    exact ⟨_, _, rfl, hrow, below_al (below_al (below_al (below_al HB1.out _) _) _) _⟩
  | true =>
    rw [sizesF_formed hF, Sz_length (Nat.le_refl _)] at CS
    have HF := Lib.hid hF
    obtain ⟨N, hN⟩ : ∃ N, L.length = N := ⟨_, rfl⟩
    rw [hN] at hlen CS o0 HB0 ⊢
    have HN := Lib.hid hN
    rw [numsF_length HF.out, hN]
    have hmake := make_int N hlen
    have hpos := (root_size hF).1
    rw [hN] at hpos
    clear hF hN
    go_enter Try.func31, Try.ntmps31
    go_wp2_with fail
    refine CS.mono ?_
    rintro e1 w1 ⟨A1, c1, rfl, hrow, hb1⟩
    have o1 := o0.call hb1
    have HB1 := Lib.hid (below_then HB0.out hb1)
    have hsz1 : w.heap.size < w1.heap.size := o1.lt
    have p0 : Slab ((((w1.alloc (.cells (intsA (List.replicate N 0)) 3)).alloc (.cells #[.slice (some ⟨w1.heap.size, 0, none⟩) N N] 40)).alloc (.cells #[.int .i64 0] 3)).alloc (.cells #[wkV w.heap.size (w1.heap.size + 1 + 1) (w1.heap.size + 1) (w1.heap.size + 1 + 1 + 1)] 54)) w1.heap.size (intsA (List.replicate N 0)) 3 := (((Slab.new w1 _ _).alloc _).alloc _).alloc _
    have p1 : Slab ((((w1.alloc (.cells (intsA (List.replicate N 0)) 3)).alloc (.cells #[.slice (some ⟨w1.heap.size, 0, none⟩) N N] 40)).alloc (.cells #[.int .i64 0] 3)).alloc (.cells #[wkV w.heap.size (w1.heap.size + 1 + 1) (w1.heap.size + 1) (w1.heap.size + 1 + 1 + 1)] 54)) (w1.heap.size + 1) #[.slice (some ⟨w1.heap.size, 0, none⟩) N N] 40 := ((Slab.newAt _ _ _ (by simp)).alloc _).alloc _
    have p2 : Slab ((((w1.alloc (.cells (intsA (List.replicate N 0)) 3)).alloc (.cells #[.slice (some ⟨w1.heap.size, 0, none⟩) N N] 40)).alloc (.cells #[.int .i64 0] 3)).alloc (.cells #[wkV w.heap.size (w1.heap.size + 1 + 1) (w1.heap.size + 1) (w1.heap.size + 1 + 1 + 1)] 54)) (w1.heap.size + 1 + 1) #[.int .i64 0] 3 := (Slab.newAt _ _ _ (by simp)).alloc _
    have p3 : Slab ((((w1.alloc (.cells (intsA (List.replicate N 0)) 3)).alloc (.cells #[.slice (some ⟨w1.heap.size, 0, none⟩) N N] 40)).alloc (.cells #[.int .i64 0] 3)).alloc (.cells #[wkV w.heap.size (w1.heap.size + 1 + 1) (w1.heap.size + 1) (w1.heap.size + 1 + 1 + 1)] 54)) (w1.heap.size + 1 + 1 + 1) #[wkV w.heap.size (w1.heap.size + 1 + 1) (w1.heap.size + 1) (w1.heap.size + 1 + 1 + 1)] 54 := Slab.newAt _ _ _ (by simp)
    have p4 : Slab ((((w1.alloc (.cells (intsA (List.replicate N 0)) 3)).alloc (.cells #[.slice (some ⟨w1.heap.size, 0, none⟩) N N] 40)).alloc (.cells #[.int .i64 0] 3)).alloc (.cells #[wkV w.heap.size (w1.heap.size + 1 + 1) (w1.heap.size + 1) (w1.heap.size + 1 + 1 + 1)] 54)) w.heap.size #[.slice A N c] 37 := (((o1.alloc _).alloc _).alloc _).alloc _
    have hb4 : Below w.heap.size w ((((w1.alloc (.cells (intsA (List.replicate N 0)) 3)).alloc (.cells #[.slice (some ⟨w1.heap.size, 0, none⟩) N N] 40)).alloc (.cells #[.int .i64 0] 3)).alloc (.cells #[wkV w.heap.size (w1.heap.size + 1 + 1) (w1.heap.size + 1) (w1.heap.size + 1 + 1 + 1)] 54)) := below_al (below_al (below_al (below_al HB1.out _) _) _) _
    have hE : Env ((((w1.alloc (.cells (intsA (List.replicate N 0)) 3)).alloc (.cells #[.slice (some ⟨w1.heap.size, 0, none⟩) N N] 40)).alloc (.cells #[.int .i64 0] 3)).alloc (.cells #[wkV w.heap.size (w1.heap.size + 1 + 1) (w1.heap.size + 1) (w1.heap.size + 1 + 1 + 1)] 54)) w.heap.size w.heap.size (w1.heap.size + 1 + 1) (w1.heap.size + 1) (w1.heap.size + 1 + 1 + 1) w1.heap.size A c L (0, List.replicate N 0) := by
      refine ⟨?_, p2, ?_, p3, p0, by simp [HN.out], HL0.out.below hb4, by omega, by omega⟩
      · rw [HN.out]; exact p4
      · rw [HN.out]; exact p1
    obtain ⟨r, hr⟩ : ∃ r, N = r + 1 := ⟨N - 1, by omega⟩
    have hw := numsF_walk HF.out
    rw [HN.out, show N - 1 = r by omega] at hw
    have hlast : (walkN L N r (0, List.replicate N 0)).1 ≤ 2000000000000 := by
      have d := walk_did HF.out N r (by rw [HN.out]; omega) (by omega) (0, List.replicate N 0) (by simp [HN.out])
      have e := d.num
      have := cnt_le (grp L) (fst L r) (sizeAt L r)
      have := sizeAt_le (L := L) (k := r) (by rw [HN.out]; omega)
      simp only at e; omega
    have CW := num_any N r _ w.heap.size w.heap.size (w1.heap.size + 1 + 1) (w1.heap.size + 1) (w1.heap.size + 1 + 1 + 1) w1.heap.size A c L _ hE HF.out (by rw [HN.out]; omega) (by omega) hlast
    unfold wkArgs at CW
    have hr' : (N : Int) - 1 = (r : Int) := by omega
    have HR := Lib.hid hr'
    have HW := Lib.hid hw
    have HB4 := Lib.hid hb4
    obtain ⟨c1', f1'⟩ := p1.facts
    obtain ⟨c3', f3'⟩ := p3.facts
    obtain ⟨c4', f4'⟩ := p4.facts
    clear hrow hb1 o0 HB0 hE hw hlast hr' hr p0 p1 p2 p3 p4 hb4 o1
    go_wp2_with fail
    rw [HR.out]
    refine CW.mono ?_
    rintro e5 w5 ⟨rfl, hE5, hO5⟩
    have HB5 := Lib.hid (below_only2 HB4.out hO5 (by omega) (by omega) HB4.out.size)
    have hrow := row_ints (base := w.heap.size) (n := N) hE5.row (by omega) (hE5.len.trans HN.out) hlen
    rw [HW.out] at hrow
    have ho := hE5.o
    rw [HN.out] at ho
    obtain ⟨c5, f5⟩ := ho.facts
    clear hE5 hO5 ho CW c1' c3' c4' f1' f3' f4'
    go_wp2
    go_ret
    exact ⟨_, _, rfl, hrow, HB5.out⟩
/-- How many groups stand ahead of a node, or are it, among the first k nodes. -/
theorem rankIn_succ (L : List Nd) (k j : Nat) : rankIn L 0 (k + 1) j = if grp L k && prec L j k then rankIn L 0 k j + 1 else rankIn L 0 k j := by
  unfold rankIn
  rw [cnt, Nat.zero_add]
  cases grp L k && prec L j k <;> rfl
def numAt (L : List Nd) (j : Nat) : Nat := if grp L j then rankIn L 0 L.length j else 0
def Nums (L : List Nd) (k : Nat) : List Nat := (List.range k).map (numAt L)
theorem Nums_succ (L : List Nd) (k : Nat) : Nums L (k + 1) = Nums L k ++ [numAt L k] := by unfold Nums; rw [List.range_succ, List.map_append]; rfl
theorem Nums_length (L : List Nd) (k : Nat) : (Nums L k).length = k := by unfold Nums; simp
theorem numsF_Nums {L : List Nd} (hF : formedF L = true) : numsF L = Nums L L.length := by unfold numsF Nums; rw [if_pos hF]; rfl
theorem rank_le (L : List Nd) (k j : Nat) : rankIn L 0 k j ≤ k := cnt_le _ _ _
set_option maxRecDepth 100000 in
set_option maxHeartbeats 2000000 in
theorem rnumbers_any (A : Option Addr) (c : Nat) (L : List Nd) (w : World) (hL : NodesAt w w.heap.size A L) :
    Calls Try.prog 32 #[.slice A L.length c] w (RetRow 3 1 (numsF L).length (ints (numsF L)) w) := by
  have hlen := hL.1
  have CS := rsizes_any A c L w hL
  have HL := Lib.hid hL
  clear hL
  cases hF : formedF L with
  | false =>
    rw [sizesF_not hF] at CS
    rw [numsF_not hF]
    have hmake := make_int 0 (by omega)
    have hmake0 : ∀ w : World, (Instr.makeSlice 40 (.int .i64 0) (.int .i64 0)).run Try.prog w = .ok (.slice (some ⟨w.heap.size, 0, none⟩) 0 0) (w.alloc (.cells (intsA (List.replicate 0 0)) 3)) := hmake
    go_enter Try.func32, Try.ntmps32
    go_wp2_with fail
    refine CS.mono ?_
    rintro e1 w1 ⟨A1, c1, rfl, hrow, hb1⟩
    have HB1 := Lib.hid hb1
    clear hrow hb1
    have o1 : Slab (w1.alloc (.cells (intsA []) 3)) w1.heap.size (intsA []) 3 := Slab.new _ _ _
    have hrow := row_ints (base := w.heap.size) (n := 0) o1 HB1.out.size rfl (by omega)
    clear o1
    go_wp2
    go_rounds 1
    go_ret
    exact ⟨_, _, rfl, hrow, below_al HB1.out _⟩
  | true =>
    rw [sizesF_formed hF, Sz_length (Nat.le_refl _)] at CS
    have hnn := numsF_Nums hF
    rw [hnn, Nums_length]
    have HF := Lib.hid hF
    obtain ⟨N, hN⟩ : ∃ N, L.length = N := ⟨_, rfl⟩
    rw [hN] at hlen CS ⊢
    have HN := Lib.hid hN
    have hmake := make_int N hlen
    clear hF hN hnn
    go_enter Try.func32, Try.ntmps32
    go_wp2_with fail
    refine CS.mono ?_
    rintro e1 w1 ⟨A1, c1, rfl, hrow, hb1⟩
    have HB1 := Lib.hid hb1
    have hrd := rowInts hrow
    have hrd' : N = 0 ∨ ∃ g1, A1 = some ⟨g1, 0, none⟩ ∧ g1 < w1.heap.size ∧ ∀ q, q < N → w1.cell? ⟨g1, q, none⟩ = some (.int .i64 ((sizeAt L q : Nat) : Int)) := by
      rcases hrd with ⟨_, h, _⟩ | ⟨g1, h, _, _, hc⟩
      · exact .inl h
      · by_cases h0 : N = 0
        · exact .inl h0
        · exact .inr ⟨g1, h, block_lt_of_cell (hc 0 (by omega)), fun q hq => by rw [hc q hq, Sz_getD hq (by rw [HN.out]; exact Nat.le_refl _)]⟩
    have HRD := Lib.hid hrd'
    clear hrow hb1 hrd hrd' CS
    have o1 : Slab (w1.alloc (.cells (intsA (List.replicate N 0)) 3)) w1.heap.size (intsA (Nums L 0 ++ List.replicate (N - 0) 0)) 3 := Slab.new _ _ _
    have HB2 := Lib.hid (below_al HB1.out (.cells (intsA (List.replicate N 0)) 3))
    have HBX := Lib.hid ((Below.refl w1.heap.size w1).alloc (Nat.le_refl _) (.cells (intsA (List.replicate N 0)) 3))
    have hgw : w.heap.size ≤ w1.heap.size := HB1.out.size
    clear HB1
    go_wp2
    clear hmake
    go_loopw [5] (fun i wr => ∃ k : Nat, k ≤ N ∧ i = .int .i64 k ∧ Slab wr w1.heap.size (intsA (Nums L k ++ List.replicate (N - k) 0)) 3 ∧ Below w.heap.size w wr ∧ Below w1.heap.size w1 wr) (fun i _ => N - (intOf i).toNat)
    case atStart => exact ⟨0, by omega, rfl, o1, HB2.out, HBX.out⟩
    case round =>
      clear o1 HB2 HBX
      obtain ⟨k, hk, rfl, o, hB, hBX⟩ := hrel
      have HB := Lib.hid hB; clear hB
      have HBX := Lib.hid hBX; clear hBX
      by_cases hlt : k < N
      · have hltL : k < L.length := by rw [HN.out]; exact hlt
        have hlk := Nums_length L k
        obtain ⟨b, off, rfl, hb, hn8⟩ := (HL.out.below HB.out).node hltL
        unfold Node8 at hn8
        obtain ⟨x, hx⟩ : ∃ x, L.getD k ndEmpty = x := ⟨_, rfl⟩
        rw [hx] at hn8
        have HX := Lib.hid hx; clear hx
        obtain ⟨n0, n1, n2, n3, n4, n5, n6, n7⟩ := hn8
        cases h3 : (x.kind == 3) with
        | false =>
          have h3n : (x.kind != 3) = true := by unfold bne; rw [h3]; rfl
          have hg : grp L k = false := by unfold grp; rw [HX.out]; exact h3
          have hn0 : numAt L k = 0 := by unfold numAt; rw [hg]; rfl
          have e : Nums L k ++ List.replicate (N - k) 0 = Nums L (k + 1) ++ List.replicate (N - (k + 1)) 0 := by
            rw [Nums_succ, hn0, List.append_assoc]
            congr 1
            rw [show N - k = (N - (k + 1)) + 1 by omega, List.replicate_succ]; rfl
          rw [e] at o
          clear hg hn0 e
          go_wp2
          go_roundw
          case rel => exact ⟨k + 1, by omega, by go_num, o, HB.out, HBX.out⟩
          case measure => simp [intOf]; omega
        | true =>
          have h3n : (x.kind != 3) = false := by unfold bne; rw [h3]; rfl
          have hg : grp L k = true := by unfold grp; rw [HX.out]; exact h3
          have HG := Lib.hid hg
          obtain ⟨g1, rfl, hg1, hc1⟩ : ∃ g1, A1 = some ⟨g1, 0, none⟩ ∧ g1 < w1.heap.size ∧ ∀ q, q < N → w1.cell? ⟨g1, q, none⟩ = some (.int .i64 ((sizeAt L q : Nat) : Int)) := by
            rcases HRD.out with h | h
            · omega
            · exact h
          have HC1 := Lib.hid hc1
          clear hg hc1 n1 n2 n3 n4 n5 n6 n7
          go_wp2
          go_loopw [6] (fun j wr => ∃ m : Nat, m ≤ N ∧ j = .int .i64 m ∧ Slab wr w1.heap.size (intsA (Nums L k ++ rankIn L 0 m k :: List.replicate (N - k - 1) 0)) 3 ∧ Below w.heap.size w wr ∧ Below w1.heap.size w1 wr) (fun j _ => N - (intOf j).toNat)
          case atStart =>
            refine ⟨0, by omega, rfl, ?_, HB.out, HBX.out⟩
            have e : Nums L k ++ List.replicate (N - k) 0 = Nums L k ++ rankIn L 0 0 k :: List.replicate (N - k - 1) 0 := by
              congr 1
              rw [show N - k = (N - k - 1) + 1 by omega, List.replicate_succ]; rfl
            rw [e] at o; exact o
          case round =>
            clear o HB HBX n0
            obtain ⟨m, hm, rfl, o, hB, hBX⟩ := hrel
            have HB := Lib.hid hB; clear hB
            have HBX := Lib.hid hBX; clear hBX
            by_cases hlt2 : m < N
            · have hltM : m < L.length := by rw [HN.out]; exact hlt2
              obtain ⟨b', off', he, _, hn9⟩ := (HL.out.below HB.out).node hltM
              cases he
              have ck : wr.cell? ⟨g1, k, none⟩ = some (.int .i64 ((sizeAt L k : Nat) : Int)) := (HBX.out.cell (p := ⟨g1, k, none⟩) hg1).trans (HC1.out k hlt)
              have cm : wr.cell? ⟨g1, m, none⟩ = some (.int .i64 ((sizeAt L m : Nat) : Int)) := (HBX.out.cell (p := ⟨g1, m, none⟩) hg1).trans (HC1.out m hlt2)
              have sk := sizeAt_le (L := L) (k := k) (by omega)
              have sm := sizeAt_le (L := L) (k := m) (by omega)
              have hprec : prec L k m = (decide ((m : Int) - (sizeAt L m : Nat) < (k : Int) - (sizeAt L k : Nat)) || (((m : Int) - (sizeAt L m : Nat) == (k : Int) - (sizeAt L k : Nat)) && decide (k ≤ m))) := by
                unfold prec fst
                congr 1
                · rw [Bool.eq_iff_iff]; simp; omega
                · congr 1
                  rw [Bool.eq_iff_iff]; simp; omega
              have hrs := rankIn_succ L m k
              have hrl := rank_le L m k
              have hgm : grp L m = ((L.getD m ndEmpty).kind == 3) := rfl
              obtain ⟨y, hy⟩ : ∃ y, L.getD m ndEmpty = y := ⟨_, rfl⟩
              rw [hy] at hn9 hgm
              unfold Node8 at hn9
              obtain ⟨m0, _⟩ := hn9
              rw [hgm, hprec] at hrs
              obtain ⟨a, ha⟩ : ∃ a, sizeAt L k = a := ⟨_, rfl⟩
              obtain ⟨d, hd⟩ : ∃ d, sizeAt L m = d := ⟨_, rfl⟩
              rw [ha] at ck sk hrs
              rw [hd] at cm sm hrs
              obtain ⟨q, hq⟩ : ∃ q : Int, (k : Int) - (a : Nat) = q := ⟨_, rfl⟩
              obtain ⟨p, hp⟩ : ∃ p : Int, (m : Int) - (d : Nat) = p := ⟨_, rfl⟩
              rw [hq, hp] at hrs
              have x0 : IntKind.i64.wrap ((k : Int) - (a : Int)) = q := by rw [← hq]; exact IntWalk.i64_in _ (by omega)
              have x1 : IntKind.i64.wrap ((m : Int) - (d : Int)) = p := by rw [← hp]; exact IntWalk.i64_in _ (by omega)
              have i1 : (k : Int) < (N : Int) := by omega
              have i2 : (m : Int) < (N : Int) := by omega
              have HRS := Lib.hid hrs
              have hlr : (Nums L k ++ rankIn L 0 m k :: List.replicate (N - k - 1) 0).length = N := by simp [Nums_length]; omega
              have hcr := (o.cell k).trans (ints_get _ (by rw [hlr]; exact hlt))
              have hgk : (Nums L k ++ rankIn L 0 m k :: List.replicate (N - k - 1) 0).getD k 0 = rankIn L 0 m k := by
                rw [List.getD_eq_getElem?_getD, List.getElem?_append_right (by rw [hlk]; exact Nat.le_refl _), hlk, Nat.sub_self]; rfl
              rw [hgk] at hcr
              have hbx : rankIn L 0 m k ≤ N := by omega
              obtain ⟨Z, hZ⟩ : ∃ Z, rankIn L 0 m k = Z := ⟨_, rfl⟩
              rw [hZ] at hcr hbx
              have HZ := Lib.hid hZ
              obtain ⟨c7, f7⟩ := o.facts
              have hst : ∀ v : Nat, (intsA (Nums L k ++ rankIn L 0 m k :: List.replicate (N - k - 1) 0)).setIfInBounds k (.int .i64 (v : Int)) = intsA (Nums L k ++ v :: List.replicate (N - k - 1) 0) := fun v => by
                rw [ints_put, List.set_append_right _ _ (by rw [hlk]; exact Nat.le_refl _), hlk, Nat.sub_self]; rfl
              have HST := Lib.hid hst
              clear hprec hrs hrl hgm hy ha hd hq hp sk sm hlr hgk hZ c7 hst hlk
              cases h4 : (y.kind == 3) <;> cases h5 : decide (p < q) <;> cases h6 : (p == q) <;> cases h7 : decide (k ≤ m)
              all_goals
                have h7' : decide ((k : Int) ≤ (m : Int)) = decide (k ≤ m) := by rw [Bool.eq_iff_iff]; simp
                rw [h7] at h7'
                have hrs := HRS.out
                rw [h4, h5, h6, h7] at hrs
                simp only [Bool.false_and, Bool.and_false, Bool.true_and, Bool.and_true, Bool.or_false, Bool.or_true, Bool.true_or, Bool.false_or, Bool.and_self, Bool.or_self, if_true, Bool.false_eq_true, if_false] at hrs
                have HR2 := Lib.hid hrs
                clear hrs
                go_wp2
                go_quiet (fail)
                go_wp2
                go_roundw
                case rel =>
                  refine ⟨m + 1, by omega, by go_num, ?_, ?_, ?_⟩
                  · first
                    | (rw [HR2.out]; exact o)
                    | (have o2 := o.set k (.int .i64 ((Z : Int) + 1))
                       rw [show ((Z : Int) + 1) = ((Z + 1 : Nat) : Int) from rfl, HST.out] at o2
                       rw [HR2.out, HZ.out]; exact o2)
                  · first
                    | exact below_drewN HB.out _
                    | exact below_set (below_drewN HB.out _) hgw _
                  · first
                    | exact below_drewN HBX.out _
                    | exact below_set (below_drewN HBX.out _) (Nat.le_refl _) _
                case measure => simp [intOf]; omega
            · have hmN : m = N := by omega
              have hnk : numAt L k = rankIn L 0 m k := by unfold numAt; rw [HG.out, if_pos rfl, HN.out, hmN]
              have e : Nums L k ++ rankIn L 0 m k :: List.replicate (N - k - 1) 0 = Nums L (k + 1) ++ List.replicate (N - (k + 1)) 0 := by
                rw [Nums_succ, hnk, List.append_assoc]; rfl
              rw [e] at o
              clear hnk e
              go_wp2
              go_roundw
              case rel => exact ⟨k + 1, by omega, by go_num, o, HB.out, HBX.out⟩
              case measure => simp [intOf]; omega
      · obtain rfl : k = N := by omega
        have hrow := row_ints (base := w.heap.size) (n := k) o hgw (by simp [Nums_length]) hlen
        rw [Nat.sub_self, List.replicate_zero, List.append_nil] at hrow
        clear o
        go_wp2
        go_ret
        exact ⟨_, _, rfl, hrow, HB.out⟩
end Go.Proofs.Ytgkfdjfoakbibaa
