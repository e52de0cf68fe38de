/- Walks of the package gimletref06: each node's size; kids. -/
import Derived.Test.YtgkfdjfoakbibaaProg
import Derived.WalkKit
import Derived.WalkSpells
import Derived.WalkLawsBesides
import Derived.Handy
import Derived.Lib.Hide
import Derived.Test.YtgkfdjfoakbibaaAstB
import Derived.Deep.OwnRows
import Derived.Laws.OwnMore
namespace Go.Proofs.Ytgkfdjfoakbibaa
open Go.RowKit SetP AstP
abbrev intsA (l : List Nat) : Array Value := (ints l).toArray
theorem made_ints (n : Nat) : madeCells #[Value.int .i64 0] n = intsA (List.replicate n 0) := by
  apply Array.toList_inj.1
  rw [toList_madeCells_one]; simp
theorem make_int (n : Nat) (h : n ≤ 1000000000000) (w : World) : (Instr.makeSlice 40 (.int .i64 (n : Int)) (.int .i64 (n : Int))).run Try.prog w = .ok (.slice (some ⟨w.heap.size, 0, none⟩) n n) (w.alloc (.cells (intsA (List.replicate n 0)) 3)) := by
  have := run_make_row' (P := Try.prog) 40 3 (.int .i64 0) 8 Try.underlying40 info_int rfl .i64 .i64 n (by omega) (by omega) w
  rwa [made_ints] at this
theorem ints_get (l : List Nat) {j : Nat} (h : j < l.length) : (intsA l)[j]? = some (.int .i64 ((l.getD j 0 : Nat) : Int)) := by
  rw [List.getD_eq_getElem?_getD, List.getElem?_eq_getElem h]
  simp [h]
theorem ints_put (l : List Nat) (j v : Nat) : (intsA l).setIfInBounds j (.int .i64 (v : Int)) = intsA (l.set j v) := by
  apply Array.toList_inj.1
  simp [List.map_set]
theorem fill_put (a : List Nat) (n v : Nat) (h : 0 < n) : (a ++ List.replicate n 0).set a.length v = (a ++ [v]) ++ List.replicate (n - 1) 0 := by
  obtain ⟨m, rfl⟩ : ∃ m, n = m + 1 := ⟨n - 1, by omega⟩
  rw [List.set_append_right _ _ (Nat.le_refl _), Nat.sub_self, List.replicate_succ]
  simp
/-- A row of numbers in a block of its own, whole. -/
theorem row_ints {w : World} {base g n : Nat} {l : List Nat} (h : Slab w g (intsA l) 3) (hb : base ≤ g) (hl : l.length = n) (hn : n ≤ 1000000000000) : w.ownsRow base 3 1 (.slice (some ⟨g, 0, none⟩) n n) n (ints l) := by
  have := row_lit (base := base) (size := 1) (n := n) h hb (by simp [hl]) (by unfold maxLen; omega)
  simpa using this
set_option maxRecDepth 100000 in
set_option maxHeartbeats 2000000 in
theorem rsizes_any (A : Option Addr) (c : Nat) (L : List Nd) (w : World) (hL : NodesAt w w.heap.size A L) :
    Calls Try.prog 28 #[.slice A L.length c] w (RetRow 3 1 (sizesF L).length (ints (sizesF L)) w) := by
  obtain ⟨i0, hi, hz0, hz1, hz2⟩ := info_parts info_int
  have HI := Lib.hid hi; clear hi
  have HZ0 := Lib.hid hz0; clear hz0
  have HZ1 := Lib.hid hz1; clear hz1
  have HZ2 := Lib.hid hz2; clear hz2
  have hlen := hL.1
  have CF := rformed_any A c L w hL
  have HL := Lib.hid hL; clear hL
  cases hF : formedF L with
  | false =>
    rw [hF] at CF
    rw [sizesF_not hF]
    go_enter Try.func28, Try.ntmps28
    go_wp2_with fail
    refine CF.mono ?_
    rintro e1 w1 ⟨rfl, hb1⟩
    go_wp2
    go_ret
    exact ⟨none, 0, rfl, World.ownsRow_nil _ _ _ _, hb1⟩
  | true =>
  rw [hF] at CF
  rw [sizesF_formed hF]
  have HF := Lib.hid hF; clear hF
  obtain ⟨N, hN⟩ : ∃ N, L.length = N := ⟨_, rfl⟩
  rw [hN] at hlen CF
  have HN := Lib.hid hN
  rw [Sz_length (Nat.le_refl _), hN]
  clear hN
  go_enter Try.func28, Try.ntmps28
  go_wp2_with fail
  refine CF.mono ?_
  rintro e1 w1 ⟨rfl, hb1⟩
  have HB1 := Lib.hid hb1; clear hb1
  clear CF
  have hmake := make_int N hlen
  go_wp2
  have o1 : Slab (w1.alloc (.cells (intsA (List.replicate N 0)) 3)) w1.heap.size (intsA (Sz L 0 ++ List.replicate (N - 0) 0)) 3 := Slab.new _ _ _
  have HB2 := Lib.hid (HB1.out.alloc HB1.out.size (.cells (intsA (List.replicate N 0)) 3))
  have hg : w.heap.size ≤ w1.heap.size := HB1.out.size
  clear HB1 hmake
  go_loopw [4] (fun i wr => ∃ k : Nat, k ≤ N ∧ i = .int .i64 k ∧ Slab wr w1.heap.size (intsA (Sz L k ++ List.replicate (N - k) 0)) 3 ∧ Below w.heap.size w wr) (fun i _ => N - (intOf i).toNat)
  case atStart => exact ⟨0, by omega, rfl, o1, HB2.out⟩
  case round =>
    clear o1 HB2
    obtain ⟨k, hk, rfl, o, hB⟩ := hrel
    have HB := Lib.hid hB; clear hB
    by_cases hlt : k < N
    · have hltL : k < L.length := by rw [HN.out]; exact hlt
      obtain ⟨b, off, rfl, hb, hn8⟩ := (HL.out.below HB.out).node hltL
      unfold Node8 at hn8
      obtain ⟨x, hx⟩ : ∃ x, L.getD k ndEmpty = x := ⟨_, rfl⟩
      rw [hx] at hn8
      have HX := Lib.hid hx; clear hx
      obtain ⟨n0, n1, n2, n3, n4, n5, n6, n7⟩ := hn8
      have hat := formed_at HF.out hltL
      rw [HX.out] at hat
      obtain ⟨kn, hkn⟩ := Int.eq_ofNat_of_zero_le hat.1
      have HK : Hid (x.kids.toNat = kn) := Lib.hid (by omega)
      have HKL : Hid (kn ≤ (St L k).length) := Lib.hid (by omega)
      have hsA : sizeAt L k = 1 + ((St L k).take kn).sum := by unfold sizeAt; rw [HX.out, HK.out]
      have HSA := Lib.hid hsA; clear hsA hat
      have HCH := Lib.hid (St_chain (L := L) (k := k) (by omega))
      have HSL := Lib.hid (Sz_length (L := L) (k := k) (by omega))
      have hkb : kn ≤ N := by have := St_len (L := L) (k := k) (by omega); have := HKL.out; omega
      go_wp2
      go_loopw [5, 6] (fun a j wr2 => ∃ (m : Nat) (p : Int), m ≤ kn ∧ j = .int .i64 m ∧ a = .int .i64 p ∧ p = (k : Int) - 1 - ((St L k).take m).sum ∧ wr2 = wr) (fun _ j _ => kn - (intOf j).toNat)
      case atStart => exact ⟨0, _, by omega, rfl, rfl, by simp, rfl⟩
      case round =>
        obtain ⟨m, p, hm, rfl, rfl, hp, rfl⟩ := hrel
        by_cases hlt2 : m < kn
        · obtain ⟨q1, q2, q3⟩ := chain_at HCH.out (m := m) (by have := HKL.out; omega)
          obtain ⟨q, hq⟩ := Int.eq_ofNat_of_zero_le (show 0 ≤ p by omega)
          subst hq
          have hq' : q = k - ((St L k).take m).sum - 1 := by omega
          have hqk : q < k := by omega
          have hl := HSL.out
          have hcell := (o.cell q).trans (ints_get _ (by rw [List.length_append, hl]; omega))
          have hgd : (Sz L k ++ List.replicate (N - k) 0).getD q 0 = (St L k).getD m 0 := by
            rw [List.getD_eq_getElem?_getD, List.getElem?_append_left (by omega), hq', q3]; rfl
          rw [hgd] at hcell
          have hs1 := sum_take_succ (l := St L k) (j := m) (by have := HKL.out; omega)
          have HS1 := Lib.hid hs1
          have HP := Lib.hid hp
          generalize hy : (St L k).getD m 0 = y at *
          have hyb : y ≤ q + 1 := by omega
          clear hs1 hp q1 q2 q3 hgd hq' hl hy
          go_wp2
          go_roundw
          case rel => exact ⟨m + 1, _, by omega, by go_num, rfl, by have := HS1.out; have := HP.out; omega, by trivial⟩
          case measure => simp [intOf]; omega
        · have hmk : m = kn := by omega
          rw [hmk] at hp
          have hsz := sizeAt_le (L := L) (k := k) (by omega)
          have e1 : (Value.int .i64 ((k : Int) - p)) = .int .i64 ((sizeAt L k : Nat) : Int) := by rw [HSA.out, hp]; congr 1; omega
          have E1 := Lib.hid e1
          have hpb : -1 ≤ p ∧ p ≤ k := by rw [HSA.out] at hsz; omega
          obtain ⟨c1, f1⟩ := o.facts
          have hsize : k < (intsA (Sz L k ++ List.replicate (N - k) 0)).size := by have := HSL.out; simp; omega
          have hck := (o.cell k).trans (ints_get _ (by have := HSL.out; simp; omega))
          obtain ⟨z, hz⟩ : ∃ z, (Sz L k ++ List.replicate (N - k) 0).getD k 0 = z := ⟨_, rfl⟩
          rw [hz] at hck
          clear hp hsz e1 c1 hsize hz
          go_wp2
          go_roundw
          case rel =>
            refine ⟨k + 1, by omega, by go_num, ?_, by have := HB.out; (repeat' (first | (with_reducible exact Below.refl _ _) | (with_reducible assumption) | (with_reducible refine Below.alloc ?_ ?_ _) | (with_reducible refine Below.drew ?_) | (with_reducible refine below_set ?_ ?_ _) | (with_reducible refine below_call ?_ ?_ (by assumption)) | (with_reducible exact Below.size (by assumption)) | omega | go_size))⟩
            have o2 := o.set k (.int .i64 ((k : Int) - p))
            rw [E1.out, ints_put] at o2
            rw [E1.out]
            have e : (Sz L k ++ List.replicate (N - k) 0).set k (sizeAt L k) = Sz L (k + 1) ++ List.replicate (N - (k + 1)) 0 := by
              have h := fill_put (Sz L k) (N - k) (sizeAt L k) (by omega)
              rw [HSL.out] at h
              rw [h, Sz_succ hltL]; congr 2
            rw [e] at o2
            exact o2
          case measure => simp [intOf]; omega
    · obtain rfl : k = N := by omega
      have hrow := row_ints (base := w.heap.size) (n := k) o hg (by have := Sz_length (L := L) (k := k) (by rw [HN.out]; exact Nat.le_refl _); simp [this]) hlen
      rw [Nat.sub_self, List.replicate_zero, List.append_nil] at hrow
      go_wp2
      go_ret
      exact ⟨_, _, rfl, hrow, HB.out⟩
end Go.Proofs.Ytgkfdjfoakbibaa
