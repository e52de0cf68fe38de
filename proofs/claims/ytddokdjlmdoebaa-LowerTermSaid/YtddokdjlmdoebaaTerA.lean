/- Walks of gimletref10: whether a list is a term. -/
import Derived.Test.YtddokdjlmdoebaaProg
import Derived.WalkKit
import Derived.WalkSpells
import Derived.WalkLawsBesides
import Derived.Handy
import Derived.Lib.Hide
import Derived.Test.YtddokdjlmdoebaaMLoV
import Derived.Deep.QuietTactic
import Derived.Deep.Cut
import Derived.BigQuiet
set_option linter.unusedVariables false
set_option linter.unusedSimpArgs false
namespace Go.Proofs.Ytddokdjlmdoebaa
open Go.RowKit SetP AstP LowP ParP
set_option maxRecDepth 100000 in
set_option maxHeartbeats 2000000 in
theorem rpart_leaf (kd : Int) (h : kd = 1 ∨ kd = 2) (w : World) : Calls Try.prog 104 #[.int .i64 kd] w fun e w' => e = .returned (.tuple #[.bool false, .bool false]) ∧ w = w' := by
  rcases h with rfl | rfl
  all_goals
    go_enter Try.func104, Try.ntmps104
    go_wp2
    go_ret2
    exact ⟨rfl, rfl⟩
set_option maxRecDepth 100000 in
set_option maxHeartbeats 2000000 in
theorem rpart_two (kd : Int) (h : kd = 3 ∨ kd = 4) (w : World) : Calls Try.prog 104 #[.int .i64 kd] w fun e w' => e = .returned (.tuple #[.bool true, .bool true]) ∧ w = w' := by
  rcases h with rfl | rfl
  all_goals
    go_enter Try.func104, Try.ntmps104
    go_wp2
    go_ret2
    exact ⟨rfl, rfl⟩
set_option maxRecDepth 100000 in
set_option maxHeartbeats 2000000 in
theorem rpart_one (kd : Int) (h : kd = 5 ∨ kd = 6 ∨ kd = 7 ∨ kd = 8) (w : World) : Calls Try.prog 104 #[.int .i64 kd] w fun e w' => e = .returned (.tuple #[.bool true, .bool false]) ∧ w = w' := by
  rcases h with rfl | rfl | rfl | rfl
  all_goals
    go_enter Try.func104, Try.ntmps104
    go_wp2
    go_ret2
    exact ⟨rfl, rfl⟩
theorem takes_get {lo : List Nat} {k m N j : Nat} (hj : j < k) (hk : k ≤ lo.length) : (lo.take k ++ m :: List.replicate (N - k - 1) 0).getD j 0 = lo.getD j 0 := by
  rw [List.getD_eq_getElem?_getD, List.getElem?_append_left (by rw [List.length_take]; omega), List.getElem?_take_of_lt hj, List.getD_eq_getElem?_getD]
theorem takes_set {lo : List Nat} {k N : Nat} (hk : k < N) (hl : lo.length = N) (v : Nat) : (lo.take k ++ List.replicate (N - k) 0).set k v = lo.take k ++ v :: List.replicate (N - k - 1) 0 := by
  obtain ⟨d, hd⟩ : ∃ d, N - k = d + 1 := ⟨N - k - 1, by omega⟩
  have ht : (lo.take k).length = k := by rw [List.length_take]; omega
  rw [List.set_append_right _ _ (by omega), ht, Nat.sub_self, hd, List.replicate_succ, List.set_cons_zero]
  rfl
theorem takes_set2 {lo : List Nat} {k N : Nat} (hk : k < N) (hl : lo.length = N) (u v : Nat) : (lo.take k ++ u :: List.replicate (N - k - 1) 0).set k v = lo.take k ++ v :: List.replicate (N - k - 1) 0 := by
  have ht : (lo.take k).length = k := by rw [List.length_take]; omega
  rw [List.set_append_right _ _ (by omega), ht, Nat.sub_self, List.set_cons_zero]
theorem takes_next {lo : List Nat} {k N : Nat} (hk : k < N) (hl : lo.length = N) : lo.take k ++ lo.getD k 0 :: List.replicate (N - k - 1) 0 = lo.take (k + 1) ++ List.replicate (N - (k + 1)) 0 := by
  rw [take_snoc (by omega), List.append_assoc]; rfl
/-- The row while it is made. -/
theorem takes_at {w : World} {g : Nat} {lo : List Nat} {k m N j : Nat} (h : Slab w g (intsA (lo.take k ++ m :: List.replicate (N - k - 1) 0)) 3) (hj : j < k) (hk : k ≤ lo.length) : w.cell? ⟨g, j, none⟩ = some (.int .i64 ((lo.getD j 0 : Nat) : Int)) := by
  rw [h.cell, ints_get _ (by rw [List.length_append, List.length_take]; omega), takes_get hj hk]
theorem takes_zero {w : World} {g : Nat} {lo : List Nat} {k N : Nat} (h : Slab w g (intsA (lo.take k ++ List.replicate (N - k) 0)) 3) (hk : k < N) (hl : lo.length = N) : w.cell? ⟨g, k, none⟩ = some (.int .i64 0) := by
  have ht : (lo.take k).length = k := by rw [List.length_take]; omega
  rw [h.cell, ints_get _ (by rw [List.length_append, List.length_replicate]; omega), List.getD_eq_getElem?_getD, List.getElem?_append_right (by omega), ht, Nat.sub_self, List.getElem?_replicate, if_pos (by omega)]
  rfl
theorem takes_mid {w : World} {g : Nat} {lo : List Nat} {k m N : Nat} (h : Slab w g (intsA (lo.take k ++ m :: List.replicate (N - k - 1) 0)) 3) (hk : k < N) (hl : lo.length = N) : w.cell? ⟨g, k, none⟩ = some (.int .i64 (m : Nat)) := by
  have ht : (lo.take k).length = k := by rw [List.length_take]; omega
  rw [h.cell, ints_get _ (by rw [List.length_append, List.length_cons]; omega), List.getD_eq_getElem?_getD, List.getElem?_append_right (by omega), ht, Nat.sub_self]
  rfl
theorem takes_lo {lo : List Nat} {j k : Nat} (h : j < k) : (lo.take k).getD j 0 = lo.getD j 0 := by
  rw [List.getD_eq_getElem?_getD, List.getElem?_take_of_lt h, List.getD_eq_getElem?_getD]
theorem mem_cut {L : List Tm} {a m k : Nat} (h0 : a ≤ m) (h1 : m < k) (h2 : k ≤ L.length) : L.getD m tmE ∈ (L.take k).drop a := by
  have e : ((L.take k).drop a)[m - a]? = some (L.getD m tmE) := by
    rw [List.getElem?_drop, show a + (m - a) = m by omega, List.getElem?_take_of_lt h1, List.getD_eq_getElem?_getD, List.getElem?_eq_getElem (by omega)]; rfl
  exact List.mem_of_getElem? e
set_option maxRecDepth 100000 in
set_option maxHeartbeats 40000000 in
theorem rlows_any (A : Option Addr) (c : Nat) (L : List Tm) (lo : List Nat) (w : World) (hL : TermAt w w.heap.size A L) (hG : GoodT L lo) :
    Calls Try.prog 62 #[.slice A L.length c] w fun e w' => ∃ g c', e = .returned (.slice (some ⟨g, 0, none⟩) L.length c') ∧ w'.ownsRow w.heap.size 3 1 (.slice (some ⟨g, 0, none⟩) L.length c') L.length (ints lo) ∧ Below w.heap.size w w' := by
  obtain ⟨N, hN⟩ : ∃ N, L.length = N := ⟨_, rfl⟩
  have hpos := hG.pos
  have hle := hG.le
  have HL := Lib.hid hL
  have HG := Lib.hid hG
  have hlen := hG.len
  rw [hN] at hpos hle hlen ⊢
  have HLEN := Lib.hid hlen
  have HN := Lib.hid hN
  have hmake := make_int N (by omega)
  have o1 : Slab (w.alloc (.cells (intsA (List.replicate N 0)) 3)) w.heap.size (intsA (lo.take 0 ++ List.replicate (N - 0) 0)) 3 := Slab.new _ _ _
  have HB1 := Lib.hid ((Below.refl w.heap.size w).alloc (Nat.le_refl _) (.cells (intsA (List.replicate N 0)) 3))
  clear hL hG hN hlen
  go_enter Try.func62, Try.ntmps62
  go_wp2_with fail
  clear hmake
  go_loopw [4, 5] (fun l i wr => ∃ k : Nat, k ≤ N ∧ i = .int .i64 k ∧ l = .int .i64 (leavesN L k : Nat) ∧ Slab wr w.heap.size (intsA (lo.take k ++ List.replicate (N - k) 0)) 3 ∧ Below w.heap.size w wr) (fun _ i _ => N - (intOf i).toNat)
  case atStart => exact ⟨0, Nat.zero_le _, rfl, rfl, o1, HB1.out⟩
  case round =>
    clear o1 HB1
    obtain ⟨k, hk, rfl, rfl, o, hB⟩ := hrel
    have HB := Lib.hid hB
    have hsz := hB.size
    clear hB
    have hlv := leavesN_le L k
    have hol := o.lt
    by_cases hlt : k < N
    · have hltL : k < L.length := by rw [HN.out]; exact hlt
      obtain ⟨b, off, rfl, hb, hn8⟩ := (HL.out.below HB.out).node hltL
      have hlow := HG.out.low k hltL
      have hF := HG.out.fld k hltL
      have HAG := Lib.hid (HG.out.ag k hltL)
      have HDN := Lib.hid (HG.out.dn k hltL)
      have HS := Lib.hid (leavesN_succ L hltL)
      have hnx := takes_next (lo := lo) hlt HLEN.out
      have hta : (lo.take k).length = k := by rw [List.length_take, HLEN.out]; omega
      generalize hat : lo.getD k 0 = at_ at *
      have HAT := Lib.hid hat
      have HNX := Lib.hid hnx
      generalize hx : L.getD k tmE = x at *
      have HXE := Lib.hid hx
      clear hat hnx hx hltL
      obtain ⟨xk, xa, xb, xn, xf⟩ := x
      unfold Tm8 at hn8
      obtain ⟨n0, n1, n2, n3, n4, n5, n6, n7⟩ := hn8
      obtain ⟨hs, hn, hg⟩ := hF
      simp only at hs hn hg n0 n1 n2 n3 n4 n5 n6 n7
      have hbw : b < wr.heap.size := by omega
      have hcz := takes_zero o hlt HLEN.out
      have hfz := o.frozen k
      cases hlow with
      | leaf hk2 ha hb2 hv =>
        obtain rfl := hv.symm
        simp only at hk2 ha hb2
        subst ha hb2
        have CP := fun w => rpart_leaf xk hk2 w
        rcases hk2 with rfl | rfl
        · obtain rfl := hs (by decide)
          obtain rfl := hn (by decide)
          replace HS := Lib.hid ((HS.out).trans (if_neg (by decide)))
          simp only [wd_zSet] at n4 n5 n6 n7
          clear hs hn hg
          go_wp2_with fail
          refine (CP _).mono ?_
          rintro e1 w1 ⟨rfl, rfl⟩
          clear CP
          go_upto_region 9 with fail
          generalize hW : (wr.setCell ⟨w.heap.size, k, none⟩ (.int .i64 k)).alloc (.cells #[.int .i64 (1), .int .i64 (-1), .int .i64 (-1), .int .i64 (0), .int .u64 0, .int .u64 0, .int .u64 0, .int .u64 0] 47) = W2
          have o2 : Slab W2 w.heap.size (intsA (lo.take k ++ k :: List.replicate (N - k - 1) 0)) 3 := by
            rw [← hW]
            have := (o.set k (.int .i64 (k : Nat)))
            rw [ints_put, takes_set hlt HLEN.out] at this
            exact this.alloc _
          have x2 : Slab W2 wr.heap.size #[.int .i64 (1), .int .i64 (-1), .int .i64 (-1), .int .i64 (0), .int .u64 0, .int .u64 0, .int .u64 0, .int .u64 0] 47 := by
            rw [← hW]; exact Slab.newAt _ _ _ (by simp)
          have hb2 : Below w.heap.size w W2 := by
            rw [← hW]; exact (below_set HB.out (Nat.le_refl _) _).alloc (by simp; omega) _
          have hsW : wr.heap.size < W2.heap.size := x2.lt
          have HB2 := Lib.hid hb2
          have O2 := Lib.hid o2
          have X2 := Lib.hid x2
          obtain ⟨cx, fx⟩ := x2.facts
          have hck := takes_mid o2 hlt HLEN.out
          have hfk := o2.frozen k
          clear hW hb2 o hcz hfz n0 n1 n2 n3 n4 n5 n6 n7
          go_wp2_with fail
          rw [run_eq_zz]
          simp only [Result.andThen]
          rw [Oper.upon_value]
          go_wp2_with fail
          have O3 := Lib.hid O2.out
          have X3 := Lib.hid X2.out
          have HB3 := Lib.hid HB2.out
          clear O2 X2 HB2 cx fx hck hfk x2 o2
          generalize W2 = W3 at *
          clear HB
          generalize wr.heap.size = xg at *
          clear wr
          go_loopw [10] (fun j wr => ∃ m : Nat, k ≤ m ∧ m ≤ k ∧ j = .int .i64 m ∧ Below W3.heap.size W3 wr) (fun j _ => k - (intOf j).toNat)
          case atStart => exact ⟨k, Nat.le_refl _, HDN.out, rfl, Below.refl _ _⟩
          case round =>
            obtain ⟨m, hm0, hm, rfl, hX⟩ := hrel
            have HX := Lib.hid hX
            have hsz3 : W3.heap.size ≤ wr.heap.size := hX.size
            obtain ⟨cx, fx⟩ := (X3.out.call hX).facts
            clear hX
            by_cases hlt2 : m < k
            · obtain ⟨b3, off3, he3, hb3, hn3⟩ := (HL.out.below (HB3.out.trans (HX.out.mono HB3.out.size))).node (j := m) (by rw [HN.out]; omega)
              cases he3
              have hin : L.getD m tmE ∈ (L.take k).drop k := mem_cut hm0 hlt2 (by rw [HN.out]; omega)
              have hag := fun h7 => HAG.out h7 _ hin
              generalize L.getD m tmE = y at *
              obtain ⟨yk, ya, yb, yn, yf⟩ := y
              unfold Tm8 at hn3
              obtain ⟨m0, _, _, m3, _, _, _, _⟩ := hn3
              simp only at hag m0 m3
              have hbw3 : b < wr.heap.size := by have := HB3.out.size; omega
              clear hin
              exact absurd hlt2 (by omega)
            · obtain rfl : m = k := by omega
              have o4 := O3.out.call HX.out
              rw [HNX.out] at o4
              have O4 := Lib.hid o4
              have HB4 := Lib.hid (HB3.out.trans (HX.out.mono HB3.out.size))
              clear cx fx HX hlt2 hm0 hm
              go_wp2_with fail
              go_roundw
              case rel => exact ⟨m + 1, by omega, by go_num, by rw [HS.out]; (try go_num), O4.out, HB4.out⟩
              case measure => simp [intOf]; omega
        · obtain rfl := hn (by decide)
          replace HS := Lib.hid ((HS.out).trans (if_pos rfl))
          clear hs hn hg
          go_wp2_with fail
          refine (CP _).mono ?_
          rintro e1 w1 ⟨rfl, rfl⟩
          clear CP
          go_upto_region 9 with fail
          generalize hW : (wr.setCell ⟨w.heap.size, k, none⟩ (.int .i64 k)).alloc (.cells #[.int .i64 (2), .int .i64 (-1), .int .i64 (-1), .int .i64 (0), .int .u64 (wd xf 0), .int .u64 (wd xf 1), .int .u64 (wd xf 2), .int .u64 (wd xf 3)] 47) = W2
          have o2 : Slab W2 w.heap.size (intsA (lo.take k ++ k :: List.replicate (N - k - 1) 0)) 3 := by
            rw [← hW]
            have := (o.set k (.int .i64 (k : Nat)))
            rw [ints_put, takes_set hlt HLEN.out] at this
            exact this.alloc _
          have x2 : Slab W2 wr.heap.size #[.int .i64 (2), .int .i64 (-1), .int .i64 (-1), .int .i64 (0), .int .u64 (wd xf 0), .int .u64 (wd xf 1), .int .u64 (wd xf 2), .int .u64 (wd xf 3)] 47 := by
            rw [← hW]; exact Slab.newAt _ _ _ (by simp)
          have hb2 : Below w.heap.size w W2 := by
            rw [← hW]; exact (below_set HB.out (Nat.le_refl _) _).alloc (by simp; omega) _
          have hsW : wr.heap.size < W2.heap.size := x2.lt
          have HB2 := Lib.hid hb2
          have O2 := Lib.hid o2
          have X2 := Lib.hid x2
          obtain ⟨cx, fx⟩ := x2.facts
          have hck := takes_mid o2 hlt HLEN.out
          have hfk := o2.frozen k
          clear hW hb2 o hcz hfz n0 n1 n2 n3 n4 n5 n6 n7
          go_wp2_with fail
          have O3 := Lib.hid O2.out
          have X3 := Lib.hid X2.out
          have HB3 := Lib.hid HB2.out
          clear O2 X2 HB2 cx fx hck hfk x2 o2
          generalize W2 = W3 at *
          clear HB
          generalize wr.heap.size = xg at *
          clear wr
          go_loopw [10] (fun j wr => ∃ m : Nat, k ≤ m ∧ m ≤ k ∧ j = .int .i64 m ∧ Below W3.heap.size W3 wr) (fun j _ => k - (intOf j).toNat)
          case atStart => exact ⟨k, Nat.le_refl _, HDN.out, rfl, Below.refl _ _⟩
          case round =>
            obtain ⟨m, hm0, hm, rfl, hX⟩ := hrel
            have HX := Lib.hid hX
            have hsz3 : W3.heap.size ≤ wr.heap.size := hX.size
            obtain ⟨cx, fx⟩ := (X3.out.call hX).facts
            clear hX
            by_cases hlt2 : m < k
            · obtain ⟨b3, off3, he3, hb3, hn3⟩ := (HL.out.below (HB3.out.trans (HX.out.mono HB3.out.size))).node (j := m) (by rw [HN.out]; omega)
              cases he3
              have hin : L.getD m tmE ∈ (L.take k).drop k := mem_cut hm0 hlt2 (by rw [HN.out]; omega)
              have hag := fun h7 => HAG.out h7 _ hin
              generalize L.getD m tmE = y at *
              obtain ⟨yk, ya, yb, yn, yf⟩ := y
              unfold Tm8 at hn3
              obtain ⟨m0, _, _, m3, _, _, _, _⟩ := hn3
              simp only at hag m0 m3
              have hbw3 : b < wr.heap.size := by have := HB3.out.size; omega
              clear hin
              exact absurd hlt2 (by omega)
            · obtain rfl : m = k := by omega
              have o4 := O3.out.call HX.out
              rw [HNX.out] at o4
              have O4 := Lib.hid o4
              have HB4 := Lib.hid (HB3.out.trans (HX.out.mono HB3.out.size))
              clear cx fx HX hlt2 hm0 hm
              go_wp2_with fail
              go_roundw
              case rel => exact ⟨m + 1, by omega, by go_num, by rw [HS.out]; (try go_num), O4.out, HB4.out⟩
              case measure => simp [intOf]; omega
      | two hk2 p q hi2 hb2 hp ha hq hv =>
        simp only at hk2 ha hb2
        have hpl : p < k := by omega
        have hql : q < k := by omega
        rw [takes_lo hpl] at hp
        rw [takes_lo hql] at hv
        replace hv := hv.symm
        subst ha hb2
        have CP := fun w => rpart_two xk hk2 w
        have k2 : (xk != 2) = true := by rcases hk2 with rfl | rfl <;> rfl
        have k2' : (xk == 2) = false := by rcases hk2 with rfl | rfl <;> rfl
        have k7 : (xk != 7) = true := by rcases hk2 with rfl | rfl <;> rfl
        have k7' : (xk == 7) = false := by rcases hk2 with rfl | rfl <;> rfl
        have k1 : decide (xk < 1) = false := by rcases hk2 with rfl | rfl <;> rfl
        have k8 : decide (8 < xk) = false := by rcases hk2 with rfl | rfl <;> rfl
        obtain rfl := hs (by rcases hk2 with rfl | rfl <;> decide)
        obtain rfl := hn (by rcases hk2 with rfl | rfl <;> decide)
        replace HS := Lib.hid ((HS.out).trans (if_neg (by rw [k2']; decide)))
        have HV := Lib.hid hv
        have HP := Lib.hid hp
        have x1 : (k : Int) - 1 = (p : Int) := by omega
        simp only [wd_zSet] at n4 n5 n6 n7
        clear hs hn hg hk2 hv hp hi2 hq
        go_wp2_with fail
        refine (CP _).mono ?_
        rintro e1 w1 ⟨rfl, rfl⟩
        clear CP
        go_upto_region 9 with fail
        generalize hW : (wr.setCell ⟨w.heap.size, k, none⟩ (.int .i64 k)).alloc (.cells #[.int .i64 (xk), .int .i64 (q), .int .i64 (p), .int .i64 (0), .int .u64 0, .int .u64 0, .int .u64 0, .int .u64 0] 47) = W2
        have o2 : Slab W2 w.heap.size (intsA (lo.take k ++ k :: List.replicate (N - k - 1) 0)) 3 := by
          rw [← hW]
          have := (o.set k (.int .i64 (k : Nat)))
          rw [ints_put, takes_set hlt HLEN.out] at this
          exact this.alloc _
        have x2 : Slab W2 wr.heap.size #[.int .i64 (xk), .int .i64 (q), .int .i64 (p), .int .i64 (0), .int .u64 0, .int .u64 0, .int .u64 0, .int .u64 0] 47 := by
          rw [← hW]; exact Slab.newAt _ _ _ (by simp)
        have hb2 : Below w.heap.size w W2 := by
          rw [← hW]; exact (below_set HB.out (Nat.le_refl _) _).alloc (by simp; omega) _
        have hsW : wr.heap.size < W2.heap.size := x2.lt
        have HB2 := Lib.hid hb2
        have O2 := Lib.hid o2
        have X2 := Lib.hid x2
        obtain ⟨cx, fx⟩ := x2.facts
        have hck := takes_mid o2 hlt HLEN.out
        have hfk := o2.frozen k
        clear hW hb2 o hcz hfz n0 n1 n2 n3 n4 n5 n6 n7
        have hcp := takes_at o2 hpl (by have := HLEN.out; omega)
        have hcq := takes_at o2 hql (by have := HLEN.out; omega)
        rw [HP.out] at hcp
        rw [HV.out] at hcq
        have hp0 : decide ((p : Int) < 0) = false := decide_eq_false (by omega)
        have hq0 : decide ((q : Int) < 0) = false := decide_eq_false (by omega)
        go_wp2_with fail
        rw [run_eq_zz]
        simp only [Result.andThen]
        rw [Oper.upon_value]
        go_wp2_with fail
        go_wp2_with fail
        generalize hW3 : W2.setCell ⟨w.heap.size, k, none⟩ (.int .i64 (at_ : Nat)) = W3
        have o3 : Slab W3 w.heap.size (intsA (lo.take k ++ at_ :: List.replicate (N - k - 1) 0)) 3 := by
          rw [← hW3]
          have := O2.out.set k (.int .i64 (at_ : Nat))
          rw [ints_put, takes_set2 hlt HLEN.out] at this
          exact this
        have x3 := X2.out.far (b := w.heap.size) (i := k) (by omega) (.int .i64 (at_ : Nat))
        have hb3 := below_set HB2.out (i := k) (Nat.le_refl _) (.int .i64 (at_ : Nat))
        rw [hW3] at x3 hb3
        have O3 := Lib.hid o3
        have X3 := Lib.hid x3
        have HB3 := Lib.hid hb3
        clear o3 x3 hb3 hW3 O2 X2 HB2 cx fx hck hfk x2 o2 HB
        generalize wr.heap.size = xg at *
        clear wr
        clear hcp hcq HP
        go_loopw [10] (fun j wr => ∃ m : Nat, at_ ≤ m ∧ m ≤ k ∧ j = .int .i64 m ∧ Below W3.heap.size W3 wr) (fun j _ => k - (intOf j).toNat)
        case atStart => exact ⟨at_, Nat.le_refl _, HDN.out, rfl, Below.refl _ _⟩
        case round =>
          obtain ⟨m, hm0, hm, rfl, hX⟩ := hrel
          have HX := Lib.hid hX
          have hsz3 : W3.heap.size ≤ wr.heap.size := hX.size
          obtain ⟨cx, fx⟩ := (X3.out.call hX).facts
          clear hX
          by_cases hlt2 : m < k
          · obtain ⟨b3, off3, he3, hb3, hn3⟩ := (HL.out.below (HB3.out.trans (HX.out.mono HB3.out.size))).node (j := m) (by rw [HN.out]; omega)
            cases he3
            have hin : L.getD m tmE ∈ (L.take k).drop at_ := mem_cut hm0 hlt2 (by rw [HN.out]; omega)
            have hag := fun h7 => HAG.out h7 _ hin
            generalize L.getD m tmE = y at *
            obtain ⟨yk, ya, yb, yn, yf⟩ := y
            unfold Tm8 at hn3
            obtain ⟨m0, _, _, m3, _, _, _, _⟩ := hn3
            simp only at hag m0 m3
            have hbw3 : b < wr.heap.size := by have := HB3.out.size; omega
            clear hin
            clear hag
            go_wp2_with fail
            go_quiet (fail)
            go_wp2_with fail
            go_roundw
            case rel => exact ⟨m + 1, by omega, by omega, by go_num, below_drewN HX.out _⟩
            case measure => simp [intOf]; omega
          · obtain rfl : m = k := by omega
            have o4 := O3.out.call HX.out
            rw [HNX.out] at o4
            have O4 := Lib.hid o4
            have HB4 := Lib.hid (HB3.out.trans (HX.out.mono HB3.out.size))
            clear cx fx HX hlt2 hm0 hm
            go_wp2_with fail
            go_roundw
            case rel => exact ⟨m + 1, by omega, by go_num, by rw [HS.out]; (try go_num), O4.out, HB4.out⟩
            case measure => simp [intOf]; omega
      | one hk2 p hi2 hb2 ha hv =>
        simp only at hk2 ha hb2
        have hpl : p < k := by omega
        rw [takes_lo hpl] at hv
        replace hv := hv.symm
        subst ha hb2
        have CP := fun w => rpart_one xk hk2 w
        have HV := Lib.hid hv
        have x1 : (k : Int) - 1 = (p : Int) := by omega
        have k2 : (xk != 2) = true := by rcases hk2 with rfl | rfl | rfl | rfl <;> rfl
        have k2' : (xk == 2) = false := by rcases hk2 with rfl | rfl | rfl | rfl <;> rfl
        have k1 : decide (xk < 1) = false := by rcases hk2 with rfl | rfl | rfl | rfl <;> rfl
        have k8 : decide (8 < xk) = false := by rcases hk2 with rfl | rfl | rfl | rfl <;> rfl
        obtain rfl := hs (by rcases hk2 with rfl | rfl | rfl | rfl <;> decide)
        replace HS := Lib.hid ((HS.out).trans (if_neg (by rw [k2']; decide)))
        simp only [wd_zSet] at n4 n5 n6 n7
        have hp0 : decide ((p : Int) < 0) = false := decide_eq_false (by omega)
        clear hs hv hi2
        by_cases e7 : xk = 7
        · subst e7
          obtain ⟨g1, g2⟩ := hg rfl
          have d1 : decide (xn < 1) = false := decide_eq_false (by omega)
          have d9 : decide (9 < xn) = false := decide_eq_false (by omega)
          clear hn hg hk2 k2 k2' k1 k8
          go_wp2_with fail
          refine (CP _).mono ?_
          rintro e1 w1 ⟨rfl, rfl⟩
          clear CP
          go_upto_region 9 with fail
          generalize hW : (wr.setCell ⟨w.heap.size, k, none⟩ (.int .i64 k)).alloc (.cells #[.int .i64 (7), .int .i64 (p), .int .i64 (-1), .int .i64 (xn), .int .u64 0, .int .u64 0, .int .u64 0, .int .u64 0] 47) = W2
          have o2 : Slab W2 w.heap.size (intsA (lo.take k ++ k :: List.replicate (N - k - 1) 0)) 3 := by
            rw [← hW]
            have := (o.set k (.int .i64 (k : Nat)))
            rw [ints_put, takes_set hlt HLEN.out] at this
            exact this.alloc _
          have x2 : Slab W2 wr.heap.size #[.int .i64 (7), .int .i64 (p), .int .i64 (-1), .int .i64 (xn), .int .u64 0, .int .u64 0, .int .u64 0, .int .u64 0] 47 := by
            rw [← hW]; exact Slab.newAt _ _ _ (by simp)
          have hb2 : Below w.heap.size w W2 := by
            rw [← hW]; exact (below_set HB.out (Nat.le_refl _) _).alloc (by simp; omega) _
          have hsW : wr.heap.size < W2.heap.size := x2.lt
          have HB2 := Lib.hid hb2
          have O2 := Lib.hid o2
          have X2 := Lib.hid x2
          obtain ⟨cx, fx⟩ := x2.facts
          have hck := takes_mid o2 hlt HLEN.out
          have hfk := o2.frozen k
          clear hW hb2 o hcz hfz n0 n1 n2 n3 n4 n5 n6 n7
          have hcp := takes_at o2 hpl (by have := HLEN.out; omega)
          rw [HV.out] at hcp
          go_wp2_with fail
          rw [run_eq_zz]
          simp only [Result.andThen]
          rw [Oper.upon_value]
          go_wp2_with fail
          go_wp2_with fail
          generalize hW3 : W2.setCell ⟨w.heap.size, k, none⟩ (.int .i64 (at_ : Nat)) = W3
          have o3 : Slab W3 w.heap.size (intsA (lo.take k ++ at_ :: List.replicate (N - k - 1) 0)) 3 := by
            rw [← hW3]
            have := O2.out.set k (.int .i64 (at_ : Nat))
            rw [ints_put, takes_set2 hlt HLEN.out] at this
            exact this
          have x3 := X2.out.far (b := w.heap.size) (i := k) (by omega) (.int .i64 (at_ : Nat))
          have hb3 := below_set HB2.out (i := k) (Nat.le_refl _) (.int .i64 (at_ : Nat))
          rw [hW3] at x3 hb3
          have O3 := Lib.hid o3
          have X3 := Lib.hid x3
          have HB3 := Lib.hid hb3
          clear o3 x3 hb3 hW3 O2 X2 HB2 cx fx hck hfk x2 o2 HB
          generalize wr.heap.size = xg at *
          clear wr
          clear hcp
          go_loopw [10] (fun j wr => ∃ m : Nat, at_ ≤ m ∧ m ≤ k ∧ j = .int .i64 m ∧ Below W3.heap.size W3 wr) (fun j _ => k - (intOf j).toNat)
          case atStart => exact ⟨at_, Nat.le_refl _, HDN.out, rfl, Below.refl _ _⟩
          case round =>
            obtain ⟨m, hm0, hm, rfl, hX⟩ := hrel
            have HX := Lib.hid hX
            have hsz3 : W3.heap.size ≤ wr.heap.size := hX.size
            obtain ⟨cx, fx⟩ := (X3.out.call hX).facts
            clear hX
            by_cases hlt2 : m < k
            · obtain ⟨b3, off3, he3, hb3, hn3⟩ := (HL.out.below (HB3.out.trans (HX.out.mono HB3.out.size))).node (j := m) (by rw [HN.out]; omega)
              cases he3
              have hin : L.getD m tmE ∈ (L.take k).drop at_ := mem_cut hm0 hlt2 (by rw [HN.out]; omega)
              have hag := fun h7 => HAG.out h7 _ hin
              generalize L.getD m tmE = y at *
              obtain ⟨yk, ya, yb, yn, yf⟩ := y
              unfold Tm8 at hn3
              obtain ⟨m0, _, _, m3, _, _, _, _⟩ := hn3
              simp only at hag m0 m3
              have hbw3 : b < wr.heap.size := by have := HB3.out.size; omega
              clear hin
              cases e2 : (yk == 7) with
              | false =>
                clear hag
                go_wp2_with fail
                go_quiet (fail)
                go_wp2_with fail
                go_roundw
                case rel => exact ⟨m + 1, by omega, by omega, by go_num, below_drewN HX.out _⟩
                case measure => simp [intOf]; omega
              | true =>
                have e3 : (yn == xn) = false := beq_eq_false_iff_ne.2 (hag (by trivial) (eq_of_beq e2))
                clear hag
                go_wp2_with fail
                go_quiet (fail)
                go_wp2_with fail
                go_roundw
                case rel => exact ⟨m + 1, by omega, by omega, by go_num, below_drewN HX.out _⟩
                case measure => simp [intOf]; omega
            · obtain rfl : m = k := by omega
              have o4 := O3.out.call HX.out
              rw [HNX.out] at o4
              have O4 := Lib.hid o4
              have HB4 := Lib.hid (HB3.out.trans (HX.out.mono HB3.out.size))
              clear cx fx HX hlt2 hm0 hm
              go_wp2_with fail
              go_roundw
              case rel => exact ⟨m + 1, by omega, by go_num, by rw [HS.out]; (try go_num), O4.out, HB4.out⟩
              case measure => simp [intOf]; omega
        · have k7 : (xk != 7) = true := by simpa using e7
          have k7' : (xk == 7) = false := beq_eq_false_iff_ne.2 e7
          obtain rfl := hn e7
          clear hn hg hk2 e7
          go_wp2_with fail
          refine (CP _).mono ?_
          rintro e1 w1 ⟨rfl, rfl⟩
          clear CP
          go_upto_region 9 with fail
          generalize hW : (wr.setCell ⟨w.heap.size, k, none⟩ (.int .i64 k)).alloc (.cells #[.int .i64 (xk), .int .i64 (p), .int .i64 (-1), .int .i64 (0), .int .u64 0, .int .u64 0, .int .u64 0, .int .u64 0] 47) = W2
          have o2 : Slab W2 w.heap.size (intsA (lo.take k ++ k :: List.replicate (N - k - 1) 0)) 3 := by
            rw [← hW]
            have := (o.set k (.int .i64 (k : Nat)))
            rw [ints_put, takes_set hlt HLEN.out] at this
            exact this.alloc _
          have x2 : Slab W2 wr.heap.size #[.int .i64 (xk), .int .i64 (p), .int .i64 (-1), .int .i64 (0), .int .u64 0, .int .u64 0, .int .u64 0, .int .u64 0] 47 := by
            rw [← hW]; exact Slab.newAt _ _ _ (by simp)
          have hb2 : Below w.heap.size w W2 := by
            rw [← hW]; exact (below_set HB.out (Nat.le_refl _) _).alloc (by simp; omega) _
          have hsW : wr.heap.size < W2.heap.size := x2.lt
          have HB2 := Lib.hid hb2
          have O2 := Lib.hid o2
          have X2 := Lib.hid x2
          obtain ⟨cx, fx⟩ := x2.facts
          have hck := takes_mid o2 hlt HLEN.out
          have hfk := o2.frozen k
          clear hW hb2 o hcz hfz n0 n1 n2 n3 n4 n5 n6 n7
          have hcp := takes_at o2 hpl (by have := HLEN.out; omega)
          rw [HV.out] at hcp
          go_wp2_with fail
          rw [run_eq_zz]
          simp only [Result.andThen]
          rw [Oper.upon_value]
          go_wp2_with fail
          go_wp2_with fail
          generalize hW3 : W2.setCell ⟨w.heap.size, k, none⟩ (.int .i64 (at_ : Nat)) = W3
          have o3 : Slab W3 w.heap.size (intsA (lo.take k ++ at_ :: List.replicate (N - k - 1) 0)) 3 := by
            rw [← hW3]
            have := O2.out.set k (.int .i64 (at_ : Nat))
            rw [ints_put, takes_set2 hlt HLEN.out] at this
            exact this
          have x3 := X2.out.far (b := w.heap.size) (i := k) (by omega) (.int .i64 (at_ : Nat))
          have hb3 := below_set HB2.out (i := k) (Nat.le_refl _) (.int .i64 (at_ : Nat))
          rw [hW3] at x3 hb3
          have O3 := Lib.hid o3
          have X3 := Lib.hid x3
          have HB3 := Lib.hid hb3
          clear o3 x3 hb3 hW3 O2 X2 HB2 cx fx hck hfk x2 o2 HB
          generalize wr.heap.size = xg at *
          clear wr
          clear hcp
          go_loopw [10] (fun j wr => ∃ m : Nat, at_ ≤ m ∧ m ≤ k ∧ j = .int .i64 m ∧ Below W3.heap.size W3 wr) (fun j _ => k - (intOf j).toNat)
          case atStart => exact ⟨at_, Nat.le_refl _, HDN.out, rfl, Below.refl _ _⟩
          case round =>
            obtain ⟨m, hm0, hm, rfl, hX⟩ := hrel
            have HX := Lib.hid hX
            have hsz3 : W3.heap.size ≤ wr.heap.size := hX.size
            obtain ⟨cx, fx⟩ := (X3.out.call hX).facts
            clear hX
            by_cases hlt2 : m < k
            · obtain ⟨b3, off3, he3, hb3, hn3⟩ := (HL.out.below (HB3.out.trans (HX.out.mono HB3.out.size))).node (j := m) (by rw [HN.out]; omega)
              cases he3
              have hin : L.getD m tmE ∈ (L.take k).drop at_ := mem_cut hm0 hlt2 (by rw [HN.out]; omega)
              have hag := fun h7 => HAG.out h7 _ hin
              generalize L.getD m tmE = y at *
              obtain ⟨yk, ya, yb, yn, yf⟩ := y
              unfold Tm8 at hn3
              obtain ⟨m0, _, _, m3, _, _, _, _⟩ := hn3
              simp only at hag m0 m3
              have hbw3 : b < wr.heap.size := by have := HB3.out.size; omega
              clear hin
              clear hag
              go_wp2_with fail
              go_quiet (fail)
              go_wp2_with fail
              go_roundw
              case rel => exact ⟨m + 1, by omega, by omega, by go_num, below_drewN HX.out _⟩
              case measure => simp [intOf]; omega
            · obtain rfl : m = k := by omega
              have o4 := O3.out.call HX.out
              rw [HNX.out] at o4
              have O4 := Lib.hid o4
              have HB4 := Lib.hid (HB3.out.trans (HX.out.mono HB3.out.size))
              clear cx fx HX hlt2 hm0 hm
              go_wp2_with fail
              go_roundw
              case rel => exact ⟨m + 1, by omega, by go_num, by rw [HS.out]; (try go_num), O4.out, HB4.out⟩
              case measure => simp [intOf]; omega
    · obtain rfl : k = N := by omega
      obtain ⟨r, hr⟩ : ∃ r, k = r + 1 := ⟨k - 1, by omega⟩
      have hlk : lo.take k = lo := by rw [← HLEN.out, List.take_length]
      rw [hlk, Nat.sub_self, List.replicate_zero, List.append_nil] at o
      have htop := HG.out.top
      rw [HN.out, show k - 1 = r by omega] at htop
      have hcr := (o.cell r).trans (ints_get _ (by have := HLEN.out; omega))
      rw [htop] at hcr
      have hlv64 := HG.out.lv
      rw [HN.out] at hlv64
      have hd0 : ((k : Int) == 0) = false := beq_eq_false_iff_ne.2 (by omega)
      have hd4 : decide (400 < (k : Int)) = false := decide_eq_false (by omega)
      have hd64 : decide (64 < ((leavesN L k : Nat) : Int)) = false := decide_eq_false (by omega)
      have x1 : (k : Int) - 1 = (r : Int) := by omega
      have hrk : r < k := by omega
      have HO := Lib.hid (row_ints o (Nat.le_refl _) HLEN.out (by omega))
      clear o htop hlk hr hlt
      go_wp2_with fail
      go_ret
      exact ⟨_, _, rfl, HO.out, HB.out⟩
set_option maxRecDepth 100000 in
set_option maxHeartbeats 2000000 in
theorem rright10_any (A : Option Addr) (c : Nat) (L : List Tm) (lo : List Nat) (w : World) (hL : TermAt w w.heap.size A L) (hG : GoodT L lo) :
    Calls Try.prog 27 #[.slice A L.length c] w fun e w' => e = .returned (.bool true) ∧ Below w.heap.size w w' := by
  have C := rlows_any A c L lo w hL hG
  generalize L.length = N at *
  clear hL hG
  go_enter Try.func27, Try.ntmps27
  go_wp2_with fail
  refine C.mono ?_
  rintro e1 w1 ⟨g1, c1, rfl, hown, hb1⟩
  clear C hown
  go_wp2_with fail
  go_ret
  exact ⟨rfl, hb1⟩
end Go.Proofs.Ytddokdjlmdoebaa
