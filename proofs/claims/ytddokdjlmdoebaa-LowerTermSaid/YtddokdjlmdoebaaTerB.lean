/- Walks of the package term: the groups of a part of a term, and the greatest one. -/
import Derived.Test.YtddokdjlmdoebaaProg
import Derived.WalkKit
import Derived.WalkSpells
import Derived.WalkLawsBesides
import Derived.Handy
import Derived.Lib.Hide
import Derived.Test.YtddokdjlmdoebaaMLoV
import Derived.Test.YtddokdjlmdoebaaLowZh
import Derived.Deep.QuietTactic
import Derived.BigQuiet
set_option linter.unusedVariables false
set_option linter.unusedSimpArgs false
namespace Go.Proofs.Ytddokdjlmdoebaa
open Go.RowKit SetP AstP LowP ParP
/-- Ten bools, in memory. -/
def tenB (f : Nat → Bool) : Array Value := boolsA ((List.range 10).map f)
theorem tenB_get (f : Nat → Bool) {i : Nat} (h : i < 10) : (tenB f)[i]? = some (.bool (f i)) := by
  unfold tenB
  rw [bools_get _ (by simp; exact h), List.getD_eq_getElem?_getD, List.getElem?_map, List.getElem?_range h]; rfl
theorem tenB_put (f : Nat → Bool) (i : Nat) : (tenB f).setIfInBounds i (.bool true) = tenB (fun n => f n || i == n) := by
  unfold tenB
  rw [bools_put]
  congr 1
  refine List.ext_getElem? fun n => ?_
  rw [List.getElem?_set, List.getElem?_map, List.getElem?_map]
  by_cases h : n < 10
  · rw [List.getElem?_range h]
    by_cases e : i = n
    · subst e; rw [if_pos rfl]; simp [h]
    · rw [if_neg e]; simp [e]
  · rw [List.getElem?_eq_none (by simp; omega : (List.range 10).length ≤ n)]
    by_cases e : i = n
    · subst e; rw [if_pos rfl]; simp [h]
    · rw [if_neg e]; rfl
theorem tenB_eq {f g : Nat → Bool} (h : ∀ n, n < 10 → f n = g n) : tenB f = tenB g := by
  unfold tenB
  rw [List.map_congr_left fun n hn => h n (List.mem_range.1 hn)]
theorem filter_succ (p : Nat → Bool) (n : Nat) : (List.range (n + 1)).filter p = (List.range n).filter p ++ if p n then [n] else [] := by
  rw [List.range_succ, List.filter_append]
  congr 1
  cases h : p n <;> simp [List.filter_cons, h]
theorem take_snoc' {α : Type _} {l : List α} {m : Nat} {d : α} (h : m < l.length) : l.take (m + 1) = l.take m ++ [l.getD m d] := by
  rw [List.take_add_one, List.getElem?_eq_getElem h, List.getD_eq_getElem?_getD, List.getElem?_eq_getElem h]; rfl
theorem hasG_put (l : List Tm) (a b : Int) (nn n : Nat) (f : Nat → Bool) : hasG (l ++ [⟨7, a, b, (nn : Int), f⟩]) n = (hasG l n || nn == n) := by
  rw [hasG_snoc]
  have e : ((nn : Int) == (n : Int)) = (nn == n) := by rw [Bool.eq_iff_iff, beq_iff_eq, beq_iff_eq]; omega
  show (hasG l n || ((7 : Int) == 7 && ((nn : Int) == (n : Int)))) = _
  rw [e]; rfl
set_option maxRecDepth 100000 in
set_option maxHeartbeats 2000000 in
theorem tgroups_any (A : Option Addr) (c : Nat) (L : List Tm) (lo : List Nat) (q : Nat) (hq : q < L.length) (w : World) (hL : TermAt w w.heap.size A L) (hc : L.length ≤ c) (hG : GoodT L lo) :
    Calls Try.prog 63 #[.slice A L.length c, .int .i64 q] w (RetRow 3 1 (groupsT ((L.take (q + 1)).drop (lo.getD q 0))).length (ints (groupsT ((L.take (q + 1)).drop (lo.getD q 0)))) w) := by
  have CL := tlow_any A c L lo w hL hc hG
  obtain ⟨P, hP⟩ : ∃ P, (L.take (q + 1)).drop (lo.getD q 0) = P := ⟨_, rfl⟩
  have hdn := hG.dn q hq
  have hlP : P.length = q + 1 - lo.getD q 0 := by rw [← hP, List.length_drop, List.length_take]; omega
  have hfP : ∀ j, j < P.length → FieldsOk (P.getD j tmE) := fun j hj => by
    have e : P.getD j tmE = L.getD (lo.getD q 0 + j) tmE := by
      rw [← hP, List.getD_eq_getElem?_getD (l := List.drop _ _), List.getElem?_drop, List.getElem?_take_of_lt (by omega), List.getD_eq_getElem?_getD (l := L)]
    rw [e]; exact hG.fld _ (by omega)
  have hle := hG.le
  have hlen := hG.len
  have hlo : (ints lo)[q]? = some (.int .i64 ((lo.getD q 0 : Nat) : Int)) := by
    rw [List.getElem?_map, List.getElem?_eq_getElem (by omega), List.getD_eq_getElem?_getD, List.getElem?_eq_getElem (by omega)]; rfl
  rw [hP]
  have hPA : ∀ (w' : World) b off, A = some ⟨b, off, none⟩ → Below w.heap.size w w' → TermAt w' w.heap.size (some ⟨b, off + lo.getD q 0 * 8, none⟩) P := fun w' b off he hb => by
    rw [← hP]; subst he; exact ((hL.below hb).cut (lo.getD q 0) (q + 1) (by omega))
  generalize lo.getD q 0 = at_ at *
  have HFP := Lib.hid hfP
  have HPA := Lib.hid hPA
  obtain ⟨b, off, rfl, hb, _⟩ := hL.node hq
  obtain ⟨N, hN⟩ : ∃ N, L.length = N := ⟨_, rfl⟩
  rw [hN] at CL hle hq hc hlen ⊢
  obtain ⟨M, hM⟩ : ∃ M, P.length = M := ⟨_, rfl⟩
  have HM := Lib.hid hM
  rw [hM] at hlP
  have hat0 : decide ((at_ : Int) < 0) = false := decide_eq_false (by omega)
  have hq0 : decide ((q : Int) < 0) = false := decide_eq_false (by omega)
  have hqN : decide ((N : Int) ≤ (q : Int)) = false := decide_eq_false (by omega)
  have hqN2 : decide (N ≤ q) = false := decide_eq_false (by omega)
  have hM1 : q + 1 - at_ = M := by omega
  have hkc : q + 1 ≤ c := by omega
  have hatc : at_ ≤ c := by omega
  have hca : ¬ c = at_ := by omega
  have HLO := Lib.hid hlo
  have HM1 := Lib.hid hM1
  have haq : at_ ≤ q + 1 := by omega
  have hMb : M ≤ 400 := by omega
  clear hL hG hP hfP hPA hN hM hlo hM1 hlP hlen
  go_enter Try.func63, Try.ntmps63
  go_wp2_with fail
  refine CL.mono ?_
  rintro e1 w1 ⟨A1, c1, rfl, hown1, hb1⟩
  obtain ⟨g1, rfl, _, hg1, hc1, hcell⟩ := row_cell hown1 (by omega)
  have hq1 := hcell q (by omega)
  rw [HLO.out] at hq1
  have HB1 := Lib.hid hb1
  have hbw : b < w1.heap.size := Nat.lt_of_lt_of_le hb hb1.size
  have hsz1 := hb1.size
  have oS : Slab (w1.alloc (.cells (tenB (hasG [])) 142)) w1.heap.size (tenB (hasG [])) 142 := Slab.new _ _ _
  have hten : tenB (hasG []) = #[.bool false, .bool false, .bool false, .bool false, .bool false, .bool false, .bool false, .bool false, .bool false, .bool false] := rfl
  clear CL hown1 hb1 hcell
  go_wp2_with fail
  rw [HM1.out]
  go_loopw [30] (fun j wr => ∃ m : Nat, m ≤ M ∧ j = .int .i64 m ∧ Slab wr w1.heap.size (tenB (hasG (P.take m))) 142 ∧ Below w.heap.size w wr) (fun j _ => M - (intOf j).toNat)
  case atStart => exact ⟨0, Nat.zero_le _, rfl, by rw [List.take_zero]; exact oS, HB1.out.alloc HB1.out.size _⟩
  case round =>
    clear oS hten hq1 hg1
    obtain ⟨m, hm, rfl, o, hX⟩ := hrel
    have HX := Lib.hid hX
    have hsz := hX.size
    have hol := o.lt
    clear hX
    by_cases hlt : m < M
    · have hmP : m < P.length := by rw [HM.out]; exact hlt
      obtain ⟨b', off', he, hb', hn8⟩ := (HPA.out wr b off rfl HX.out).node hmP
      cases he
      have hF := HFP.out m hmP
      have hT := take_snoc' (d := tmE) hmP
      generalize P.getD m tmE = x at *
      obtain ⟨xk, xa, xb, xn, xf⟩ := x
      unfold Tm8 at hn8
      obtain ⟨n0, n1, n2, n3, n4, n5, n6, n7⟩ := hn8
      simp only at n0 n1 n2 n3 n4 n5 n6 n7
      have hbw2 : b < wr.heap.size := by omega
      by_cases h7 : xk = 7
      · subst h7
        obtain ⟨g1, g2⟩ := hF.g rfl
        simp only at g1 g2
        obtain ⟨nn, rfl⟩ : ∃ nn : Nat, xn = nn := ⟨xn.toNat, by omega⟩
        have hnn : nn < 10 := by omega
        have hcz := (o.cell nn).trans (tenB_get _ hnn)
        have hfz := o.frozen nn
        have ho : ∀ cs, Slab ((wr.setCell ⟨w1.heap.size, nn, none⟩ (.bool true)).alloc (.cells cs 47)) w1.heap.size (tenB (hasG (P.take (m + 1)))) 142 := fun cs => by
          have := (o.set nn (.bool true)).alloc (.cells cs 47)
          rw [tenB_put] at this
          rw [hT]
          have e : tenB (hasG (P.take m ++ [⟨7, xa, xb, (nn : Int), xf⟩])) = tenB (fun n => hasG (P.take m) n || nn == n) := tenB_eq fun n _ => hasG_put _ _ _ _ _ _
          rw [e]; exact this
        have hB3 : ∀ cs, Below w.heap.size w ((wr.setCell ⟨w1.heap.size, nn, none⟩ (.bool true)).alloc (.cells cs 47)) := fun cs => (below_set HX.out hsz1 _).alloc (by simp; omega) _
        have HO := Lib.hid ho
        have HB3 := Lib.hid hB3
        clear ho hB3 hT hF o
        go_wp2_with fail
        go_roundw
        case rel => exact ⟨m + 1, by omega, by go_num, HO.out _, HB3.out _⟩
        case measure => simp [intOf]; omega
      · have k7 : (xk == 7) = false := beq_eq_false_iff_ne.2 h7
        have ho : ∀ cs, Slab (wr.alloc (.cells cs 47)) w1.heap.size (tenB (hasG (P.take (m + 1)))) 142 := fun cs => by
          rw [hT]
          have e : tenB (hasG (P.take m ++ [⟨xk, xa, xb, xn, xf⟩])) = tenB (hasG (P.take m)) := tenB_eq fun n _ => by
            rw [hasG_snoc]
            show (_ || (xk == 7 && _)) = _
            rw [k7]; simp
          rw [e]; exact o.alloc _
        have HO := Lib.hid ho
        have HB3 := Lib.hid (fun cs => HX.out.alloc HX.out.size (.cells cs 47))
        clear ho hT hF o
        go_wp2_with fail
        go_roundw
        case rel => exact ⟨m + 1, by omega, by go_num, HO.out _, HB3.out _⟩
        case measure => simp [intOf]; omega
    · obtain rfl : m = M := by omega
      have htk : P.take m = P := by rw [← HM.out, List.take_length]
      rw [htk] at o
      have O := Lib.hid o
      obtain ⟨i0, hi, hz0, hz1, hz2⟩ := info_parts info_int
      have HI := Lib.hid hi; clear hi
      have HZ0 := Lib.hid hz0; clear hz0
      have HZ1 := Lib.hid hz1; clear hz1
      have HZ2 := Lib.hid hz2; clear hz2
      clear o htk hlt
      obtain ⟨W0, hW0⟩ : ∃ W0, W0 = wr := ⟨_, rfl⟩
      subst hW0
      go_wp2_with fail
      go_loopw [41, 9] (fun j o w' => ∃ (k n : Nat) (A' : Option Addr) (c' : Nat), k ≤ 10 ∧ n ≤ k ∧ j = .int .i64 k ∧ o = .slice A' n c' ∧ ((List.range k).filter (hasG P)).length = n ∧ w'.ownsRow W0.heap.size 3 1 (.slice A' n c') n (ints ((List.range k).filter (hasG P))) ∧ Below W0.heap.size W0 w') (fun j _ _ => 10 - (intOf j).toNat)
      case atStart => exact ⟨0, 0, none, 0, Nat.zero_le _, Nat.zero_le _, rfl, rfl, rfl, World.ownsRow_nil _ _ _ _, Below.refl _ _⟩
      case round =>
        obtain ⟨k, n, A', c', hk, hnk, rfl, rfl, hF, hown, hY⟩ := hrel
        have HY := Lib.hid hY
        have hszY := hY.size
        by_cases hlt : k < 10
        · have hcz := ((O.out.call hY).cell k).trans (tenB_get _ hlt)
          have hFS := filter_succ (hasG P) k
          generalize (List.range k).filter (hasG P) = F at *
          have HFN := Lib.hid hF
          clear hY hF
          cases hv : hasG P k with
          | true =>
            rw [hv] at hcz
            rw [hv, if_pos rfl] at hFS
            have HFS := Lib.hid hFS
            clear hFS hv
            go_wp2_with (at_builtin; go_must (refine wpList_append_elem _ rfl (.tmp 47) (.tmp 49) 76 rfl (W0.heap.size) 3 i0 _ _ _ Try.underlying76 HI.out HZ0.out HZ1.out HZ2.out rfl (by decide) _ _ _ _ rfl hown #[.int .i64 (k : Nat)] _ rfl (by first | rfl | simp) rfl (by simp [Value.oneCell']) (by unfold maxLen; omega) (by omega) (by first | omega | (simp; omega)) ?_); intro A4 q4 w4 hown4 hbl4)
            go_roundw
            case rel =>
              refine ⟨k + 1, n + 1, A4, q4, by omega, by omega, by go_num, rfl, by rw [HFS.out, List.length_append, HFN.out]; rfl, ?_, HY.out.trans hbl4⟩
              rw [HFS.out]
              have e : ints (F ++ [k]) = ints F ++ [Value.int .i64 (k : Nat)] := by simp
              rw [e]; exact hown4
            case measure => simp [intOf]; omega
          | false =>
            rw [hv] at hcz
            rw [hv, if_neg (by decide), List.append_nil] at hFS
            have HFS := Lib.hid hFS
            clear hFS hv
            go_wp2_with fail
            go_roundw
            case rel => exact ⟨k + 1, n, A', c', by omega, by omega, by go_num, rfl, by rw [HFS.out]; exact HFN.out, by rw [HFS.out]; exact hown, HY.out⟩
            case measure => simp [intOf]; omega
        · obtain rfl : k = 10 := by omega
          have hg : (List.range 10).filter (hasG P) = groupsT P := rfl
          rw [hg] at hF hown
          have HF := Lib.hid hF
          have HO := Lib.hid (row_mono hown hsz)
          have HZ := Lib.hid (HX.out.trans (hY.mono hsz))
          clear hF hown hY hg
          go_wp2_with fail
          go_ret
          exact ⟨A', c', by rw [HF.out]; rfl, by rw [HF.out]; exact HO.out, HZ.out⟩
set_option maxRecDepth 100000 in
set_option maxHeartbeats 2000000 in
theorem ttop_any (A : Option Addr) (c : Nat) (L : List Tm) (lo : List Nat) (w : World) (hL : TermAt w w.heap.size A L) (hc : L.length ≤ c) (hG : GoodT L lo) :
    Calls Try.prog 28 #[.slice A L.length c] w fun e w' => e = .returned (.int .i64 ((topT L : Nat) : Int)) ∧ Below w.heap.size w w' := by
  obtain ⟨N, hN⟩ : ∃ N, L.length = N + 1 := ⟨L.length - 1, by have := hG.pos; omega⟩
  have CG := tgroups_any A c L lo N (by omega) w hL hc hG
  have htop := hG.top
  rw [hN, Nat.add_sub_cancel] at htop
  rw [htop, ← hN, List.take_length, List.drop_zero, hN] at CG
  have hle := hG.le
  rw [hN] at hle ⊢
  have hl9 : (groupsT L).length ≤ 10 := by unfold groupsT; exact Nat.le_trans (List.length_filter_le _ _) (by simp)
  unfold topT
  generalize groupsT L = G at *
  have x1 : ((N + 1 : Nat) : Int) - 1 = (N : Int) := by omega
  have HL := Lib.hid (show G.take G.length = G from List.take_length)
  obtain ⟨M, hM⟩ : ∃ M, G.length = M := ⟨_, rfl⟩
  have HM := Lib.hid hM
  rw [hM] at CG hl9
  rw [hM] at HL
  clear hL hG htop hN hM
  go_enter Try.func28, Try.ntmps28
  go_wp2_with fail
  refine CG.mono ?_
  rintro e1 w1 ⟨A1, c1, rfl, hown1, hb1⟩
  have HI := Lib.hid (row_at0 hown1 (by omega))
  have HB1 := Lib.hid hb1
  clear CG hown1 hb1
  go_wp2_with fail
  go_loop [12, 3] (fun j t => ∃ m : Nat, m ≤ M ∧ j = .int .i64 m ∧ t = .int .i64 (((G.take m).getLastD 0 : Nat) : Int)) (fun j _ => M - (intOf j).toNat)
  case atStart => exact ⟨0, Nat.zero_le _, rfl, rfl⟩
  case round =>
    obtain ⟨m, hm, rfl, rfl⟩ := hrel
    by_cases hlt : m < M
    · have hmG : m < G.length := by rw [HM.out]; exact hlt
      obtain ⟨b, off, rfl, hb, hcell⟩ := HI.out.at_ hmG
      have HT : Hid ((G.take (m + 1)).getLastD 0 = G.getD m 0) := Lib.hid (by rw [take_snoc hmG]; simp)
      generalize G.getD m 0 = g at *
      go_wp2
      go_round
      case rel => exact ⟨m + 1, by omega, by go_num, by rw [HT.out]⟩
      case measure => simp [intOf]; omega
    · obtain rfl : m = M := by omega
      go_wp2
      go_ret
      exact ⟨(by rw [HL.out]; rfl), HB1.out⟩
end Go.Proofs.Ytddokdjlmdoebaa
