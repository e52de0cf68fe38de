/- LowerTerm, walked. -/
import Derived.Test.YtddokdjlmdoebaaProg
import Derived.WalkKit
import Derived.WalkSpells
import Derived.WalkLawsBesides
import Derived.Handy
import Derived.Lib.Hide
import Derived.Test.YtddokdjlmdoebaaMLoZ
import Derived.Test.YtddokdjlmdoebaaLowZg
import Derived.Test.YtddokdjlmdoebaaTerA
import Derived.Test.YtddokdjlmdoebaaTerB
import Derived.Test.YtddokdjlmdoebaaMLw6
import Derived.Test.YtddokdjlmdoebaaMAsi
import Derived.Deep.QuietTactic
import Derived.BigQuiet
set_option linter.unusedVariables false
set_option linter.unusedSimpArgs false
namespace Go.Proofs.Ytddokdjlmdoebaa
open Go.RowKit SetP AstP LowP ParP
theorem lowTerm_bad {L : List Nd} (h : ¬ (rightF L = true ∧ (sizeF L).1 ≤ 400 ∧ (sizeF L).2 ≤ 64)) : ∃ er, lowTermF L (sizeF L).1 (sizeF L).2 = ([], er) ∧ (er != 0) = true := by
  unfold lowTermF
  cases hR : rightF L with
  | false => exact ⟨11, by rw [if_neg (by decide)], by decide⟩
  | true =>
    refine ⟨10, ?_, by decide⟩
    rw [if_pos rfl, if_pos]
    have : ¬ ((sizeF L).1 ≤ 400 ∧ (sizeF L).2 ≤ 64) := fun g => h ⟨hR, g⟩
    omega
theorem lowTerm_good {L : List Nd} (hR : rightF L = true) (h1 : (sizeF L).1 ≤ 400) (h2 : (sizeF L).2 ≤ 64) (h0 : 0 ≤ (sizeF L).2) : lowTermF L (sizeF L).1 (sizeF L).2 = (termAt L (L.length - 1), 0) := by
  unfold lowTermF
  rw [if_pos hR, if_neg (by omega)]
theorem lowTerm_less {L : List Nd} (hR : rightF L = true) (h1 : (sizeF L).1 ≤ 400) : lowTermF L ((sizeF L).1 - 1) (sizeF L).2 = ([], 10) := by
  unfold lowTermF
  rw [if_pos hR, if_pos (by omega)]
theorem lowTerm_lessP {L : List Nd} (hR : rightF L = true) (h1 : (sizeF L).1 ≤ 400) (h2 : (sizeF L).2 ≤ 64) (h0 : 0 ≤ (sizeF L).2) : ∃ Y er, lowTermF L (sizeF L).1 ((sizeF L).2 - 1) = (Y, er) ∧ (er == 10) = decide (0 < (sizeF L).2) := by
  unfold lowTermF
  by_cases h : 0 < (sizeF L).2
  · exact ⟨[], 10, by rw [if_pos hR, if_pos (by omega)], by rw [decide_eq_true h]; rfl⟩
  · exact ⟨termAt L (L.length - 1), 0, by rw [if_pos hR, if_neg (by omega)], by rw [decide_eq_false h]; rfl⟩
set_option maxRecDepth 100000 in
set_option maxHeartbeats 2000000 in
theorem lterm_any (A : Option Addr) (c n : Nat) (w : World) (h : Came w A n) :
    Calls Try.prog 6 #[.slice A n c] w fun e w' => e = .returned (.bool true) ∧ Below w.heap.size w w' := by
  by_cases hn : n ≤ 60
  case neg =>
    have hd : decide (60 < (n : Int)) = true := decide_eq_true (by omega)
    clear h
    go_enter Try.func6, Try.ntmps6
    go_wp2_with fail
    refine (sure11_any _).mono ?_
    rintro e1 w1 ⟨rfl, hb1⟩
    go_wp2
    go_ret
    exact ⟨rfl, hb1⟩
  have hd : decide (60 < (n : Int)) = false := decide_eq_false (by omega)
  obtain ⟨L, hl, hL⟩ := h hn
  have HL := Lib.hid hL
  have CS := fun w1 (hb : Below w.heap.size w w1) => lsize_any A c L (by omega) w1 ((hL.below hb).more hb.size)
  have CR := fun w1 (hb : Below w.heap.size w w1) => rright6_any A c L w1 ((hL.below hb).more hb.size)
  have CL := fun T P w1 (hb : Below w.heap.size w w1) => lower_any A c L (by omega) T P 0 w1 ((hL.below hb).more hb.size)
  have C1 := CL (sizeF L).1 (sizeF L).2
  by_cases hgood : rightF L = true ∧ (sizeF L).1 ≤ 400 ∧ (sizeF L).2 ≤ 64
  case neg =>
    obtain ⟨er, he, her⟩ := lowTerm_bad hgood
    rw [he] at C1
    unfold RetLow at C1
    simp only [List.length_nil] at C1
    have hcs : ∃ R, rightF L = R ∧ ∃ d1, decide (400 < (sizeF L).1) = d1 ∧ ∃ d2, decide (64 < (sizeF L).2) = d2 ∧ (R = true → d1 = false → d2 = true) :=
      ⟨_, rfl, _, rfl, _, rfl, fun hR h1 => by
        refine decide_eq_true ?_
        have h1 := of_decide_eq_false h1
        by_cases h2 : 64 < (sizeF L).2
        · exact h2
        · exact absurd ⟨hR, by omega, by omega⟩ hgood⟩
    obtain ⟨R, hR, d1, hd1, d2, hd2, hcs⟩ := hcs
    rw [hR, hl] at CR
    rw [hl] at CS C1
    obtain ⟨⟨s1, s2⟩, hs⟩ : ∃ p, sizeF L = p := ⟨_, rfl⟩
    rw [hs] at CS C1 hd1 hd2
    simp only at hd1 hd2 C1
    have HC1 := Lib.hid C1
    have HCS := Lib.hid CS
    have HCR := Lib.hid CR
    clear h hl hL CS CR CL C1 hgood he hs hR
    have hgo : ∀ {X : Prop}, (d1 = true → X) → (d1 = false → d2 = true → X) → (d1 = false → d2 = false → R = false → X) → X := fun f g k => by
      cases d1 with
      | true => exact f rfl
      | false =>
        cases d2 with
        | true => exact g rfl rfl
        | false =>
          cases R with
          | false => exact k rfl rfl rfl
          | true => exact absurd (hcs rfl rfl) (by decide)
    clear hcs
    refine hgo ?_ ?_ ?_
    · rintro rfl
      clear hgo
      go_enter Try.func6, Try.ntmps6
      go_wp2_with fail
      refine (HCS.out _ (Below.refl _ _)).mono ?_
      rintro e1 w1 ⟨rfl, hb1⟩
      have HB1 := Lib.hid hb1
      clear hb1
      go_wp2_with fail
      refine (HC1.out _ HB1.out).mono ?_
      rintro e2 w2 ⟨A2, c2, rfl, _, hb2⟩
      have HB2 := Lib.hid (below_then HB1.out hb2)
      clear hb2
      go_wp2_with fail
      refine (sure11_any _).mono ?_
      rintro e3 w3 ⟨rfl, hb3⟩
      have HB3 := below_then HB2.out hb3
      go_wp2
      go_ret
      exact ⟨rfl, HB3⟩
    · rintro rfl rfl
      clear hgo
      go_enter Try.func6, Try.ntmps6
      go_wp2_with fail
      refine (HCS.out _ (Below.refl _ _)).mono ?_
      rintro e1 w1 ⟨rfl, hb1⟩
      have HB1 := Lib.hid hb1
      clear hb1
      go_wp2_with fail
      refine (HC1.out _ HB1.out).mono ?_
      rintro e2 w2 ⟨A2, c2, rfl, _, hb2⟩
      have HB2 := Lib.hid (below_then HB1.out hb2)
      clear hb2
      go_wp2_with fail
      refine (sure11_any _).mono ?_
      rintro e3 w3 ⟨rfl, hb3⟩
      have HB3 := below_then HB2.out hb3
      go_wp2
      go_ret
      exact ⟨rfl, HB3⟩
    · rintro rfl rfl rfl
      clear hgo
      go_enter Try.func6, Try.ntmps6
      go_wp2_with fail
      refine (HCS.out _ (Below.refl _ _)).mono ?_
      rintro e1 w1 ⟨rfl, hb1⟩
      have HB1 := Lib.hid hb1
      clear hb1
      go_wp2_with fail
      refine (HC1.out _ HB1.out).mono ?_
      rintro e2 w2 ⟨A2, c2, rfl, _, hb2⟩
      have HB2 := Lib.hid (below_then HB1.out hb2)
      clear hb2
      go_wp2_with fail
      refine (HCR.out _ HB2.out).mono ?_
      rintro e3 w3 ⟨rfl, hb3⟩
      have HB3 := Lib.hid (below_then HB2.out hb3)
      clear hb3
      go_wp2_with fail
      refine (sure11_any _).mono ?_
      rintro e4 w4 ⟨rfl, hb4⟩
      have HB4 := below_then HB3.out hb4
      go_wp2
      go_ret
      exact ⟨rfl, HB4⟩
  obtain ⟨hR, h1, h2⟩ := hgood
  obtain ⟨X, hX⟩ : ∃ X, termAt L (L.length - 1) = X := ⟨_, rfl⟩
  obtain ⟨lo, hG, hP, hXl, hXv, hXn⟩ := good_term3 hR h1 h2 X hX
  have hg9 := groupsF_le L L.length
  have htop := topT_le X _ hXn
  have e1 := lowTerm_good hR h1 h2 (by omega)
  have e2 := lowTerm_less hR h1
  obtain ⟨Y, er, e3, her⟩ := lowTerm_lessP hR h1 h2 (by omega)
  rw [hX] at e1
  have C2 := CL ((sizeF L).1 - 1) (sizeF L).2
  have C3 := CL (sizeF L).1 ((sizeF L).2 - 1)
  rw [e1] at C1
  rw [e2] at C2
  rw [e3] at C3
  obtain ⟨⟨s1, s2⟩, hs⟩ : ∃ p, sizeF L = p := ⟨_, rfl⟩
  rw [hs] at CS C1 C2 C3 hXl hXv her h1 h2
  simp only at C1 C2 C3 hXl hXv her h1 h2
  subst hXl hXv
  obtain ⟨N, hN⟩ : ∃ N, X.length = N := ⟨_, rfl⟩
  obtain ⟨V, hV⟩ : ∃ V, leavesN X X.length = V := ⟨_, rfl⟩
  have hpos := hG.pos
  rw [hV] at CS C1 C2 C3 her h2
  unfold RetLow at C1 C2 C3
  simp only [List.length_nil] at C1 C2 C3
  rw [hN] at CS C1 C2 C3 h1 hpos
  rw [hR, hl] at CR
  rw [hl] at CS C1 C2 C3 htop hg9
  have HN := Lib.hid hN
  have HV := Lib.hid hV
  have HG := Lib.hid hG
  have HP := Lib.hid hP
  have HLN := Lib.hid hl
  have HC1 := Lib.hid C1
  have HC2 := Lib.hid C2
  have HC3 := Lib.hid C3
  have HCS := Lib.hid CS
  have HCR := Lib.hid CR
  have HTOP := Lib.hid htop
  obtain ⟨G, hGe⟩ : ∃ G, groupsF L n = G := ⟨_, rfl⟩
  have HGE := Lib.hid hGe
  have hd4 : decide (400 < (N : Int)) = false := decide_eq_false (by omega)
  have hd6 : decide (64 < (V : Int)) = false := decide_eq_false (by omega)
  have hd4' : decide (400 < N) = false := decide_eq_false (by omega)
  have hd6' : decide (64 < V) = false := decide_eq_false (by omega)
  rw [hGe] at hg9
  have HER := Lib.hid her
  clear h hl hL CS CR CL C1 C2 C3 hR hX hG hP hXn htop e1 e2 e3 hs hN hV hGe her
  go_enter Try.func6, Try.ntmps6
  go_wp2_with fail
  refine (HCS.out _ (Below.refl _ _)).mono ?_
  rintro e1 w1 ⟨rfl, hb1⟩
  have HB1 := Lib.hid hb1
  clear hb1 HCS
  go_wp2_with fail
  refine (HC1.out _ HB1.out).mono ?_
  rintro e2 w2 ⟨A2, c2, rfl, hrow2, hb2⟩
  have HB2 := Lib.hid (below_then HB1.out hb2)
  obtain ⟨gX, rfl, hgX, hgX2, hcX, _⟩ := row_cell hrow2 hpos
  have HX2 := Lib.hid (TermAt.of_row hrow2 HN.out (by omega))
  clear hb2 hrow2 HC1
  go_wp2_with fail
  refine (HCR.out _ HB2.out).mono ?_
  rintro e3 w3 ⟨rfl, hb3⟩
  have HB3 := Lib.hid (below_then HB2.out hb3)
  have HX3 := Lib.hid ((HX2.out.below hb3).more hb3.size)
  have hgX3 := Nat.lt_of_lt_of_le hgX2 hb3.size
  clear hb3 HCR HX2 hgX2
  have CT := tright_any _ c2 X lo w3 HX3.out (by rw [HN.out]; exact hcX) HG.out
  rw [HN.out] at CT
  go_wp2_with fail
  refine CT.mono ?_
  rintro e4 w4 ⟨rfl, hb4⟩
  have HB4 := Lib.hid (below_then HB3.out hb4)
  have HX4 := Lib.hid ((HX3.out.below hb4).more hb4.size)
  have hgX4 := Nat.lt_of_lt_of_le hgX3 hb4.size
  clear hb4 CT HX3 hgX3
  have CT := rright10_any _ c2 X lo w4 HX4.out HG.out
  rw [HN.out] at CT
  go_wp2_with fail
  refine CT.mono ?_
  rintro e5 w5 ⟨rfl, hb5⟩
  have HB5 := Lib.hid (below_then HB4.out hb5)
  have HX5 := Lib.hid ((HX4.out.below hb5).more hb5.size)
  have hgX5 := Nat.lt_of_lt_of_le hgX4 hb5.size
  clear hb5 CT HX4 hgX4 HB1 HB2 HB3 HB4
  go_wp2_with fail
  go_loopw [7, 9] (fun l i wr => ∃ k : Nat, k ≤ N ∧ i = .int .i64 k ∧ l = .int .i64 (leavesN X k : Nat) ∧ Below w5.heap.size w5 wr) (fun _ i _ => N - (intOf i).toNat)
  case atStart => exact ⟨0, Nat.zero_le _, rfl, rfl, Below.refl _ _⟩
  case round =>
    obtain ⟨k, hk, rfl, rfl, hX⟩ := hrel
    have HX := Lib.hid hX
    have hsz := hX.size
    clear hX
    have hlv := leavesN_le X k
    by_cases hlt : k < N
    · have hltX : k < X.length := by rw [HN.out]; exact hlt
      have hnode : ∀ j, j < N → Tm8 wr gX (j * 8) (X.getD j tmE) := fun j hj => by
        obtain ⟨b', off', he, _, h8⟩ := (HX5.out.below HX.out).node (j := j) (by rw [HN.out]; exact hj)
        cases he
        rw [Nat.zero_add] at h8
        exact h8
      have hS := leavesN_succ X hltX
      obtain ⟨n0, n1, _⟩ := hnode k hlt
      have hA := HP.out.at_ k hltX
      have hgw : gX < wr.heap.size := by omega
      have hta : (lo.take k).length = k := by rw [List.length_take, HP.out.len, HN.out]; omega
      have hlow := hA.low
      have hst := hA.st
      have hmy := hA.my
      have hlows := fun j (hj : j < k) => (HP.out.at_ j (by omega)).low
      generalize hx : X.getD k tmE = x at *
      obtain ⟨xk, xa, xb, xn, xf⟩ := x
      simp only at n0 n1 hS hst hmy
      clear hA hx
      by_cases k2 : xk = 2
      · subst k2
        rw [show ((2 : Int) == 2) = true from rfl, if_pos rfl] at hS
        have HS := Lib.hid hS
        clear hS hlow hst hmy hlows hnode
        go_wp2_with fail
        go_roundw
        case rel => exact ⟨k + 1, by omega, by go_num, by rw [HS.out]; go_num, HX.out⟩
        case measure => simp [intOf]; omega
      have k2' : (xk == 2) = false := beq_eq_false_iff_ne.2 k2
      rw [k2', if_neg (by decide)] at hS
      have HS := Lib.hid hS
      by_cases k5 : xk = 5
      · subst k5
        obtain ⟨p, hp, hpa⟩ := low_one_of hlow (.inl rfl)
        simp only at hpa
        subst hpa
        have h8 := hst rfl
        rw [Int.toNat_natCast] at h8
        obtain ⟨m0, _⟩ := hnode p (by omega)
        rw [h8] at m0
        have hpN : p < N := by omega
        clear hS hlow hst hmy hlows hnode h8 k2 hp
        go_wp2_with fail
        go_roundw
        case rel => exact ⟨k + 1, by omega, by go_num, by rw [HS.out], HX.out⟩
        case measure => simp [intOf]; omega
      have k5' : (xk == 5) = false := beq_eq_false_iff_ne.2 k5
      by_cases k6 : xk = 6
      · subst k6
        obtain ⟨p, hp, hpa⟩ := low_one_of hlow (.inr rfl)
        simp only at hpa
        subst hpa
        have h8 := hmy rfl
        rw [Int.toNat_natCast] at h8
        have hm8 := hnode p (by omega)
        have hlp := hlows p (by omega)
        have hpl : (lo.take p).length = p := by rw [List.length_take, HP.out.len, HN.out]; omega
        have hpN : p < N := by omega
        have HX9 := fun cs => HX.out.alloc HX.out.size (.cells cs 47)
        generalize X.getD p tmE = y at *
        obtain ⟨yk, ya, yb, yn, yf⟩ := y
        unfold Tm8 at hm8
        obtain ⟨m0, m1, m2, m3, m4, m5, m6, m7⟩ := hm8
        simp only at h8 m0 m1 m2 m3 m4 m5 m6 m7
        have HX9 := Lib.hid HX9
        rcases h8 with rfl | ⟨rfl, h9⟩
        · clear hS hlow hst hmy hlows hnode k2 hp hlp
          go_wp2_with fail
          go_roundw
          case rel => exact ⟨k + 1, by omega, by go_num, by rw [HS.out], HX9.out _⟩
          case measure => simp [intOf]; omega
        · obtain ⟨q, hq, hqa⟩ := low_two_of hlp hpl rfl
          simp only at hqa
          subst hqa
          rw [Int.toNat_natCast] at h9
          obtain ⟨q0, _⟩ := hnode q (by omega)
          rw [h9] at q0
          have hqN : q < N := by omega
          clear hS hlow hst hmy hlows hnode k2 hp hlp h9
          go_wp2_with fail
          go_roundw
          case rel => exact ⟨k + 1, by omega, by go_num, by rw [HS.out], HX9.out _⟩
          case measure => simp [intOf]; omega
      have k6' : (xk == 6) = false := beq_eq_false_iff_ne.2 k6
      clear hS hlow hst hmy hlows hnode k2 k5 k6
      go_wp2_with fail
      go_roundw
      case rel => exact ⟨k + 1, by omega, by go_num, by rw [HS.out], HX.out⟩
      case measure => simp [intOf]; omega
    · obtain rfl : k = N := by omega
      have hlvk : leavesN X k = V := by rw [← HV.out, HN.out]
      rw [hlvk]
      have HB6 := Lib.hid (HB5.out.trans (HX.out.mono HB5.out.size))
      have HX6 := Lib.hid ((HX5.out.below HX.out).more HX.out.size)
      clear hlvk hlv HX hlt hk HX5 HB5
      obtain ⟨W6, hW6⟩ : ∃ W6, W6 = wr := ⟨_, rfl⟩
      subst hW6
      go_wp2_with fail
      go_loopw [8, 11] (fun g i wr => ∃ j : Nat, j ≤ n ∧ i = .int .i64 j ∧ g = .int .i64 (groupsF L j : Nat) ∧ Below W6.heap.size W6 wr) (fun _ i _ => n - (intOf i).toNat)
      case atStart => exact ⟨0, Nat.zero_le _, rfl, rfl, Below.refl _ _⟩
      case round =>
        obtain ⟨j, hj, rfl, rfl, hY⟩ := hrel
        have HY := Lib.hid hY
        clear hY
        have hgl := groupsF_le L j
        by_cases hlt : j < n
        · have hjL : j < L.length := by rw [HLN.out]; exact hlt
          obtain ⟨b, off, rfl, hb, hn8⟩ := (HL.out.below (HB6.out.trans (HY.out.mono HB6.out.size))).node hjL
          have hbw : b < wr.heap.size := Nat.lt_of_lt_of_le hb (Nat.le_trans HB6.out.size HY.out.size)
          have hgs : groupsF L (j + 1) = if (L.getD j ndEmpty).kind == 3 then groupsF L j + 1 else groupsF L j := by rw [groupsF]
          generalize L.getD j ndEmpty = x at *
          obtain ⟨kd, kn, xn, xm, xf⟩ := x
          unfold Node8 at hn8
          obtain ⟨n0, _⟩ := hn8
          simp only at n0 hgs
          cases e3 : (kd == 3) with
          | true =>
            rw [e3, if_pos rfl] at hgs
            have HGS := Lib.hid hgs
            clear hgs
            go_wp2_with fail
            go_roundw
            case rel => exact ⟨j + 1, by omega, by go_num, by rw [HGS.out]; go_num, HY.out⟩
            case measure => simp [intOf]; omega
          | false =>
            rw [e3, if_neg (by decide)] at hgs
            have HGS := Lib.hid hgs
            clear hgs
            go_wp2_with fail
            go_roundw
            case rel => exact ⟨j + 1, by omega, by go_num, by rw [HGS.out], HY.out⟩
            case measure => simp [intOf]; omega
        · obtain rfl : j = n := by omega
          rw [HGE.out]
          have HB7 := Lib.hid (HB6.out.trans (HY.out.mono HB6.out.size))
          have HX7 := Lib.hid ((HX6.out.below HY.out).more HY.out.size)
          have y1 : IntKind.i64.wrap ((k : Int) - 1) = (k : Int) - 1 := IntWalk.i64_in _ (by omega)
          have y2 : IntKind.i64.wrap ((V : Int) - 1) = (V : Int) - 1 := IntWalk.i64_in _ (by omega)
          clear hgl HY hlt hj HX6 HB6
          go_wp2_with fail
          refine (HC2.out _ HB7.out).mono ?_
          rintro e8 w8 ⟨A8, c8, rfl, _, hb8⟩
          have HB8 := Lib.hid (below_then HB7.out hb8)
          have HX8 := Lib.hid ((HX7.out.below hb8).more hb8.size)
          clear hb8 HB7 HX7 HC2
          go_wp2_with fail
          refine (HC3.out _ HB8.out).mono ?_
          rintro e9 w9 ⟨A9, c9, rfl, _, hb9⟩
          have HB9 := Lib.hid (below_then HB8.out hb9)
          have HX9 := Lib.hid ((HX8.out.below hb9).more hb9.size)
          have CT := ttop_any _ c2 X lo w9 HX9.out (by rw [HN.out]; exact hcX) HG.out
          rw [HN.out] at CT
          have htop := HTOP.out
          rw [HGE.out] at htop
          obtain ⟨z, hz, her⟩ : ∃ z, decide (0 < (V : Int)) = z ∧ (er == 10) = z := ⟨_, rfl, HER.out⟩
          generalize topT X = T at *
          have hdT : decide ((T : Int) ≤ (G : Int)) = true := decide_eq_true (by omega)
          have hdT' : decide (T ≤ G) = true := decide_eq_true (by omega)
          clear hb9 HB8 HX8 HC3
          cases z
          all_goals
            go_wp2_with fail
            refine CT.mono ?_
            rintro e10 w10 ⟨rfl, hb10⟩
            have HB10 := Lib.hid (below_then HB9.out hb10)
            clear hb10 HB9
            go_wp2_with fail
            any_goals (first | (exfalso; have hz2 := of_decide_eq_true hz; omega) | (exfalso; have hz2 := of_decide_eq_false hz; omega) | skip)
            refine (sure11_any _).mono ?_
            rintro e11 w11 ⟨rfl, hb11⟩
            have HB11 := Lib.hid (below_then HB10.out hb11)
            clear hb11 HB10
            go_wp2_with fail
            go_ret
            exact ⟨rfl, HB11.out⟩
end Go.Proofs.Ytddokdjlmdoebaa
