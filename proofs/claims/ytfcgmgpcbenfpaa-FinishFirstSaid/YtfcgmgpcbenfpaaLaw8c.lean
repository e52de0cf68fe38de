/- FinishFirst, walked. -/
import Derived.Test.YtfcgmgpcbenfpaaProg
import Derived.WalkKit
import Derived.WalkSpells
import Derived.WalkLawsBesides
import Derived.Handy
import Derived.Lib.Hide
import Derived.Test.YtfcgmgpcbenfpaaMFin
set_option linter.unusedVariables false
set_option linter.unusedSimpArgs false
namespace Go.Proofs.Ytfcgmgpcbenfpaa
open Go.RowKit SetP BrkP LexP AstP ParP
theorem pre_begins {s : ByteArray} {i : Nat} (h : begins8 s = true) (hi : i ≤ s.size) : begins8 (s.extract 0 i) = true := by
  cases hb : begins8 (s.extract 0 i) with
  | true => rfl
  | false =>
    exfalso
    have hz : (s.extract 0 i).size = i := by rw [ByteArray.size_extract]; omega
    unfold begins8 at hb
    simp only [Bool.or_eq_false_iff, beq_eq_false_iff_ne] at hb
    obtain ⟨k, hk, k0, kn, hA, _⟩ := parse_bad hb.1 hb.2
    rw [hz] at kn
    have hal : BrkP.Alike k (s.extract 0 i) s := by
      refine alike_list (by omega) (by omega) ?_
      rw [extract_list, List.drop_zero, List.take_take, Nat.min_eq_left kn]
    have := hA s hal
    unfold begins8 at h
    rw [this] at h
    simp only [Bool.or_eq_true, beq_iff_eq] at h
    omega
set_option maxRecDepth 100000 in
set_option maxHeartbeats 8000000 in
theorem first8_any (s more : ByteArray) (w : World) : Calls Try.prog 3 #[.string s, .string more] w fun e w' => e = .returned (.bool true) ∧ Below w.heap.size w w' := by
  by_cases h : 120 < (s.size : Int)
  · have e : decide (120 < (s.size : Int)) = true := by simpa using h
    go_enter Try.func3, Try.ntmps3
    go_wp2_with fail
    refine (sure8_any _).mono ?_
    rintro e1 w1 ⟨rfl, hb1⟩
    go_wp2
    go_ret
    exact ⟨rfl, hb1⟩
  have e : decide (120 < (s.size : Int)) = false := by simpa using h
  have hsz : s.size ≤ 120 := by omega
  clear h
  by_cases h : 60 < (more.size : Int)
  · have e2 : decide (60 < (more.size : Int)) = true := by simpa using h
    go_enter Try.func3, Try.ntmps3
    go_wp2_with fail
    refine (sure8_any _).mono ?_
    rintro e1 w1 ⟨rfl, hb1⟩
    go_wp2
    go_ret
    exact ⟨rfl, hb1⟩
  have e2 : decide (60 < (more.size : Int)) = false := by simpa using h
  have hmz : more.size ≤ 60 := by omega
  clear h
  have C1 := pparse_any s (by omega)
  cases hb : begins8 s with
  | true =>
    have hpre : ∀ i, i < s.size + 1 → i ≤ s.size → begins8 (s.extract 0 i) = true := fun i _ hi => pre_begins hb hi
    have HPRE := Lib.hid hpre
    clear hpre
    unfold begins8 at hb
    obtain ⟨⟨L, er, p⟩, hR⟩ : ∃ R, parseF s = R := ⟨_, rfl⟩
    rw [hR] at C1 hb
    simp only [Bool.or_eq_true, beq_iff_eq] at hb
    clear hR
    rcases hb with rfl | rfl
    all_goals
      go_enter Try.func3, Try.ntmps3
      go_wp2_with fail
      refine (C1 _).mono ?_
      rintro e1 w1 ⟨A1, c1, rfl, hown1, hb1⟩
      have HB1 := Lib.hid hb1
      clear hb1 C1 hown1
      go_wp2_with fail
      go_loopw [8] (fun x wr => ∃ i : Nat, i ≤ s.size + 1 ∧ x = .int .i64 i ∧ Below w.heap.size w wr) (fun x _ => s.size + 1 - (intOf x).toNat)
      case atStart => exact ⟨0, Nat.zero_le _, rfl, HB1.out⟩
      case round =>
        obtain ⟨i, hi, rfl, hB⟩ := hrel
        have HB := Lib.hid hB
        clear hB
        by_cases hlt : i < s.size + 1
        · have q1 : (i : Int) < (s.size : Int) + 1 := by omega
          have q2 : (i : Int) ≤ (s.size : Int) := by omega
          have hz : (s.extract 0 i).size = i := by rw [ByteArray.size_extract]; omega
          have hP := HPRE.out i (by omega) (by omega)
          have CF := finish_any (s.extract 0 i) (by omega)
          have CB := begins8_any (s.extract 0 i) (by omega)
          unfold RetFin at CF
          rw [hP] at CF CB
          simp only [if_true] at CF
          have d1 : decide (s.size < i) = false := decide_eq_false (by omega)
          clear hP
          go_wp2_with fail
          refine (CF _).mono ?_
          rintro e1 w1 ⟨⟨t, ht, hp, rfl⟩, hb1⟩
          have CP := pparse_any (s.extract 0 i ++ t) (by rw [ByteArray.size_append']; omega)
          obtain ⟨⟨L, er, p⟩, hR⟩ : ∃ R, parseF (s.extract 0 i ++ t) = R := ⟨_, rfl⟩
          rw [hR] at CP hp
          simp only at hp
          subst hp
          have HB1 := Lib.hid (below_then HB.out hb1)
          clear hb1 hR CF HB
          go_wp2_with fail
          refine (CP _).mono ?_
          rintro e2 w2 ⟨A2, c2, rfl, hown2, hb2⟩
          have HB2 := Lib.hid (below_then HB1.out hb2)
          clear hb2 HB1 hown2 CP
          go_wp2_with fail
          refine (CB _).mono ?_
          rintro e3 w3 ⟨rfl, hb3⟩
          have HB3 := Lib.hid (below_then HB2.out hb3)
          clear hb3 HB2 CB
          go_wp2_with fail
          go_roundw
          case rel => exact ⟨i + 1, by omega, by go_num, HB3.out⟩
          case measure => simp [intOf]; omega
        · have q1 : ¬ (i : Int) < (s.size : Int) + 1 := by omega
          go_wp2_with fail
          refine (sure8_any _).mono ?_
          rintro e5 w5 ⟨rfl, hb5⟩
          have HB5 := below_then HB.out hb5
          go_wp2
          go_ret
          exact ⟨rfl, HB5⟩
  | false =>
    have hb' := hb
    unfold begins8 at hb'
    simp only [Bool.or_eq_false_iff, beq_eq_false_iff_ne] at hb'
    obtain ⟨k, hk, k0, kn, hA, hB⟩ := parse_bad hb'.1 hb'.2
    have hpre : ∀ i, i < k → i ≤ s.size → begins8 (s.extract 0 i) = true := fun i hik hi => by
      have := hB (s.extract 0 i) i hik (alike_ext s i hi) (by rw [ByteArray.size_extract]; omega)
      unfold begins8
      rcases this with h | h <;> rw [h] <;> rfl
    have hk1 := hA (s.extract 0 k) (alike_ext s k kn)
    have hk2 := hA (s.extract 0 k ++ more) (alike_cut s more k kn)
    have z1 : (s.extract 0 k).size ≤ 120 := by rw [ByteArray.size_extract]; omega
    have C2 := pparse_any (s.extract 0 k ++ more) (by rw [ByteArray.size_append']; omega)
    have B1 := begins8_any (s.extract 0 k) (by omega)
    have B2 := begins8_any (s.extract 0 k ++ more) (by rw [ByteArray.size_append']; omega)
    have hb1 : begins8 (s.extract 0 k) = false := by unfold begins8; rw [hk1]; exact hb
    have hb2 : begins8 (s.extract 0 k ++ more) = false := by unfold begins8; rw [hk2]; exact hb
    rw [hb1] at B1
    rw [hb2] at B2
    clear hb1 hb2 hA hB hk1 hb
    obtain ⟨⟨L, er, p⟩, hR⟩ : ∃ R, parseF s = R := ⟨_, rfl⟩
    obtain ⟨⟨L2, er2, p2⟩, hR2⟩ : ∃ R, parseF (s.extract 0 k ++ more) = R := ⟨_, rfl⟩
    rw [hR] at C1 hb' hk hk2
    rw [hR2] at C2 hk2
    simp only [Prod.mk.injEq] at hb' hk hk2
    obtain ⟨rfl, rfl⟩ := hk2
    subst hk
    clear hR hR2
    have HPRE := Lib.hid hpre
    have t0 : (er2 == 0) = false := beq_eq_false_iff_ne.2 hb'.1
    have t2 : (er2 == 2) = false := beq_eq_false_iff_ne.2 hb'.2
    have u0 : (er2 != 0) = true := bne_iff_ne.2 hb'.1
    clear hpre hb'
    go_enter Try.func3, Try.ntmps3
    go_wp2_with fail
    refine (C1 _).mono ?_
    rintro e1 w1 ⟨A1, c1, rfl, hown1, hb1⟩
    have HB1 := Lib.hid hb1
    clear hb1 C1 hown1
    go_wp2_with fail
    go_loopw [8] (fun x wr => ∃ i : Nat, i ≤ k ∧ x = .int .i64 i ∧ Below w.heap.size w wr) (fun x _ => k - (intOf x).toNat)
    case atStart => exact ⟨0, Nat.zero_le _, rfl, HB1.out⟩
    case round =>
      obtain ⟨i, hi, rfl, hB⟩ := hrel
      have HB := Lib.hid hB
      clear hB
      by_cases hlt : i < k
      · have q1 : (i : Int) < (k : Int) := by omega
        have q2 : (i : Int) ≤ (s.size : Int) := by omega
        have hz : (s.extract 0 i).size = i := by rw [ByteArray.size_extract]; omega
        have hP := HPRE.out i (by omega) (by omega)
        have CF := finish_any (s.extract 0 i) (by omega)
        have CB := begins8_any (s.extract 0 i) (by omega)
        unfold RetFin at CF
        rw [hP] at CF CB
        simp only [if_true] at CF
        have d1 : decide (s.size < i) = false := decide_eq_false (by omega)
        clear hP
        go_wp2_with fail
        refine (CF _).mono ?_
        rintro e1 w1 ⟨⟨t, ht, hp, rfl⟩, hb1⟩
        have CP := pparse_any (s.extract 0 i ++ t) (by rw [ByteArray.size_append']; omega)
        obtain ⟨⟨L, er, p⟩, hR⟩ : ∃ R, parseF (s.extract 0 i ++ t) = R := ⟨_, rfl⟩
        rw [hR] at CP hp
        simp only at hp
        subst hp
        have HB1 := Lib.hid (below_then HB.out hb1)
        clear hb1 hR CF HB
        go_wp2_with fail
        refine (CP _).mono ?_
        rintro e2 w2 ⟨A2, c2, rfl, hown2, hb2⟩
        have HB2 := Lib.hid (below_then HB1.out hb2)
        clear hb2 HB1 hown2 CP
        go_wp2_with fail
        refine (CB _).mono ?_
        rintro e3 w3 ⟨rfl, hb3⟩
        have HB3 := Lib.hid (below_then HB2.out hb3)
        clear hb3 HB2 CB
        go_wp2_with fail
        go_roundw
        case rel => exact ⟨i + 1, by omega, by go_num, HB3.out⟩
        case measure => simp [intOf]; omega
      · obtain rfl : i = k := by omega
        have q3 : ¬ (s.size : Int) < (i : Int) := by omega
        have q4 : decide (s.size < i) = false := decide_eq_false (by omega)
        clear hlt
        go_wp2_with fail
        refine (C2 _).mono ?_
        rintro e2 w2 ⟨A2, c2, rfl, hown2, hb2⟩
        have HB2 := Lib.hid (below_then HB.out hb2)
        clear hb2 HB hown2 C2
        go_wp2_with fail
        refine (B1 _).mono ?_
        rintro e3 w3 ⟨rfl, hb3⟩
        have HB3 := Lib.hid (below_then HB2.out hb3)
        clear hb3 HB2 B1
        go_wp2_with fail
        refine (B2 _).mono ?_
        rintro e4 w4 ⟨rfl, hb4⟩
        have HB4 := Lib.hid (below_then HB3.out hb4)
        clear hb4 HB3 B2
        go_wp2_with fail
        refine (sure8_any _).mono ?_
        rintro e5 w5 ⟨rfl, hb5⟩
        have HB5 := below_then HB4.out hb5
        go_wp2
        go_ret
        exact ⟨rfl, HB5⟩
end Go.Proofs.Ytfcgmgpcbenfpaa
