/- LexBack, walked. -/
import Derived.Test.YtddokdjlmdoebaaProg
import Derived.WalkKit
import Derived.WalkSpells
import Derived.WalkLawsBesides
import Derived.Handy
import Derived.Lib.Hide
import Derived.Test.YtddokdjlmdoebaaLaw5
import Derived.Test.YtddokdjlmdoebaaLaw5p
import Derived.Deep.QuietTactic
import Derived.BigQuiet
namespace Go.Proofs.Ytddokdjlmdoebaa
open Go.RowKit SetP BrkP LexP
set_option maxRecDepth 100000 in
theorem run_eq_set_same (w : World) (f : Nat → Bool) : (Op.equalIn 10000 41 (.agg #[.int .u64 (wd f 0), .int .u64 (wd f 1), .int .u64 (wd f 2), .int .u64 (wd f 3)]) (.agg #[.int .u64 (wd f 0), .int .u64 (wd f 1), .int .u64 (wd f 2), .int .u64 (wd f 3)])).run Try.prog w = .ok true w := by
  have h := run_eq_set w f f
  rw [same_iff.2 fun _ _ => rfl] at h
  exact h
attribute [local go_sem] run_eq_set_same
/-- One round of the loop that prints. -/
theorem cat_step {L : List Wd} {k : Nat} (hk : k < L.length) : catT (L.take (k + 1)) = catT (L.take k) ++ printW (L.getD k wd0) := by
  rw [List.take_add_one, List.getElem?_eq_getElem hk, List.getD_eq_getElem?_getD, List.getElem?_eq_getElem hk]
  exact catT_snoc _ _
theorem start_succ {L : List Wd} {k : Nat} : startAt 0 L (k + 1) = (L.getD k wd0).stop := by unfold startAt; rw [if_neg (by omega), Nat.add_sub_cancel]
set_option maxRecDepth 100000 in
set_option maxHeartbeats 2000000 in
theorem back5_any (s : ByteArray) (w : World) : Calls Try.prog 14 #[.string s] w fun e w' => e = .returned (.bool true) ∧ Below w.heap.size w w' := by
  by_cases h : 300 < (s.size : Int)
  · have e : decide (300 < (s.size : Int)) = true := by simpa using h
    go_enter Try.func14, Try.ntmps14
    go_wp2_with fail
    refine (sure5_any _).mono ?_
    rintro e1 w1 ⟨rfl, hb1⟩
    go_wp2
    go_ret
    exact ⟨rfl, hb1⟩
  have e : decide (300 < (s.size : Int)) = false := by simpa using h
  have hsz : s.size ≤ 300 := by omega
  clear h
  have C := lall_any s (by omega)
  rcases all_cases s with ⟨L, h1, h2⟩ | ⟨er, pl, hne, h1⟩
  case inr =>
    rw [h1] at C
    have hn : (er != 0) = true := bne_iff_ne.2 hne
    clear h1 hne
    go_enter Try.func14, Try.ntmps14
    go_wp2_with fail
    refine (C _).mono ?_
    rintro e1 w1 ⟨A1, c1, rfl, hown1, hb1⟩
    clear hown1
    have HB1 := Lib.hid hb1; clear hb1
    go_wp2_with fail
    refine (sure5_any _).mono ?_
    rintro e9 w9 ⟨rfl, hb9⟩
    have HB9 := below_then HB1.out hb9
    clear hb9
    go_wp2
    go_ret
    exact ⟨rfl, HB9⟩
  rw [h1] at C
  clear h1
  have hlen : L.length ≤ 300 := by have := h2.le; omega
  have HCH := Lib.hid h2.chain.1
  have HEND := Lib.hid h2.chain.2
  have HOK := Lib.hid h2.ok
  clear h2
  obtain ⟨M, hM, hML, hMS⟩ := cat_read L HOK.out
  have C2 := lall_any ⟨(catT L).toArray⟩ (by have := catT_le L; show (catT L).toArray.size ≤ _; simp; omega)
  rw [hM] at C2
  have HMS := Lib.hid hMS
  have HML := Lib.hid hML
  clear hM hMS hML
  obtain ⟨N, hN⟩ : ∃ N, L.length = N := ⟨_, rfl⟩
  have HN := Lib.hid hN
  rw [hN] at hlen
  clear hN
  go_enter Try.func14, Try.ntmps14
  go_wp2_with fail
  refine (C _).mono ?_
  rintro e1 w1 ⟨A1, c1, rfl, hown1, hb1⟩
  have HA := Lib.hid (WordsAt.of_row hown1 rfl (by simp only; rw [HN.out]; omega))
  have HB1 := Lib.hid hb1
  clear C hb1 hown1
  simp only
  rw [HN.out]
  go_wp2_with fail
  go_loopw [6, 7, 8] (fun a p i wr => ∃ (k : Nat) (S : ByteArray) (q : Nat), k ≤ N ∧ i = .int .i64 k ∧ a = .string S ∧ S = ⟨(catT (L.take k)).toArray⟩ ∧ p = .int .i64 q ∧ startAt 0 L k = q ∧ Below w.heap.size w wr ∧ Below w1.heap.size w1 wr) (fun _ _ i _ => N - (intOf i).toNat)
  case atStart => exact ⟨0, ⟨#[]⟩, 0, by omega, rfl, rfl, rfl, rfl, rfl, HB1.out, Below.refl _ _⟩
  case round =>
    obtain ⟨k, S, q, hk, rfl, rfl, hS, rfl, hq, hB, hX⟩ := hrel
    have hSz : S.size ≤ 300000 := by
      have h1 := catT_le (L.take k)
      have h2 : (L.take k).length ≤ 300 := by rw [List.length_take]; omega
      rw [hS]; show (catT (L.take k)).toArray.size ≤ _; simp; omega
    have HS := Lib.hid hS; clear hS
    have HB := Lib.hid hB; clear hB
    have HX := Lib.hid hX; clear hX
    by_cases hlt : k < N
    · have hkL : k < L.length := by rw [HN.out]; exact hlt
      obtain ⟨p, e', x1, x2, x3, x4, x5, x6⟩ := HCH.out k hkL
      obtain rfl : p = q := by omega
      have HNX : Hid (startAt 0 L (k + 1) = e') := Lib.hid (by rw [start_succ]; exact x2)
      obtain ⟨b, rfl, hb, hn⟩ := (HA.out.below HX.out).word hkL
      have HST := Lib.hid (cat_step hkL)
      have hbl : b < wr.heap.size := Nat.lt_of_lt_of_le hb HX.out.size
      generalize L.getD k wd0 = x at *
      obtain ⟨kd, at_, st, f, n, m⟩ := x
      simp only at x1 x2
      subst x1 x2
      unfold Word9 at hn
      simp only at hn
      obtain ⟨n0, n1, n2, n3, n4, n5, n6, n7, n8⟩ := hn
      obtain ⟨x, hx⟩ : ∃ x : Wd, x = ⟨kd, (p : Int), (e' : Int), f, n, m⟩ := ⟨_, rfl⟩
      have C3 := lprint_any ⟨kd, p, e', f, n, m⟩
      rw [← hx] at x6 HST C3
      have C4 := lnext_any ⟨(printW x).toArray⟩ 0 (by have := printW_le x; show (printW x).toArray.size ≤ _; simp; omega)
      unfold RetW at C4
      obtain ⟨a0, ha⟩ := print_wans x6
      rw [ha] at C4
      have hTz : (printW x).length = (⟨(printW x).toArray⟩ : ByteArray).size := by show _ = (printW x).toArray.size; simp
      have hT0 := printW_le x
      rw [hTz] at C4 hT0
      obtain ⟨T, hT⟩ : ∃ T, (⟨(printW x).toArray⟩ : ByteArray) = T := ⟨_, rfl⟩
      have HT := Lib.hid hT
      rw [hT] at hT0 C4
      rw [show strB (printW x) = T from hT] at C3
      rw [hx] at C3 C4
      simp only at C4
      clear hT hTz ha x4 x5 x6 hq hkL hx
      obtain ⟨S1, hj1⟩ : ∃ S1, S ++ T = S1 := ⟨_, rfl⟩
      have hz1 : S1.size ≤ 301000 := by rw [← hj1, ByteArray.size_append']; omega
      have HS1 := Lib.hid hj1
      have d1 : decide (e' ≤ p) = false := by simpa using x3
      go_wp2_with fail
      refine (C3 _).mono ?_
      rintro e3 w3 ⟨rfl, hb3⟩
      clear C3
      go_wp2_with fail
      refine (C4 _).mono ?_
      rintro e4 w4 ⟨rfl, hb4⟩
      clear C4
      have o4 : Slab (w4.alloc (.cells (wdCells ⟨kd, a0, (T.size : Int), f, n, m⟩) 57)) w4.heap.size (wdCells ⟨kd, a0, (T.size : Int), f, n, m⟩) 57 := Slab.new _ _ _
      have hb5 := below_then hb3 hb4
      have hb6 := hb5.alloc hb5.size (.cells (wdCells ⟨kd, a0, (T.size : Int), f, n, m⟩) 57)
      have fc := (bcell hb6).1
      have m0 := (fc b _ hbl).trans n0
      have m3 := (fc b _ hbl).trans n3
      have m4 := (fc b _ hbl).trans n4
      have m5 := (fc b _ hbl).trans n5
      have m6 := (fc b _ hbl).trans n6
      have m7 := (fc b _ hbl).trans n7
      have m8 := (fc b _ hbl).trans n8
      have HB6 := Lib.hid (below_then HB.out hb6)
      have HX6 := Lib.hid (below_then HX.out hb6)
      clear fc hb3 hb4 hb5 hb6 n0 n1 n2 n3 n4 n5 n6 n7 n8 HB HX
      obtain ⟨c4, f4⟩ := o4.facts
      clear o4
      go_wp2_with fail
      go_quiet (fail)
      go_wp2
      go_roundw
      case rel =>
        refine ⟨k + 1, S1, e', by omega, by go_num, rfl, ?_, rfl, HNX.out, below_drewN HB6.out _, below_drewN HX6.out _⟩
        rw [← HS1.out, HS.out, ← HT.out, HST.out]
        exact strB_app _ _
      case measure => simp [intOf]; omega
    · obtain rfl : k = N := by omega
      have hLt : L.take k = L := by rw [← HN.out, List.take_length]
      have hq' : q = s.size := by have := HEND.out; rw [HN.out] at this; omega
      subst hq'
      have hS2 : S = ⟨(catT L).toArray⟩ := by rw [HS.out, hLt]
      rw [← hS2] at C2
      clear hS2 hLt
      go_wp2_with fail
      refine (C2 _).mono ?_
      rintro e2 w2 ⟨A2, c2, rfl, hown2, hb2⟩
      have HA2 := Lib.hid (WordsAt.of_row hown2 rfl (by simp only; rw [HML.out, HN.out]; omega))
      have HB2 := Lib.hid (below_then HB.out hb2)
      have HX2 := Lib.hid (below_then HX.out hb2)
      clear hown2 hb2 HB HX C2 hq
      simp only
      rw [HML.out, HN.out]
      go_wp2_with fail
      go_loopw [16] (fun i wr => ∃ j : Nat, j ≤ k ∧ i = .int .i64 j ∧ Below w.heap.size w wr ∧ Below w1.heap.size w1 wr ∧ Below w2.heap.size w2 wr) (fun i _ => k - (intOf i).toNat)
      case atStart => exact ⟨0, by omega, rfl, HB2.out, HX2.out, Below.refl _ _⟩
      case round =>
        obtain ⟨j, hj, rfl, hB, hX, hY⟩ := hrel
        have HB := Lib.hid hB; clear hB
        have HX := Lib.hid hX; clear hX
        have HY := Lib.hid hY; clear hY
        by_cases hlt2 : j < k
        · obtain ⟨b, rfl, hb, hn⟩ := (HA.out.below HX.out).word (k := j) (by rw [HN.out]; exact hlt2)
          obtain ⟨b', rfl, hb', hn'⟩ := (HA2.out.below HY.out).word (k := j) (by rw [HML.out, HN.out]; exact hlt2)
          obtain ⟨s1, s2, s3, s4⟩ := HMS.out j (by rw [HN.out]; exact hlt2)
          generalize L.getD j wd0 = x at *
          generalize M.getD j wd0 = v at *
          unfold Word9 at hn hn'
          rw [s1, wd_same s2 0 (by omega), wd_same s2 1 (by omega), wd_same s2 2 (by omega), wd_same s2 3 (by omega), s3, s4] at hn'
          obtain ⟨n0, n1, n2, n3, n4, n5, n6, n7, n8⟩ := hn
          obtain ⟨m0, m1, m2, m3, m4, m5, m6, m7, m8⟩ := hn'
          clear s1 s2 s3 s4 n1 n2 m1 m2
          go_wp2_with fail
          go_quiet (fail)
          go_wp2
          go_roundw
          case rel => exact ⟨j + 1, by omega, by go_num, below_drewN HB.out _, below_drewN HX.out _, below_drewN HY.out _⟩
          case measure => simp [intOf]; omega
        · go_wp2_with fail
          refine (sure5_any _).mono ?_
          rintro e9 w9 ⟨rfl, hb9⟩
          have HB9 := below_then HB.out hb9
          clear hb9
          go_wp2
          go_ret
          exact ⟨rfl, HB9⟩
end Go.Proofs.Ytddokdjlmdoebaa
