/- Walks of the package gimletref04: counts as the document says. -/
import Derived.Test.YtddokdjlmdoebaaProg
import Derived.WalkKit
import Derived.WalkSpells
import Derived.WalkLawsBesides
import Derived.Handy
import Derived.Lib.Hide
import Derived.Test.YtddokdjlmdoebaaMBra
import Derived.ChangeKeysEq
set_option linter.unusedVariables false
set_option linter.unusedSimpArgs false
namespace Go.Proofs.Ytddokdjlmdoebaa
open Go.RowKit BraceP

/-- An answer of the document's Read. -/
abbrev resR (r : R) : Value := .tuple #[.int .i64 r.1, .int .i64 r.2.1, .int .i64 r.2.2.1, .int .i64 r.2.2.2.1, .int .i64 r.2.2.2.2]

set_option maxRecDepth 100000 in
set_option maxHeartbeats 2000000 in
theorem rdigit_any (b : UInt8) (w : World) : Calls Try.prog 141 #[.int .u8 (b.toNat : Int)] w fun e w' => e = .returned (.bool (isDig b)) ∧ w = w' := by
  have hd : isDig b = (decide (48 ≤ (b.toNat : Int)) && decide ((b.toNat : Int) ≤ 57)) := by
    unfold isDig; rw [Bool.eq_iff_iff]; simp; omega
  have HD := Lib.hid hd; clear hd
  rw [HD.out]
  by_cases h1 : 48 ≤ (b.toNat : Int)
  · by_cases h2 : (b.toNat : Int) ≤ 57
    · have e1 : decide (48 ≤ (b.toNat : Int)) = true := by simpa using h1
      have e2 : decide ((b.toNat : Int) ≤ 57) = true := by simpa using h2
      go_enter Try.func141, Try.ntmps141
      go_wp2
      go_ret
      exact ⟨by simp [*], rfl⟩
    · have e1 : decide (48 ≤ (b.toNat : Int)) = true := by simpa using h1
      have e2 : decide ((b.toNat : Int) ≤ 57) = false := by simpa using h2
      go_enter Try.func141, Try.ntmps141
      go_wp2
      go_ret
      exact ⟨by simp [*], rfl⟩
  · have e1 : decide (48 ≤ (b.toNat : Int)) = false := by simpa using h1
    go_enter Try.func141, Try.ntmps141
    go_wp2
    go_ret
    exact ⟨by simp [*], rfl⟩

theorem full_cases {v d : Int} (hn : Num v d) : (full v d = true ∧ (d = 2 ∨ (d = 1 ∧ v = 0))) ∨ (full v d = false ∧ ((d = 0 ∧ v = 0) ∨ (d = 1 ∧ 0 < v))) := by
  unfold Num at hn; unfold full
  rcases hn with ⟨rfl, rfl⟩ | ⟨rfl, h1, h2⟩ | ⟨rfl, h1, h2⟩
  · right; decide
  · by_cases h : v = 0
    · left; simp [h]
    · right; simp [h]; omega
  · left; simp

set_option maxRecDepth 100000 in
set_option maxHeartbeats 2000000 in
theorem braces_any (s : ByteArray) (i : Int) (h0 : 0 ≤ i) (h1 : i < s.size) (hs : s.size ≤ 4611686018427387904) (w : World) :
    Calls Try.prog 115 #[.string s, .int .i64 i] w fun e w' => e = .returned (resR (rd1 (s.data.toList.drop (i.toNat + 1)) (i + 1) 0 0)) ∧ w' = w := by
  obtain ⟨i, rfl⟩ := Int.eq_ofNat_of_zero_le h0
  rw [Int.toNat_natCast]
  obtain ⟨T, hT⟩ : ∃ T, rd1 (s.data.toList.drop (i + 1)) ((i : Int) + 1) 0 0 = T := ⟨_, rfl⟩
  rw [hT]
  have HT := Lib.hid hT; clear hT
  go_enter Try.func115, Try.ntmps115
  go_wp2
  go_loopw [9, 10, 11, 12, 13] (fun n m h2 sec p wr => ∃ (k : Nat) (v d least : Int) (q : Bool), k ≤ s.size ∧ p = .int .i64 k ∧ Num v d ∧ h2 = .int .i64 d ∧ sec = .bool q ∧ wr = w ∧
    ((q = false ∧ n = .int .i64 v ∧ m = .int .i64 0 ∧ rd1 (s.data.toList.drop k) k v d = T) ∨ (q = true ∧ n = .int .i64 least ∧ m = .int .i64 v ∧ 0 ≤ least ∧ least ≤ 99 ∧ rd2 least (s.data.toList.drop k) k v d = T))) (fun _ _ _ _ p _ => s.size - (intOf p).toNat)
  case atStart => exact ⟨i + 1, 0, 0, 0, false, by omega, by go_num, .inl ⟨rfl, rfl⟩, rfl, rfl, rfl, .inl ⟨rfl, rfl, rfl, HT.out⟩⟩
  case round =>
    obtain ⟨k, v, d, least, q, hk, rfl, hn, rfl, rfl, rfl, hor⟩ := hrel
    obtain ⟨n1, n2, n3, n4⟩ := hn.bd
    have HN := Lib.hid hn; clear hn
    by_cases hlt : k < s.size
    · have hb48 : isDig s[k] = true → 48 ≤ (s[k].toNat : Int) ∧ (s[k].toNat : Int) ≤ 57 := fun h => by unfold isDig at h; simp at h; omega
      have k125 := Lib.hid (byte_eq s[k] 125 (by omega))
      have k44 := Lib.hid (byte_eq s[k] 44 (by omega))
      rcases hor with ⟨rfl, rfl, rfl, hr⟩ | ⟨rfl, rfl, rfl, l0, l1, hr⟩
      · rw [drop_cons_at s k hlt] at hr
        have HR := Lib.hid hr; clear hr
        go_wp2_with fail
        refine (rdigit_any s[k] _).mono ?_
        rintro e1 w1 ⟨rfl, rfl⟩
        generalize s[k] = b at *
        cases hb : isDig b with
        | true =>
          obtain ⟨b1, b2⟩ := hb48 hb
          have HD := Lib.hid hb; clear hb hb48
          rcases full_cases HN.out with ⟨hf, hc⟩ | ⟨hf, hc⟩
          · have HF := Lib.hid hf; clear hf
            rcases hc with rfl | ⟨rfl, rfl⟩
            · go_wp2
              refine bodyPost_ret (v := resR (0, 0, 0, 6, (k : Int) + 1)) (by simp [results, Try.results115, go_sem, *]) rfl ⟨ret_v (congrArg resR ?_), rfl⟩
              rw [← HR.out, rd1, if_pos HD.out, if_pos HF.out]
            · go_wp2
              refine bodyPost_ret (v := resR (0, 0, 0, 6, (k : Int) + 1)) (by simp [results, Try.results115, go_sem, *]) rfl ⟨ret_v (congrArg resR ?_), rfl⟩
              rw [← HR.out, rd1, if_pos HD.out, if_pos HF.out]
          · have HF := Lib.hid hf; clear hf
            have hn' := HN.out.next HF.out HD.out
            have hr' : rd1 (s.data.toList.drop (k + 1)) ((k + 1 : Nat) : Int) (10 * v + dig b) (d + 1) = T := by
              rw [← HR.out, rd1, if_pos HD.out, HF.out]; rfl
            have HX := Lib.hid (And.intro hn' hr'); clear hn' hr'
            rcases hc with ⟨rfl, rfl⟩ | ⟨rfl, hv⟩
            · by_cases hx : 48 < (b.toNat : Int)
              · have ex : decide (0 < (b.toNat : Int) - 48) = true := by simpa using (by omega : 0 < (b.toNat : Int) - 48)
                go_wp2
                refine ⟨⟨k + 1, _, _, 0, false, by omega, by go_num, HX.out.1, by go_num, rfl, trivial, .inl ⟨rfl, congrArg (Value.int _) (by unfold dig; omega), rfl, HX.out.2⟩⟩, ?_⟩
                simp [intOf]; omega
              · have ex : decide (0 < (b.toNat : Int) - 48) = false := by simpa using (by omega : ¬ 0 < (b.toNat : Int) - 48)
                go_wp2
                refine ⟨⟨k + 1, _, _, 0, false, by omega, by go_num, HX.out.1, by go_num, rfl, trivial, .inl ⟨rfl, congrArg (Value.int _) (by unfold dig; omega), rfl, HX.out.2⟩⟩, ?_⟩
                simp [intOf]; omega
            · have ex : (v == 0) = false := by simpa using (by omega : v ≠ 0)
              go_wp2
              refine ⟨⟨k + 1, _, _, 0, false, by omega, by go_num, HX.out.1, by go_num, rfl, trivial, .inl ⟨rfl, congrArg (Value.int _) (by unfold dig; omega), rfl, HX.out.2⟩⟩, ?_⟩
              simp [intOf]; omega
        | false =>
          have HD := Lib.hid hb; clear hb hb48
          by_cases h44 : (b.toNat : Int) = 44
          · have t44 : ((b.toNat : Int) == 44) = true := by simpa using h44
            have t125 : ((b.toNat : Int) == 125) = false := by simpa using (by omega : ¬ (b.toNat : Int) = 125)
            have T4 := Lib.hid t44
            have T5 := Lib.hid t125
            clear h44
            by_cases hd : 0 < d
            · have td : decide (0 < d) = true := by simpa using hd
              have TD := Lib.hid td
              clear hd
              have hr' : rd2 v (s.data.toList.drop (k + 1)) ((k + 1 : Nat) : Int) 0 0 = T := by
                rw [← HR.out, rd1, HD.out, TD.out]; erw [k125.out, T5.out, k44.out, T4.out]; rfl
              have HX := Lib.hid hr'; clear hr'
              go_wp2
              refine ⟨⟨k + 1, 0, 0, v, true, by omega, by go_num, .inl ⟨rfl, rfl⟩, rfl, rfl, trivial, .inr ⟨rfl, rfl, rfl, n1, n2, HX.out⟩⟩, ?_⟩
              simp [intOf]; omega
            · have td : decide (0 < d) = false := by simpa using hd
              have TD := Lib.hid td
              clear hd
              go_wp2
              refine bodyPost_ret (v := resR (0, 0, 0, 3, (k : Int) + 1)) (by simp [results, Try.results115, go_sem, *]) rfl ⟨ret_v (congrArg resR ?_), rfl⟩
              rw [← HR.out, rd1, HD.out, TD.out]; rfl
          · have t44 : ((b.toNat : Int) == 44) = false := by simpa using h44
            have T4 := Lib.hid t44
            clear h44
            by_cases h125 : (b.toNat : Int) = 125
            · have t125 : ((b.toNat : Int) == 125) = true := by simpa using h125
              have T5 := Lib.hid t125
              clear h125
              by_cases hd : 0 < d
              · have td : decide (0 < d) = true := by simpa using hd
                have TD := Lib.hid td
                clear hd
                go_wp2
                refine bodyPost_ret (v := resR (v, v, (k : Int) + 1, 0, 0)) (by simp [results, Try.results115, go_sem, *]) rfl ⟨ret_v (congrArg resR ?_), rfl⟩
                rw [← HR.out, rd1, HD.out, TD.out]; erw [k125.out, T5.out]; rfl
              · have td : decide (0 < d) = false := by simpa using hd
                have TD := Lib.hid td
                clear hd
                go_wp2
                refine bodyPost_ret (v := resR (0, 0, 0, 3, (k : Int) + 1)) (by simp [results, Try.results115, go_sem, *]) rfl ⟨ret_v (congrArg resR ?_), rfl⟩
                rw [← HR.out, rd1, HD.out, TD.out]; rfl
            · have t125 : ((b.toNat : Int) == 125) = false := by simpa using h125
              have T5 := Lib.hid t125
              clear h125
              go_wp2
              refine bodyPost_ret (v := resR (0, 0, 0, 3, (k : Int) + 1)) (by simp [results, Try.results115, go_sem, *]) rfl ⟨ret_v (congrArg resR ?_), rfl⟩
              rw [← HR.out, rd1, HD.out]; erw [k125.out, T5.out, k44.out, T4.out]; cases decide (0 < d) <;> rfl
      · rw [drop_cons_at s k hlt] at hr
        have HR := Lib.hid hr; clear hr
        go_wp2_with fail
        refine (rdigit_any s[k] _).mono ?_
        rintro e1 w1 ⟨rfl, rfl⟩
        generalize s[k] = b at *
        cases hb : isDig b with
        | true =>
          obtain ⟨b1, b2⟩ := hb48 hb
          have HD := Lib.hid hb; clear hb hb48
          rcases full_cases HN.out with ⟨hf, hc⟩ | ⟨hf, hc⟩
          · have HF := Lib.hid hf; clear hf
            rcases hc with rfl | ⟨rfl, rfl⟩
            · go_wp2
              refine bodyPost_ret (v := resR (0, 0, 0, 6, (k : Int) + 1)) (by simp [results, Try.results115, go_sem, *]) rfl ⟨ret_v (congrArg resR ?_), rfl⟩
              rw [← HR.out, rd2, if_pos HD.out, HF.out]; rfl
            · go_wp2
              refine bodyPost_ret (v := resR (0, 0, 0, 6, (k : Int) + 1)) (by simp [results, Try.results115, go_sem, *]) rfl ⟨ret_v (congrArg resR ?_), rfl⟩
              rw [← HR.out, rd2, if_pos HD.out, HF.out]; rfl
          · have HF := Lib.hid hf; clear hf
            have hn' := HN.out.next HF.out HD.out
            have hr' : ∀ M : Int, most (10 * v + dig b) (d + 1) = M → (decide (M < least) = true → T = (0, 0, 0, 6, (k : Int) + 1)) ∧ (decide (M < least) = false → rd2 least (s.data.toList.drop (k + 1)) ((k + 1 : Nat) : Int) (10 * v + dig b) (d + 1) = T) := by
              rintro M rfl
              rw [← HR.out, rd2, if_pos HD.out, HF.out]
              exact ⟨fun h => by rw [h]; rfl, fun h => by rw [h]; rfl⟩
            have HX := Lib.hid (And.intro hn' hr'); clear hn' hr'
            rcases hc with ⟨rfl, rfl⟩ | ⟨rfl, hv⟩
            · by_cases hx : 48 < (b.toNat : Int)
              · have ex : decide (0 < (b.toNat : Int) - 48) = true := by simpa using (by omega : 0 < (b.toNat : Int) - 48)
                have hm : most (10 * 0 + dig b) (0 + 1) = 10 * ((b.toNat : Int) - 48) + 9 := by
                  unfold most full dig; rw [if_neg (by simp; omega)]; omega
                have H2 := Lib.hid (HX.out.2 _ hm); clear hm
                cases hm : decide (10 * ((b.toNat : Int) - 48) + 9 < least) with
                | true =>
                  have HM := Lib.hid (H2.out.1 hm)
                  go_wp2
                  refine bodyPost_ret (v := resR (0, 0, 0, 6, (k : Int) + 1)) (by simp [results, Try.results115, go_sem, *]) rfl ⟨ret_v (congrArg resR ?_), rfl⟩
                  exact HM.out.symm
                | false =>
                  have HM := Lib.hid (H2.out.2 hm)
                  go_wp2
                  refine ⟨⟨k + 1, _, _, least, true, by omega, by go_num, HX.out.1, by go_num, rfl, trivial, .inr ⟨rfl, rfl, congrArg (Value.int _) (by unfold dig; omega), l0, l1, HM.out⟩⟩, ?_⟩
                  simp [intOf]; omega
              · have ex : decide (0 < (b.toNat : Int) - 48) = false := by simpa using (by omega : ¬ 0 < (b.toNat : Int) - 48)
                have hm : most (10 * 0 + dig b) (0 + 1) = (b.toNat : Int) - 48 := by
                  unfold most full dig; rw [if_pos (by simp; omega)]; omega
                have H2 := Lib.hid (HX.out.2 _ hm); clear hm
                cases hm : decide ((b.toNat : Int) - 48 < least) with
                | true =>
                  have HM := Lib.hid (H2.out.1 hm)
                  go_wp2
                  refine bodyPost_ret (v := resR (0, 0, 0, 6, (k : Int) + 1)) (by simp [results, Try.results115, go_sem, *]) rfl ⟨ret_v (congrArg resR ?_), rfl⟩
                  exact HM.out.symm
                | false =>
                  have HM := Lib.hid (H2.out.2 hm)
                  go_wp2
                  refine ⟨⟨k + 1, _, _, least, true, by omega, by go_num, HX.out.1, by go_num, rfl, trivial, .inr ⟨rfl, rfl, congrArg (Value.int _) (by unfold dig; omega), l0, l1, HM.out⟩⟩, ?_⟩
                  simp [intOf]; omega
            · have ex : (v == 0) = false := by simpa using (by omega : v ≠ 0)
              have hm : most (10 * v + dig b) (1 + 1) = 10 * v + ((b.toNat : Int) - 48) := by
                unfold most full dig; rw [if_pos (by simp)]
              have H2 := Lib.hid (HX.out.2 _ hm); clear hm
              cases hm : decide (10 * v + ((b.toNat : Int) - 48) < least) with
              | true =>
                have HM := Lib.hid (H2.out.1 hm)
                go_wp2
                refine bodyPost_ret (v := resR (0, 0, 0, 6, (k : Int) + 1)) (by simp [results, Try.results115, go_sem, *]) rfl ⟨ret_v (congrArg resR ?_), rfl⟩
                exact HM.out.symm
              | false =>
                have HM := Lib.hid (H2.out.2 hm)
                go_wp2
                refine ⟨⟨k + 1, _, _, least, true, by omega, by go_num, HX.out.1, by go_num, rfl, trivial, .inr ⟨rfl, rfl, congrArg (Value.int _) (by unfold dig; omega), l0, l1, HM.out⟩⟩, ?_⟩
                simp [intOf]; omega
        | false =>
          have HD := Lib.hid hb; clear hb hb48
          have k44' := k44.out
          by_cases h125 : (b.toNat : Int) = 125
          · have t125 : ((b.toNat : Int) == 125) = true := by simpa using h125
            have t44 : ((b.toNat : Int) == 44) = false := by simpa using (by omega : ¬ (b.toNat : Int) = 44)
            have T5 := Lib.hid t125
            clear h125 k44'
            by_cases hd : d = 0
            · have td : (d == 0) = true := by simpa using hd
              have TD := Lib.hid td
              clear hd
              go_wp2
              refine bodyPost_ret (v := resR (least, -1, (k : Int) + 1, 0, 0)) (by simp [results, Try.results115, go_sem, *]) rfl ⟨ret_v (congrArg resR ?_), rfl⟩
              rw [← HR.out, rd2, HD.out, TD.out]; erw [k125.out, T5.out]; rfl
            · have td : (d == 0) = false := by simpa using hd
              have TD := Lib.hid td
              clear hd
              by_cases hv : v < least
              · have tv : decide (v < least) = true := by simpa using hv
                have tv' : decide (least ≤ v) = false := by simpa using hv
                have TV := Lib.hid tv
                clear hv tv
                go_wp2
                refine bodyPost_ret (v := resR (0, 0, 0, 6, (k : Int) + 1)) (by simp [results, Try.results115, go_sem, *]) rfl ⟨ret_v (congrArg resR ?_), rfl⟩
                rw [← HR.out, rd2, HD.out, TD.out, TV.out]; erw [k125.out, T5.out]; rfl
              · have tv : decide (v < least) = false := by simpa using hv
                have tv' : decide (least ≤ v) = true := by simpa using hv
                have TV := Lib.hid tv
                clear hv tv
                go_wp2
                refine bodyPost_ret (v := resR (least, v, (k : Int) + 1, 0, 0)) (by simp [results, Try.results115, go_sem, *]) rfl ⟨ret_v (congrArg resR ?_), rfl⟩
                rw [← HR.out, rd2, HD.out, TD.out, TV.out]; erw [k125.out, T5.out]; rfl
          · have t125 : ((b.toNat : Int) == 125) = false := by simpa using h125
            have T5 := Lib.hid t125
            clear h125 k44'
            cases t44 : ((b.toNat : Int) == 44) with
            | true =>
              go_wp2
              refine bodyPost_ret (v := resR (0, 0, 0, 3, (k : Int) + 1)) (by simp [results, Try.results115, go_sem, *]) rfl ⟨ret_v (congrArg resR ?_), rfl⟩
              rw [← HR.out, rd2, HD.out]; erw [k125.out, T5.out]; rfl
            | false =>
              go_wp2
              refine bodyPost_ret (v := resR (0, 0, 0, 3, (k : Int) + 1)) (by simp [results, Try.results115, go_sem, *]) rfl ⟨ret_v (congrArg resR ?_), rfl⟩
              rw [← HR.out, rd2, HD.out]; erw [k125.out, T5.out]; rfl
    · have hr' : T = (0, 0, 0, 2, (s.size : Int)) := by
        have hks : k = s.size := by omega
        rcases hor with ⟨_, _, _, hr⟩ | ⟨_, _, _, _, _, hr⟩
        · rw [← hr, List.drop_eq_nil_of_le (by simpa using (by omega : s.size ≤ k)), hks]; rfl
        · rw [← hr, List.drop_eq_nil_of_le (by simpa using (by omega : s.size ≤ k)), hks]; rfl
      have HR := Lib.hid hr'; clear hr'
      clear hor
      go_wp2
      refine bodyPost_ret (v := resR (0, 0, 0, 2, (s.size : Int))) (by simp [results, Try.results115, go_sem, *]) rfl ⟨ret_v (congrArg resR ?_), rfl⟩
      rw [HR.out]
end Go.Proofs.Ytddokdjlmdoebaa

/- Walks: the document's Read, numbers as text. -/
namespace Go.Proofs.Ytddokdjlmdoebaa
open Go.RowKit BraceP

set_option maxRecDepth 100000 in
set_option maxHeartbeats 2000000 in
theorem rread_any (s : ByteArray) (i : Int) (hs : s.size ≤ 4611686018427387904) (w : World) :
    Calls Try.prog 68 #[.string s, .int .i64 i] w fun e w' => e = .returned (resR (readF s.data.toList i)) ∧ w' = w := by
  obtain ⟨T, hT⟩ : ∃ T, readF s.data.toList i = T := ⟨_, rfl⟩
  rw [hT]
  go_enter Try.func68, Try.ntmps68
  by_cases h0 : i < 0
  · have e0 : decide (i < 0) = true := by simpa using h0
    have E0 := Lib.hid e0
    have hT' : T = (0, 0, 0, 1, 0) := by rw [← hT]; unfold readF; rw [if_pos h0]
    have HT := Lib.hid hT'; clear hT hT' h0
    go_wp2
    refine bodyPost_ret (v := resR (0, 0, 0, 1, 0)) (by simp [results, Try.results68, go_sem, *]) rfl ⟨ret_v (congrArg resR ?_), rfl⟩
    rw [HT.out]
  · have e0 : decide (i < 0) = false := by simpa using h0
    have E0 := Lib.hid e0
    obtain ⟨i, rfl⟩ := Int.eq_ofNat_of_zero_le (by omega : 0 ≤ i)
    clear h0 e0
    by_cases h1 : s.size ≤ i
    · have e1 : decide (s.size ≤ i) = true := by simpa using h1
      have hT' : T = (0, 0, 0, 1, 0) := by
        rw [← hT]; unfold readF
        rw [if_neg (by omega), List.drop_eq_nil_of_le (by simpa using h1)]
      have HT := Lib.hid hT'; clear hT hT' h1
      go_wp2
      refine bodyPost_ret (v := resR (0, 0, 0, 1, 0)) (by simp [results, Try.results68, go_sem, *]) rfl ⟨ret_v (congrArg resR ?_), rfl⟩
      rw [HT.out]
    · have e1 : decide (s.size ≤ i) = false := by simpa using h1
      have h1' : i < s.size := by omega
      have hT' : T = rd0 s[i] (s.data.toList.drop (i + 1)) (i + 1) := by
        rw [← hT]; unfold readF
        rw [if_neg (by omega), Int.toNat_natCast, drop_cons_at s i h1']
      have HT := Lib.hid hT'; clear hT hT'
      have k42 := Lib.hid (byte_eq s[i] 42 (by omega))
      have k43 := Lib.hid (byte_eq s[i] 43 (by omega))
      have k63 := Lib.hid (byte_eq s[i] 63 (by omega))
      have k123 := Lib.hid (byte_eq s[i] 123 (by omega))
      cases e42 : ((s[i].toNat : Int) == 42) with
      | true =>
        have E42 := Lib.hid e42
        go_wp2
        refine bodyPost_ret (v := resR (0, -1, (i : Int) + 1, 0, 0)) (by simp [results, Try.results68, go_sem, *]) rfl ⟨ret_v (congrArg resR ?_), rfl⟩
        rw [HT.out, rd0]; erw [k42.out, E42.out]; rfl
      | false =>
      have E42 := Lib.hid e42
      cases e43 : ((s[i].toNat : Int) == 43) with
      | true =>
        have E43 := Lib.hid e43
        go_wp2
        refine bodyPost_ret (v := resR (1, -1, (i : Int) + 1, 0, 0)) (by simp [results, Try.results68, go_sem, *]) rfl ⟨ret_v (congrArg resR ?_), rfl⟩
        rw [HT.out, rd0]; erw [k42.out, E42.out, k43.out, E43.out]; rfl
      | false =>
      have E43 := Lib.hid e43
      cases e63 : ((s[i].toNat : Int) == 63) with
      | true =>
        have E63 := Lib.hid e63
        go_wp2
        refine bodyPost_ret (v := resR (0, 1, (i : Int) + 1, 0, 0)) (by simp [results, Try.results68, go_sem, *]) rfl ⟨ret_v (congrArg resR ?_), rfl⟩
        rw [HT.out, rd0]; erw [k42.out, E42.out, k43.out, E43.out, k63.out, E63.out]; rfl
      | false =>
      have E63 := Lib.hid e63
      cases e123 : ((s[i].toNat : Int) == 123) with
      | true =>
        have E123 := Lib.hid e123
        have hT' : rd1 (s.data.toList.drop (i + 1)) ((i : Int) + 1) 0 0 = T := by
          rw [HT.out, rd0]; erw [k42.out, E42.out, k43.out, E43.out, k63.out, E63.out, k123.out, E123.out]; rfl
        have HS := Lib.hid hT'; clear hT'
        go_wp2_with fail
        refine (braces_any s (i : Int) (by omega) (by omega) hs _).mono ?_
        rintro e3 w3 ⟨he, rfl⟩
        rw [Int.toNat_natCast, HS.out] at he
        subst he
        go_wp2
        refine bodyPost_ret (v := resR T) (by simp [results, Try.results68, go_sem]) rfl ⟨rfl, rfl⟩
      | false =>
      have E123 := Lib.hid e123
      go_wp2
      refine bodyPost_ret (v := resR (0, 0, 0, 1, 0)) (by simp [results, Try.results68, go_sem, *]) rfl ⟨ret_v (congrArg resR ?_), rfl⟩
      rw [HT.out, rd0]; erw [k42.out, E42.out, k43.out, E43.out, k63.out, E63.out, k123.out, E123.out]; rfl

/-- A number of at most two digits as text. -/
def digF (n : Int) : List UInt8 := if n < 10 then [UInt8.ofNat (48 + n.toNat)] else [UInt8.ofNat (48 + n.toNat / 10), UInt8.ofNat (48 + n.toNat % 10)]
abbrev strV (l : List UInt8) : Value := .string ⟨l.toArray⟩
set_option maxRecDepth 100000 in
theorem conv_text (w : World) (a : Addr) (k cap : Nat) (l : List UInt8) (hk : l.length = k) (hc : ∀ j (hj : j < l.length), w.cell? (a.add j) = some (.int .u8 (l[j].toNat : Int))) :
    (convert 70 9 (.slice (some a) k cap)).run Try.prog w = .ok (.string ⟨l.toArray⟩) w := by
  subst hk
  exact run_convert_bytes_back w 70 9 5 a cap l Try.underlying70 Try.underlying5 Try.underlying9 hc
theorem of_nat_cell {x : Nat} {c : UInt8} (hc : UInt8.ofNat x = c) (hx : x < 256) (y : Int) (hy : y = x) : (some (Value.int .u8 y) : Option Value) = some (.int .u8 c.toNat) := by
  rw [hy, ← hc, UInt8.toNat_ofNat_of_lt' (by simpa using hx)]
set_option maxRecDepth 100000 in
set_option maxHeartbeats 2000000 in
theorem rdigits_any (n : Int) (h0 : 0 ≤ n) (h1 : n ≤ 99) (w : World) :
    Calls Try.prog 131 #[.int .i64 n] w fun e w' => e = .returned (strV (digF n)) ∧ Below w.heap.size w w' := by
  go_enter Try.func131, Try.ntmps131
  by_cases hn : n < 10
  · have e1 : decide (10 ≤ n) = false := by simpa using hn
    have hd : digF n = [UInt8.ofNat (48 + n.toNat)] := if_pos hn
    obtain ⟨c, hc⟩ : ∃ c, UInt8.ofNat (48 + n.toNat) = c := ⟨_, rfl⟩
    rw [hc] at hd
    have HD := Lib.hid hd; clear hd hn
    have HC := Lib.hid hc; clear hc
    go_wp2
    rw [conv_text _ ⟨_, 0, none⟩ 1 _ ([c]) rfl ?_]
    · go_wp2
      go_ret
      exact ⟨by rw [HD.out]; rfl, by (repeat' (first | (with_reducible exact Below.refl _ _) | (with_reducible assumption) | (with_reducible refine Below.alloc ?_ ?_ _) | (with_reducible refine Below.drew ?_) | (with_reducible refine below_set ?_ ?_ _) | (with_reducible refine below_call ?_ ?_ (by assumption)) | (with_reducible exact Below.size (by assumption)) | omega | go_size))⟩
    · intro j hj
      obtain rfl : j = 0 := by simpa using hj
      refine (World.cell?_alloc_new _ _ _ _).trans ?_
      exact of_nat_cell HC.out (by omega) _ (by omega)
  · have e1 : decide (10 ≤ n) = true := by simpa using hn
    have hd : digF n = [UInt8.ofNat (48 + n.toNat / 10), UInt8.ofNat (48 + n.toNat % 10)] := if_neg hn
    obtain ⟨c, hc⟩ : ∃ c, UInt8.ofNat (48 + n.toNat / 10) = c := ⟨_, rfl⟩
    obtain ⟨d, he⟩ : ∃ d, UInt8.ofNat (48 + n.toNat % 10) = d := ⟨_, rfl⟩
    rw [hc, he] at hd
    have HD := Lib.hid hd; clear hd hn
    have HC := Lib.hid hc; clear hc
    have HE := Lib.hid he; clear he
    go_wp2
    rw [conv_text _ ⟨_, 0, none⟩ 2 _ ([c, d]) rfl ?_]
    · go_wp2
      go_ret
      exact ⟨by rw [HD.out]; rfl, by (repeat' (first | (with_reducible exact Below.refl _ _) | (with_reducible assumption) | (with_reducible refine Below.alloc ?_ ?_ _) | (with_reducible refine Below.drew ?_) | (with_reducible refine below_set ?_ ?_ _) | (with_reducible refine below_call ?_ ?_ (by assumption)) | (with_reducible exact Below.size (by assumption)) | omega | go_size))⟩
    · intro j hj
      have : j = 0 ∨ j = 1 := by simp at hj; omega
      rcases this with rfl | rfl
      · refine (World.cell?_alloc_new _ _ _ _).trans ?_
        exact of_nat_cell HC.out (by omega) _ (by omega)
      · refine (World.cell?_alloc_new _ _ _ _).trans ?_
        exact of_nat_cell HE.out (by omega) _ (by omega)
set_option maxRecDepth 100000 in
set_option maxHeartbeats 2000000 in
theorem digits1_any (n : Int) (h0 : 0 ≤ n) (h1 : n < 10) (w : World) :
    Calls Try.prog 130 #[.int .i64 n] w fun e w' => e = .returned (strV [UInt8.ofNat (48 + n.toNat)]) ∧ Below w.heap.size w w' := by
  obtain ⟨c, hc⟩ : ∃ c, UInt8.ofNat (48 + n.toNat) = c := ⟨_, rfl⟩
  rw [hc]
  have HC := Lib.hid hc; clear hc
  go_enter Try.func130, Try.ntmps130
  have e1 : decide (n < 10) = true := by simpa using h1
  go_wp2
  rw [conv_text _ ⟨_, 0, none⟩ 1 _ ([c]) rfl ?_]
  · go_wp2
    go_ret
    exact ⟨rfl, by (repeat' (first | (with_reducible exact Below.refl _ _) | (with_reducible assumption) | (with_reducible refine Below.alloc ?_ ?_ _) | (with_reducible refine Below.drew ?_) | (with_reducible refine below_set ?_ ?_ _) | (with_reducible refine below_call ?_ ?_ (by assumption)) | (with_reducible exact Below.size (by assumption)) | omega | go_size))⟩
  · intro j hj
    obtain rfl : j = 0 := by simpa using hj
    refine (World.cell?_alloc_new _ _ _ _).trans ?_
    exact of_nat_cell HC.out (by omega) _ (by omega)
set_option maxRecDepth 100000 in
set_option maxHeartbeats 2000000 in
theorem digits_any (n : Int) (h0 : 0 ≤ n) (h1 : n ≤ 99) (w : World) :
    Calls Try.prog 130 #[.int .i64 n] w fun e w' => e = .returned (strV (digF n)) ∧ Below w.heap.size w w' := by
  by_cases hn : n < 10
  · rw [show digF n = [UInt8.ofNat (48 + n.toNat)] from if_pos hn]
    exact digits1_any n h0 hn w
  · have e1 : decide (n < 10) = false := by simpa using hn
    have hd : digF n = [UInt8.ofNat (48 + (n / 10).toNat), UInt8.ofNat (48 + (n % 10).toNat)] := by
      rw [digF, if_neg hn, show n.toNat / 10 = (n / 10).toNat by omega, show n.toNat % 10 = (n % 10).toNat by omega]
    obtain ⟨c, hc⟩ : ∃ c, UInt8.ofNat (48 + (n / 10).toNat) = c := ⟨_, rfl⟩
    obtain ⟨d, he⟩ : ∃ d, UInt8.ofNat (48 + (n % 10).toNat) = d := ⟨_, rfl⟩
    have H1 := digits1_any (n / 10) (by omega) (by omega)
    have H2 := digits1_any (n % 10) (by omega) (by omega)
    rw [hc] at hd H1
    rw [he] at hd H2
    have HD := Lib.hid hd; clear hd hn hc he
    go_enter Try.func130, Try.ntmps130
    go_wp2_with fail
    refine (H1 _).mono ?_
    rintro e1 w1 ⟨rfl, hb1⟩
    go_wp2_with fail
    refine (H2 _).mono ?_
    rintro e2 w2 ⟨rfl, hb2⟩
    go_wp2
    go_ret
    exact ⟨by rw [HD.out]; simp [ByteArray.mk_append_mk], below_then hb1 hb2⟩

def rightB (n m : Int) : Bool := decide (0 ≤ n) && (decide (n ≤ 99) && (m == -1 || (decide (n ≤ m) && decide (m ≤ 99))))
def textF (n m : Int) : List UInt8 :=
  if rightB n m then
    if n == 0 && m == -1 then [42] else if n == 1 && m == -1 then [43] else if n == 0 && m == 1 then [63]
    else if n == m then 123 :: (digF n ++ [125]) else if m == -1 then 123 :: (digF n ++ [44, 125]) else 123 :: (digF n ++ (44 :: (digF m ++ [125])))
  else []
set_option maxRecDepth 100000 in
set_option maxHeartbeats 2000000 in
theorem rright_any (n m : Int) (w : World) : Calls Try.prog 99 #[.int .i64 n, .int .i64 m] w fun e w' => e = .returned (.bool (rightB n m)) ∧ w = w' := by
  have hd : rightB n m = (decide (0 ≤ n) && (decide (n ≤ 99) && (m == -1 || (decide (n ≤ m) && decide (m ≤ 99))))) := rfl
  have HD := Lib.hid hd; clear hd
  go_enter Try.func99, Try.ntmps99
  cases e0 : decide (0 ≤ n) with
  | false => go_wp2; go_ret; exact ⟨by rw [HD.out]; simp [*], rfl⟩
  | true =>
  cases e1 : decide (n ≤ 99) with
  | false => go_wp2; go_ret; exact ⟨by rw [HD.out]; simp [*], rfl⟩
  | true =>
  cases e2 : (m == -1) with
  | true => go_wp2; go_ret; exact ⟨by rw [HD.out]; simp [*], rfl⟩
  | false =>
  cases e3 : decide (n ≤ m) with
  | false => go_wp2; go_ret; exact ⟨by rw [HD.out]; simp [*], rfl⟩
  | true =>
  go_wp2; go_ret; exact ⟨by rw [HD.out]; simp [*], rfl⟩
end Go.Proofs.Ytddokdjlmdoebaa

/- Walks: the text of counts, the document's and the program's; what must come whatever the input is. -/
namespace Go.Proofs.Ytddokdjlmdoebaa
open Go.RowKit BraceP

set_option maxRecDepth 100000 in
theorem run_eq_span (w : World) (a b a' b' : Int) :
    (Op.equalIn 10000 184 (.agg #[.int .i64 a, .int .i64 b]) (.agg #[.int .i64 a', .int .i64 b'])).run Try.prog w = .ok (a == a' && b == b') w := by
  have hp : Try.prog.stoodInHeld 184 = false := by kernel_rfl
  rw [show (10000 : Nat) = 9999 + 1 from rfl, run_equalIn_struct w 9999 184 _ _ (by rw [Program.fieldsOf, Try.underlying184]) hp]
  rw [Program.fieldsOf, Try.underlying184]
  have hq : ∀ x y, (Op.equalIn 9999 3 (.int .i64 x) (.int .i64 y)).run Try.prog w = .ok (x == y) w := fun x y => run_equalIn_int w 9998 _ _ .i64 x y Try.underlying3
  simp [Op.eqFields, part, isAgg, run_underlying Try.underlying3, hq]
  by_cases e1 : a = a' <;> by_cases e2 : b = b' <;> simp [e1, e2]
theorem mk_toArray (l : List UInt8) : (ByteArray.mk l.toArray).size = l.length := by simp [ByteArray.size]
theorem digF_len (n : Int) : 0 < (digF n).length ∧ (digF n).length ≤ 2 := by unfold digF; split <;> simp

theorem right_iff (n m : Int) : rightB n m = true ↔ 0 ≤ n ∧ n ≤ 99 ∧ (m = -1 ∨ (n ≤ m ∧ m ≤ 99)) := by
  unfold rightB; simp
theorem text_cases {n m : Int} {T : List UInt8} (hT : textF n m = T) :
    (rightB n m = false ∧ T = []) ∨ (rightB n m = true ∧ 0 ≤ n ∧ n ≤ 99 ∧ ((n = 0 ∧ m = -1 ∧ T = [42]) ∨ (n = 1 ∧ m = -1 ∧ T = [43]) ∨ (n = 0 ∧ m = 1 ∧ T = [63]) ∨
      (m = n ∧ T = 123 :: (digF n ++ [125])) ∨ (m = -1 ∧ 1 < n ∧ T = 123 :: (digF n ++ [44, 125])) ∨
      (n < m ∧ m ≤ 99 ∧ ¬ (n = 0 ∧ m = 1) ∧ T = 123 :: (digF n ++ (44 :: (digF m ++ [125])))))) := by
  unfold textF at hT
  cases hr : rightB n m with
  | false => rw [hr] at hT; exact .inl ⟨rfl, hT.symm⟩
  | true =>
    rw [hr, if_pos rfl] at hT
    obtain ⟨h0, h1, h2⟩ := (right_iff n m).1 hr
    refine .inr ⟨rfl, h0, h1, ?_⟩
    by_cases c1 : (n == 0 && m == -1) = true
    · rw [if_pos c1] at hT; simp at c1; exact .inl ⟨c1.1, c1.2, hT.symm⟩
    rw [if_neg c1] at hT; simp at c1
    by_cases c2 : (n == 1 && m == -1) = true
    · rw [if_pos c2] at hT; simp at c2; exact .inr (.inl ⟨c2.1, c2.2, hT.symm⟩)
    rw [if_neg c2] at hT; simp at c2
    by_cases c3 : (n == 0 && m == 1) = true
    · rw [if_pos c3] at hT; simp at c3; exact .inr (.inr (.inl ⟨c3.1, c3.2, hT.symm⟩))
    rw [if_neg c3] at hT; simp at c3
    by_cases c4 : (n == m) = true
    · rw [if_pos c4] at hT; simp at c4; exact .inr (.inr (.inr (.inl ⟨c4.symm, hT.symm⟩)))
    rw [if_neg c4] at hT; simp at c4
    by_cases c5 : (m == -1) = true
    · rw [if_pos c5] at hT; simp at c5; exact .inr (.inr (.inr (.inr (.inl ⟨c5, by omega, hT.symm⟩))))
    rw [if_neg c5] at hT; simp at c5
    exact .inr (.inr (.inr (.inr (.inr ⟨by omega, by omega, by omega, hT.symm⟩))))

set_option maxRecDepth 100000 in
set_option maxHeartbeats 2000000 in
theorem rtext_any (n m : Int) (w : World) : Calls Try.prog 81 #[.int .i64 n, .int .i64 m] w fun e w' => e = .returned (strV (textF n m)) ∧ Below w.heap.size w w' := by
  obtain ⟨T, hT⟩ : ∃ T, textF n m = T := ⟨_, rfl⟩
  rw [hT]
  have hd := digF_len n
  have hdm := digF_len m
  go_enter Try.func81, Try.ntmps81
  go_wp2_with fail
  refine (rright_any n m _).mono ?_
  rintro e1 w1 ⟨rfl, rfl⟩
  rcases text_cases hT with ⟨hr, rfl⟩ | ⟨hr, h0, h1, ⟨rfl, rfl, rfl⟩ | ⟨rfl, rfl, rfl⟩ | ⟨rfl, rfl, rfl⟩ | ⟨rfl, rfl⟩ | ⟨rfl, hn, rfl⟩ | ⟨hnm, hm, hne, rfl⟩⟩
  · rw [hr]; clear hT hd hdm
    go_wp2
    go_ret
    exact ⟨rfl, Below.refl _ _⟩
  · rw [hr]; clear hT hd hdm
    go_wp2
    go_ret
    exact ⟨rfl, Below.refl _ _⟩
  · rw [hr]; clear hT hd hdm
    go_wp2
    go_ret
    exact ⟨rfl, Below.refl _ _⟩
  · rw [hr]; clear hT hd hdm
    go_wp2
    go_ret
    exact ⟨rfl, Below.refl _ _⟩
  · rw [hr]; clear hT hdm
    have e0 : (m == -1) = false := by simpa using (by omega : ¬ m = -1)
    have e1 : (m == 0 && m == -1) = false := by rw [e0]; simp
    cases f0 : (m == 0) with
    | true =>
      obtain rfl : m = 0 := by simpa using f0
      go_wp2_with fail
      refine (rdigits_any 0 h0 h1 _).mono ?_
      rintro e2 w2 ⟨rfl, hb2⟩
      go_wp2
      go_ret
      exact ⟨congrArg Ending.returned (congrArg Value.string (ByteArray.ext (by simp [ByteArray.data_append, *]))), hb2⟩
    | false =>
      cases f1 : (m == 1) with
      | true =>
        go_wp2_with fail
        refine (rdigits_any m h0 h1 _).mono ?_
        rintro e2 w2 ⟨rfl, hb2⟩
        go_wp2
        go_ret
        exact ⟨congrArg Ending.returned (congrArg Value.string (ByteArray.ext (by simp [ByteArray.data_append, *]))), hb2⟩
      | false =>
        go_wp2_with fail
        refine (rdigits_any m h0 h1 _).mono ?_
        rintro e2 w2 ⟨rfl, hb2⟩
        go_wp2
        go_ret
        exact ⟨congrArg Ending.returned (congrArg Value.string (ByteArray.ext (by simp [ByteArray.data_append, *]))), hb2⟩
  · rw [hr]; clear hT hdm
    have e0 : (n == 0) = false := by simpa using (by omega : ¬ n = 0)
    have e1 : (n == 1) = false := by simpa using (by omega : ¬ n = 1)
    have e2 : (n == -1) = false := by simpa using (by omega : ¬ n = -1)
    go_wp2_with fail
    refine (rdigits_any n h0 h1 _).mono ?_
    rintro e2 w2 ⟨rfl, hb2⟩
    go_wp2
    go_ret
    exact ⟨congrArg Ending.returned (congrArg Value.string (ByteArray.ext (by simp [ByteArray.data_append, *]))), hb2⟩
  · rw [hr]; clear hT
    have e0 : (m == -1) = false := by simpa using (by omega : ¬ m = -1)
    have e1 : (n == m) = false := by simpa using (by omega : ¬ n = m)
    have h0' : 0 ≤ m := by omega
    cases f0 : (n == 0) with
    | true =>
      obtain rfl : n = 0 := by simpa using f0
      have e2 : (m == 1) = false := by simpa using (by omega : ¬ m = 1)
      go_wp2_with fail
      refine (rdigits_any 0 h0 h1 _).mono ?_
      rintro e2 w2 ⟨rfl, hb2⟩
      go_wp2_with fail
      refine (rdigits_any m h0' hm _).mono ?_
      rintro e3 w3 ⟨rfl, hb3⟩
      have HB := Lib.hid (below_then hb2 hb3)
      clear hb2 hb3
      go_wp2
      go_ret
      exact ⟨congrArg Ending.returned (congrArg Value.string (ByteArray.ext (by simp [ByteArray.data_append, *]))), HB.out⟩
    | false =>
      cases f1 : (n == 1) with
      | true =>
        go_wp2_with fail
        refine (rdigits_any n h0 h1 _).mono ?_
        rintro e2 w2 ⟨rfl, hb2⟩
        go_wp2_with fail
        refine (rdigits_any m h0' hm _).mono ?_
        rintro e3 w3 ⟨rfl, hb3⟩
        have HB := Lib.hid (below_then hb2 hb3)
        clear hb2 hb3
        go_wp2
        go_ret
        exact ⟨congrArg Ending.returned (congrArg Value.string (ByteArray.ext (by simp [ByteArray.data_append, *]))), HB.out⟩
      | false =>
        go_wp2_with fail
        refine (rdigits_any n h0 h1 _).mono ?_
        rintro e2 w2 ⟨rfl, hb2⟩
        go_wp2_with fail
        refine (rdigits_any m h0' hm _).mono ?_
        rintro e3 w3 ⟨rfl, hb3⟩
        have HB := Lib.hid (below_then hb2 hb3)
        clear hb2 hb3
        go_wp2
        go_ret
        exact ⟨congrArg Ending.returned (congrArg Value.string (ByteArray.ext (by simp [ByteArray.data_append, *]))), HB.out⟩
end Go.Proofs.Ytddokdjlmdoebaa

/- Walks: the text of counts; what must come whatever the input is. -/
namespace Go.Proofs.Ytddokdjlmdoebaa
open Go.RowKit BraceP
attribute [local go_sem] run_eq_span
set_option maxRecDepth 100000 in
set_option maxHeartbeats 2000000 in
theorem text_any (n m : Int) (w : World) : Calls Try.prog 80 #[.int .i64 n, .int .i64 m] w fun e w' => e = .returned (strV (textF n m)) ∧ Below w.heap.size w w' := by
  obtain ⟨T, hT⟩ : ∃ T, textF n m = T := ⟨_, rfl⟩
  rw [hT]
  have hd := digF_len n
  have hdm := digF_len m
  go_enter Try.func80, Try.ntmps80
  rcases text_cases hT with ⟨hr, rfl⟩ | ⟨hr, h0, h1, ⟨rfl, rfl, rfl⟩ | ⟨rfl, rfl, rfl⟩ | ⟨rfl, rfl, rfl⟩ | ⟨rfl, rfl⟩ | ⟨rfl, hn, rfl⟩ | ⟨hnm, hm, hne, rfl⟩⟩
  · have hr' : ¬ (0 ≤ n ∧ n ≤ 99 ∧ (m = -1 ∨ (n ≤ m ∧ m ≤ 99))) := fun h => by rw [(right_iff n m).2 h] at hr; cases hr
    have HR := Lib.hid hr'
    clear hT hd hdm hr hr'
    cases c0 : decide (n < 0) with
    | true => go_wp2
              go_ret
              exact ⟨rfl, by (repeat' (first | (with_reducible exact Below.refl _ _) | (with_reducible assumption) | (with_reducible refine Below.alloc ?_ ?_ _) | (with_reducible refine Below.drew ?_) | (with_reducible refine below_set ?_ ?_ _) | (with_reducible refine below_call ?_ ?_ (by assumption)) | (with_reducible exact Below.size (by assumption)) | omega | go_size))⟩
    | false =>
    cases c1 : decide (99 < n) with
    | true => go_wp2
              go_ret
              exact ⟨rfl, by (repeat' (first | (with_reducible exact Below.refl _ _) | (with_reducible assumption) | (with_reducible refine Below.alloc ?_ ?_ _) | (with_reducible refine Below.drew ?_) | (with_reducible refine below_set ?_ ?_ _) | (with_reducible refine below_call ?_ ?_ (by assumption)) | (with_reducible exact Below.size (by assumption)) | omega | go_size))⟩
    | false =>
    cases c2 : decide (m < -1) with
    | true => go_wp2
              go_ret
              exact ⟨rfl, by (repeat' (first | (with_reducible exact Below.refl _ _) | (with_reducible assumption) | (with_reducible refine Below.alloc ?_ ?_ _) | (with_reducible refine Below.drew ?_) | (with_reducible refine below_set ?_ ?_ _) | (with_reducible refine below_call ?_ ?_ (by assumption)) | (with_reducible exact Below.size (by assumption)) | omega | go_size))⟩
    | false =>
    cases c3 : decide (99 < m) with
    | true => go_wp2
              go_ret
              exact ⟨rfl, by (repeat' (first | (with_reducible exact Below.refl _ _) | (with_reducible assumption) | (with_reducible refine Below.alloc ?_ ?_ _) | (with_reducible refine Below.drew ?_) | (with_reducible refine below_set ?_ ?_ _) | (with_reducible refine below_call ?_ ?_ (by assumption)) | (with_reducible exact Below.size (by assumption)) | omega | go_size))⟩
    | false =>
    simp at c0 c1 c2 c3
    have hx := HR.out
    have c4 : decide (0 ≤ m) = true := by simpa using (by omega : 0 ≤ m)
    have c5 : decide (m < n) = true := by simpa using (by omega : m < n)
    clear hx
    replace c0 : decide (n < 0) = false := by simpa using c0
    replace c1 : decide (99 < n) = false := by simpa using c1
    replace c2 : decide (m < -1) = false := by simpa using c2
    replace c3 : decide (99 < m) = false := by simpa using c3
    go_wp2
    go_ret
    exact ⟨rfl, by (repeat' (first | (with_reducible exact Below.refl _ _) | (with_reducible assumption) | (with_reducible refine Below.alloc ?_ ?_ _) | (with_reducible refine Below.drew ?_) | (with_reducible refine below_set ?_ ?_ _) | (with_reducible refine below_call ?_ ?_ (by assumption)) | (with_reducible exact Below.size (by assumption)) | omega | go_size))⟩
  · clear hT hd hdm hr
    go_wp2
    go_ret
    exact ⟨rfl, by (repeat' (first | (with_reducible exact Below.refl _ _) | (with_reducible assumption) | (with_reducible refine Below.alloc ?_ ?_ _) | (with_reducible refine Below.drew ?_) | (with_reducible refine below_set ?_ ?_ _) | (with_reducible refine below_call ?_ ?_ (by assumption)) | (with_reducible exact Below.size (by assumption)) | omega | go_size))⟩
  · clear hT hd hdm hr
    go_wp2
    go_ret
    exact ⟨rfl, by (repeat' (first | (with_reducible exact Below.refl _ _) | (with_reducible assumption) | (with_reducible refine Below.alloc ?_ ?_ _) | (with_reducible refine Below.drew ?_) | (with_reducible refine below_set ?_ ?_ _) | (with_reducible refine below_call ?_ ?_ (by assumption)) | (with_reducible exact Below.size (by assumption)) | omega | go_size))⟩
  · clear hT hd hdm hr
    go_wp2
    go_ret
    exact ⟨rfl, by (repeat' (first | (with_reducible exact Below.refl _ _) | (with_reducible assumption) | (with_reducible refine Below.alloc ?_ ?_ _) | (with_reducible refine Below.drew ?_) | (with_reducible refine below_set ?_ ?_ _) | (with_reducible refine below_call ?_ ?_ (by assumption)) | (with_reducible exact Below.size (by assumption)) | omega | go_size))⟩
  · clear hT hdm hr
    have c0 : decide (m < 0) = false := by simpa using h0
    have c1 : decide (99 < m) = false := by simpa using h1
    have c2 : decide (m < -1) = false := by simpa using (by omega : -1 ≤ m)
    have c4 : decide (0 ≤ m) = true := by simpa using h0
    have e0 : (m == -1) = false := by simpa using (by omega : ¬ m = -1)
    cases f0 : (m == 0) with
    | true =>
      obtain rfl : m = 0 := by simpa using f0
      go_wp2_with fail
      refine (digits_any 0 h0 h1 _).mono ?_
      rintro e2 w2 ⟨rfl, hb2⟩
      have HB := Lib.hid (below_then ((Below.refl _ w).alloc (Nat.le_refl _) _) hb2)
      clear hb2
      go_wp2
      go_ret
      exact ⟨congrArg Ending.returned (congrArg Value.string (ByteArray.ext (by simp [ByteArray.data_append, *]))), HB.out⟩
    | false =>
      cases f1 : (m == 1) with
      | true => go_wp2_with fail
                refine (digits_any m h0 h1 _).mono ?_
                rintro e2 w2 ⟨rfl, hb2⟩
                have HB := Lib.hid (below_then ((Below.refl _ w).alloc (Nat.le_refl _) _) hb2)
                clear hb2
                go_wp2
                go_ret
                exact ⟨congrArg Ending.returned (congrArg Value.string (ByteArray.ext (by simp [ByteArray.data_append, *]))), HB.out⟩
      | false => go_wp2_with fail
                 refine (digits_any m h0 h1 _).mono ?_
                 rintro e2 w2 ⟨rfl, hb2⟩
                 have HB := Lib.hid (below_then ((Below.refl _ w).alloc (Nat.le_refl _) _) hb2)
                 clear hb2
                 go_wp2
                 go_ret
                 exact ⟨congrArg Ending.returned (congrArg Value.string (ByteArray.ext (by simp [ByteArray.data_append, *]))), HB.out⟩
  · clear hT hdm hr
    have c0 : decide (n < 0) = false := by simpa using h0
    have c1 : decide (99 < n) = false := by simpa using h1
    have e0 : (n == 0) = false := by simpa using (by omega : ¬ n = 0)
    have e1 : (n == 1) = false := by simpa using (by omega : ¬ n = 1)
    have e2 : (n == -1) = false := by simpa using (by omega : ¬ n = -1)
    go_wp2_with fail
    refine (digits_any n h0 h1 _).mono ?_
    rintro e2 w2 ⟨rfl, hb2⟩
    have HB := Lib.hid (below_then ((Below.refl _ w).alloc (Nat.le_refl _) _) hb2)
    clear hb2
    go_wp2
    go_ret
    exact ⟨congrArg Ending.returned (congrArg Value.string (ByteArray.ext (by simp [ByteArray.data_append, *]))), HB.out⟩
  · clear hT hr
    have h0' : 0 ≤ m := by omega
    have c0 : decide (n < 0) = false := by simpa using h0
    have c1 : decide (99 < n) = false := by simpa using h1
    have c2 : decide (m < -1) = false := by simpa using (by omega : -1 ≤ m)
    have c3 : decide (99 < m) = false := by simpa using hm
    have c4 : decide (0 ≤ m) = true := by simpa using h0'
    have c5 : decide (m < n) = false := by simpa using (by omega : n ≤ m)
    have c6 : decide (m < 0) = false := by simpa using h0'
    have e0 : (m == -1) = false := by simpa using (by omega : ¬ m = -1)
    have e1 : (n == m) = false := by simpa using (by omega : ¬ n = m)
    cases f0 : (n == 0) with
    | true =>
      obtain rfl : n = 0 := by simpa using f0
      have e2 : (m == 1) = false := by simpa using (by omega : ¬ m = 1)
      go_wp2_with fail
      refine (digits_any 0 h0 h1 _).mono ?_
      rintro e2 w2 ⟨rfl, hb2⟩
      go_wp2_with fail
      refine (digits_any m h0' hm _).mono ?_
      rintro e3 w3 ⟨rfl, hb3⟩
      have HB := Lib.hid (below_then (below_then ((Below.refl _ w).alloc (Nat.le_refl _) _) hb2) hb3)
      clear hb2 hb3
      go_wp2
      go_ret
      exact ⟨congrArg Ending.returned (congrArg Value.string (ByteArray.ext (by simp [ByteArray.data_append, *]))), HB.out⟩
    | false =>
      cases f1 : (n == 1) with
      | true =>
        go_wp2_with fail
        refine (digits_any n h0 h1 _).mono ?_
        rintro e2 w2 ⟨rfl, hb2⟩
        go_wp2_with fail
        refine (digits_any m h0' hm _).mono ?_
        rintro e3 w3 ⟨rfl, hb3⟩
        have HB := Lib.hid (below_then (below_then ((Below.refl _ w).alloc (Nat.le_refl _) _) hb2) hb3)
        clear hb2 hb3
        go_wp2
        go_ret
        exact ⟨congrArg Ending.returned (congrArg Value.string (ByteArray.ext (by simp [ByteArray.data_append, *]))), HB.out⟩
      | false =>
        go_wp2_with fail
        refine (digits_any n h0 h1 _).mono ?_
        rintro e2 w2 ⟨rfl, hb2⟩
        go_wp2_with fail
        refine (digits_any m h0' hm _).mono ?_
        rintro e3 w3 ⟨rfl, hb3⟩
        have HB := Lib.hid (below_then (below_then ((Below.refl _ w).alloc (Nat.le_refl _) _) hb2) hb3)
        clear hb2 hb3
        go_wp2
        go_ret
        exact ⟨congrArg Ending.returned (congrArg Value.string (ByteArray.ext (by simp [ByteArray.data_append, *]))), HB.out⟩

end Go.Proofs.Ytddokdjlmdoebaa
