/- Walks of the package gimletref04: counts as the document says. -/
import Derived.Test.YtgkfdjfoakbibaaProg
import Derived.WalkKit
import Derived.WalkSpells
import Derived.WalkLawsBesides
import Derived.Handy
import Derived.Lib.Hide
import Derived.Test.YtgkfdjfoakbibaaBraceC
namespace Go.Proofs.Ytgkfdjfoakbibaa
open Go.RowKit BraceP

/-- An answer of the document's Read. -/
abbrev resR (r : R) : Value := .tuple #[.int .i64 r.1, .int .i64 r.2.1, .int .i64 r.2.2.1, .int .i64 r.2.2.2.1, .int .i64 r.2.2.2.2]

set_option maxRecDepth 100000 in
set_option maxHeartbeats 2000000 in
theorem rdigit_any (b : UInt8) (w : World) : Calls Try.prog 49 #[.int .u8 (b.toNat : Int)] w fun e w' => e = .returned (.bool (isDig b)) ∧ w = w' := by
  have hd : isDig b = (decide (48 ≤ (b.toNat : Int)) && decide ((b.toNat : Int) ≤ 57)) := by
    unfold isDig; rw [Bool.eq_iff_iff]; simp; omega
  have HD := Lib.hid hd; clear hd
  rw [HD.out]
  by_cases h1 : 48 ≤ (b.toNat : Int)
  · by_cases h2 : (b.toNat : Int) ≤ 57
    · have e1 : decide (48 ≤ (b.toNat : Int)) = true := by simpa using h1
      have e2 : decide ((b.toNat : Int) ≤ 57) = true := by simpa using h2
      go_enter Try.func49, Try.ntmps49
      go_wp2
      go_ret
      exact ⟨by simp [*], rfl⟩
    · have e1 : decide (48 ≤ (b.toNat : Int)) = true := by simpa using h1
      have e2 : decide ((b.toNat : Int) ≤ 57) = false := by simpa using h2
      go_enter Try.func49, Try.ntmps49
      go_wp2
      go_ret
      exact ⟨by simp [*], rfl⟩
  · have e1 : decide (48 ≤ (b.toNat : Int)) = false := by simpa using h1
    go_enter Try.func49, Try.ntmps49
    go_wp2
    go_ret
    exact ⟨by simp [*], rfl⟩

theorem full_cases {v d : Int} (hn : Num v d) : (full v d = true ∧ (d = 2 ∨ (d = 1 ∧ v = 0))) ∨ (full v d = false ∧ ((d = 0 ∧ v = 0) ∨ (d = 1 ∧ 0 < v))) := by
  unfold Num at hn; unfold full
  rcases hn with ⟨rfl, rfl⟩ | ⟨rfl, h1, h2⟩ | ⟨rfl, h1, h2⟩
  · right; decide
  · by_cases h : v = 0
    · left; simp [h]
    · right; simp [h]; omega
  · left; simp

set_option maxRecDepth 100000 in
set_option maxHeartbeats 2000000 in
theorem braces_any (s : ByteArray) (i : Int) (h0 : 0 ≤ i) (h1 : i < s.size) (hs : s.size ≤ 4611686018427387904) (w : World) :
    Calls Try.prog 34 #[.string s, .int .i64 i] w fun e w' => e = .returned (resR (rd1 (s.data.toList.drop (i.toNat + 1)) (i + 1) 0 0)) ∧ w' = w := by
  obtain ⟨i, rfl⟩ := Int.eq_ofNat_of_zero_le h0
  rw [Int.toNat_natCast]
  obtain ⟨T, hT⟩ : ∃ T, rd1 (s.data.toList.drop (i + 1)) ((i : Int) + 1) 0 0 = T := ⟨_, rfl⟩
  rw [hT]
  have HT := Lib.hid hT; clear hT
  go_enter Try.func34, Try.ntmps34
  go_wp2
  go_loopw [9, 10, 11, 12, 13] (fun n m h2 sec p wr => ∃ (k : Nat) (v d least : Int) (q : Bool), k ≤ s.size ∧ p = .int .i64 k ∧ Num v d ∧ h2 = .int .i64 d ∧ sec = .bool q ∧ wr = w ∧
    ((q = false ∧ n = .int .i64 v ∧ m = .int .i64 0 ∧ rd1 (s.data.toList.drop k) k v d = T) ∨ (q = true ∧ n = .int .i64 least ∧ m = .int .i64 v ∧ 0 ≤ least ∧ least ≤ 99 ∧ rd2 least (s.data.toList.drop k) k v d = T))) (fun _ _ _ _ p _ => s.size - (intOf p).toNat)
  case atStart => exact ⟨i + 1, 0, 0, 0, false, by omega, by go_num, .inl ⟨rfl, rfl⟩, rfl, rfl, rfl, .inl ⟨rfl, rfl, rfl, HT.out⟩⟩
  case round =>
    obtain ⟨k, v, d, least, q, hk, rfl, hn, rfl, rfl, rfl, hor⟩ := hrel
    obtain ⟨n1, n2, n3, n4⟩ := hn.bd
    have HN := Lib.hid hn; clear hn
    by_cases hlt : k < s.size
    · have hb48 : isDig s[k] = true → 48 ≤ (s[k].toNat : Int) ∧ (s[k].toNat : Int) ≤ 57 := fun h => by unfold isDig at h; simp at h; omega
      have k125 := Lib.hid (byte_eq s[k] 125 (by omega))
      have k44 := Lib.hid (byte_eq s[k] 44 (by omega))
      rcases hor with ⟨rfl, rfl, rfl, hr⟩ | ⟨rfl, rfl, rfl, l0, l1, hr⟩
      · rw [drop_cons_at s k hlt] at hr
        have HR := Lib.hid hr; clear hr
        go_wp2_with fail
        refine (rdigit_any s[k] _).mono ?_
        rintro e1 w1 ⟨rfl, rfl⟩
        generalize s[k] = b at *
        cases hb : isDig b with
        | true =>
          obtain ⟨b1, b2⟩ := hb48 hb
          have HD := Lib.hid hb; clear hb hb48
          rcases full_cases HN.out with ⟨hf, hc⟩ | ⟨hf, hc⟩
          · have HF := Lib.hid hf; clear hf
            rcases hc with rfl | ⟨rfl, rfl⟩
            · go_wp2
              refine bodyPost_ret (v := resR (0, 0, 0, 6, (k : Int) + 1)) (by simp [results, Try.results34, go_sem, *]) rfl ⟨ret_v (congrArg resR ?_), rfl⟩
              rw [← HR.out, rd1, if_pos HD.out, if_pos HF.out]
            · go_wp2
              refine bodyPost_ret (v := resR (0, 0, 0, 6, (k : Int) + 1)) (by simp [results, Try.results34, go_sem, *]) rfl ⟨ret_v (congrArg resR ?_), rfl⟩
              rw [← HR.out, rd1, if_pos HD.out, if_pos HF.out]
          · have HF := Lib.hid hf; clear hf
            have hn' := HN.out.next HF.out HD.out
            have hr' : rd1 (s.data.toList.drop (k + 1)) ((k + 1 : Nat) : Int) (10 * v + dig b) (d + 1) = T := by
              rw [← HR.out, rd1, if_pos HD.out, HF.out]; rfl
            have HX := Lib.hid (And.intro hn' hr'); clear hn' hr'
            rcases hc with ⟨rfl, rfl⟩ | ⟨rfl, hv⟩
            · by_cases hx : 48 < (b.toNat : Int)
              · have ex : decide (0 < (b.toNat : Int) - 48) = true := by simpa using (by omega : 0 < (b.toNat : Int) - 48)
                go_wp2
                refine ⟨⟨k + 1, _, _, 0, false, by omega, by go_num, HX.out.1, by go_num, rfl, trivial, .inl ⟨rfl, congrArg (Value.int _) (by unfold dig; omega), rfl, HX.out.2⟩⟩, ?_⟩
                simp [intOf]; omega
              · have ex : decide (0 < (b.toNat : Int) - 48) = false := by simpa using (by omega : ¬ 0 < (b.toNat : Int) - 48)
                go_wp2
                refine ⟨⟨k + 1, _, _, 0, false, by omega, by go_num, HX.out.1, by go_num, rfl, trivial, .inl ⟨rfl, congrArg (Value.int _) (by unfold dig; omega), rfl, HX.out.2⟩⟩, ?_⟩
                simp [intOf]; omega
            · have ex : (v == 0) = false := by simpa using (by omega : v ≠ 0)
              go_wp2
              refine ⟨⟨k + 1, _, _, 0, false, by omega, by go_num, HX.out.1, by go_num, rfl, trivial, .inl ⟨rfl, congrArg (Value.int _) (by unfold dig; omega), rfl, HX.out.2⟩⟩, ?_⟩
              simp [intOf]; omega
        | false =>
          have HD := Lib.hid hb; clear hb hb48
          by_cases h44 : (b.toNat : Int) = 44
          · have t44 : ((b.toNat : Int) == 44) = true := by simpa using h44
            have t125 : ((b.toNat : Int) == 125) = false := by simpa using (by omega : ¬ (b.toNat : Int) = 125)
            have T4 := Lib.hid t44
            have T5 := Lib.hid t125
            clear h44
            by_cases hd : 0 < d
            · have td : decide (0 < d) = true := by simpa using hd
              have TD := Lib.hid td
              clear hd
              have hr' : rd2 v (s.data.toList.drop (k + 1)) ((k + 1 : Nat) : Int) 0 0 = T := by
                rw [← HR.out, rd1, HD.out, TD.out]; erw [k125.out, T5.out, k44.out, T4.out]; rfl
              have HX := Lib.hid hr'; clear hr'
              go_wp2
              refine ⟨⟨k + 1, 0, 0, v, true, by omega, by go_num, .inl ⟨rfl, rfl⟩, rfl, rfl, trivial, .inr ⟨rfl, rfl, rfl, n1, n2, HX.out⟩⟩, ?_⟩
              simp [intOf]; omega
            · have td : decide (0 < d) = false := by simpa using hd
              have TD := Lib.hid td
              clear hd
              go_wp2
              refine bodyPost_ret (v := resR (0, 0, 0, 3, (k : Int) + 1)) (by simp [results, Try.results34, go_sem, *]) rfl ⟨ret_v (congrArg resR ?_), rfl⟩
              rw [← HR.out, rd1, HD.out, TD.out]; rfl
          · have t44 : ((b.toNat : Int) == 44) = false := by simpa using h44
            have T4 := Lib.hid t44
            clear h44
            by_cases h125 : (b.toNat : Int) = 125
            · have t125 : ((b.toNat : Int) == 125) = true := by simpa using h125
              have T5 := Lib.hid t125
              clear h125
              by_cases hd : 0 < d
              · have td : decide (0 < d) = true := by simpa using hd
                have TD := Lib.hid td
                clear hd
                go_wp2
                refine bodyPost_ret (v := resR (v, v, (k : Int) + 1, 0, 0)) (by simp [results, Try.results34, go_sem, *]) rfl ⟨ret_v (congrArg resR ?_), rfl⟩
                rw [← HR.out, rd1, HD.out, TD.out]; erw [k125.out, T5.out]; rfl
              · have td : decide (0 < d) = false := by simpa using hd
                have TD := Lib.hid td
                clear hd
                go_wp2
                refine bodyPost_ret (v := resR (0, 0, 0, 3, (k : Int) + 1)) (by simp [results, Try.results34, go_sem, *]) rfl ⟨ret_v (congrArg resR ?_), rfl⟩
                rw [← HR.out, rd1, HD.out, TD.out]; rfl
            · have t125 : ((b.toNat : Int) == 125) = false := by simpa using h125
              have T5 := Lib.hid t125
              clear h125
              go_wp2
              refine bodyPost_ret (v := resR (0, 0, 0, 3, (k : Int) + 1)) (by simp [results, Try.results34, go_sem, *]) rfl ⟨ret_v (congrArg resR ?_), rfl⟩
              rw [← HR.out, rd1, HD.out]; erw [k125.out, T5.out, k44.out, T4.out]; cases decide (0 < d) <;> rfl
      · rw [drop_cons_at s k hlt] at hr
        have HR := Lib.hid hr; clear hr
        go_wp2_with fail
        refine (rdigit_any s[k] _).mono ?_
        rintro e1 w1 ⟨rfl, rfl⟩
        generalize s[k] = b at *
        cases hb : isDig b with
        | true =>
          obtain ⟨b1, b2⟩ := hb48 hb
          have HD := Lib.hid hb; clear hb hb48
          rcases full_cases HN.out with ⟨hf, hc⟩ | ⟨hf, hc⟩
          · have HF := Lib.hid hf; clear hf
            rcases hc with rfl | ⟨rfl, rfl⟩
            · go_wp2
              refine bodyPost_ret (v := resR (0, 0, 0, 6, (k : Int) + 1)) (by simp [results, Try.results34, go_sem, *]) rfl ⟨ret_v (congrArg resR ?_), rfl⟩
              rw [← HR.out, rd2, if_pos HD.out, HF.out]; rfl
            · go_wp2
              refine bodyPost_ret (v := resR (0, 0, 0, 6, (k : Int) + 1)) (by simp [results, Try.results34, go_sem, *]) rfl ⟨ret_v (congrArg resR ?_), rfl⟩
              rw [← HR.out, rd2, if_pos HD.out, HF.out]; rfl
          · have HF := Lib.hid hf; clear hf
            have hn' := HN.out.next HF.out HD.out
            have hr' : ∀ M : Int, most (10 * v + dig b) (d + 1) = M → (decide (M < least) = true → T = (0, 0, 0, 6, (k : Int) + 1)) ∧ (decide (M < least) = false → rd2 least (s.data.toList.drop (k + 1)) ((k + 1 : Nat) : Int) (10 * v + dig b) (d + 1) = T) := by
              rintro M rfl
              rw [← HR.out, rd2, if_pos HD.out, HF.out]
              exact ⟨fun h => by rw [h]; rfl, fun h => by rw [h]; rfl⟩
            have HX := Lib.hid (And.intro hn' hr'); clear hn' hr'
            rcases hc with ⟨rfl, rfl⟩ | ⟨rfl, hv⟩
            · by_cases hx : 48 < (b.toNat : Int)
              · have ex : decide (0 < (b.toNat : Int) - 48) = true := by simpa using (by omega : 0 < (b.toNat : Int) - 48)
                have hm : most (10 * 0 + dig b) (0 + 1) = 10 * ((b.toNat : Int) - 48) + 9 := by
                  unfold most full dig; rw [if_neg (by simp; omega)]; omega
                have H2 := Lib.hid (HX.out.2 _ hm); clear hm
                cases hm : decide (10 * ((b.toNat : Int) - 48) + 9 < least) with
                | true =>
                  have HM := Lib.hid (H2.out.1 hm)
                  go_wp2
                  refine bodyPost_ret (v := resR (0, 0, 0, 6, (k : Int) + 1)) (by simp [results, Try.results34, go_sem, *]) rfl ⟨ret_v (congrArg resR ?_), rfl⟩
                  exact HM.out.symm
                | false =>
                  have HM := Lib.hid (H2.out.2 hm)
                  go_wp2
                  refine ⟨⟨k + 1, _, _, least, true, by omega, by go_num, HX.out.1, by go_num, rfl, trivial, .inr ⟨rfl, rfl, congrArg (Value.int _) (by unfold dig; omega), l0, l1, HM.out⟩⟩, ?_⟩
                  simp [intOf]; omega
              · have ex : decide (0 < (b.toNat : Int) - 48) = false := by simpa using (by omega : ¬ 0 < (b.toNat : Int) - 48)
                have hm : most (10 * 0 + dig b) (0 + 1) = (b.toNat : Int) - 48 := by
                  unfold most full dig; rw [if_pos (by simp; omega)]; omega
                have H2 := Lib.hid (HX.out.2 _ hm); clear hm
                cases hm : decide ((b.toNat : Int) - 48 < least) with
                | true =>
                  have HM := Lib.hid (H2.out.1 hm)
                  go_wp2
                  refine bodyPost_ret (v := resR (0, 0, 0, 6, (k : Int) + 1)) (by simp [results, Try.results34, go_sem, *]) rfl ⟨ret_v (congrArg resR ?_), rfl⟩
                  exact HM.out.symm
                | false =>
                  have HM := Lib.hid (H2.out.2 hm)
                  go_wp2
                  refine ⟨⟨k + 1, _, _, least, true, by omega, by go_num, HX.out.1, by go_num, rfl, trivial, .inr ⟨rfl, rfl, congrArg (Value.int _) (by unfold dig; omega), l0, l1, HM.out⟩⟩, ?_⟩
                  simp [intOf]; omega
            · have ex : (v == 0) = false := by simpa using (by omega : v ≠ 0)
              have hm : most (10 * v + dig b) (1 + 1) = 10 * v + ((b.toNat : Int) - 48) := by
                unfold most full dig; rw [if_pos (by simp)]
              have H2 := Lib.hid (HX.out.2 _ hm); clear hm
              cases hm : decide (10 * v + ((b.toNat : Int) - 48) < least) with
              | true =>
                have HM := Lib.hid (H2.out.1 hm)
                go_wp2
                refine bodyPost_ret (v := resR (0, 0, 0, 6, (k : Int) + 1)) (by simp [results, Try.results34, go_sem, *]) rfl ⟨ret_v (congrArg resR ?_), rfl⟩
                exact HM.out.symm
              | false =>
                have HM := Lib.hid (H2.out.2 hm)
                go_wp2
                refine ⟨⟨k + 1, _, _, least, true, by omega, by go_num, HX.out.1, by go_num, rfl, trivial, .inr ⟨rfl, rfl, congrArg (Value.int _) (by unfold dig; omega), l0, l1, HM.out⟩⟩, ?_⟩
                simp [intOf]; omega
        | false =>
          have HD := Lib.hid hb; clear hb hb48
          have k44' := k44.out
          by_cases h125 : (b.toNat : Int) = 125
          · have t125 : ((b.toNat : Int) == 125) = true := by simpa using h125
            have t44 : ((b.toNat : Int) == 44) = false := by simpa using (by omega : ¬ (b.toNat : Int) = 44)
            have T5 := Lib.hid t125
            clear h125 k44'
            by_cases hd : d = 0
            · have td : (d == 0) = true := by simpa using hd
              have TD := Lib.hid td
              clear hd
              go_wp2
              refine bodyPost_ret (v := resR (least, -1, (k : Int) + 1, 0, 0)) (by simp [results, Try.results34, go_sem, *]) rfl ⟨ret_v (congrArg resR ?_), rfl⟩
              rw [← HR.out, rd2, HD.out, TD.out]; erw [k125.out, T5.out]; rfl
            · have td : (d == 0) = false := by simpa using hd
              have TD := Lib.hid td
              clear hd
              by_cases hv : v < least
              · have tv : decide (v < least) = true := by simpa using hv
                have tv' : decide (least ≤ v) = false := by simpa using hv
                have TV := Lib.hid tv
                clear hv tv
                go_wp2
                refine bodyPost_ret (v := resR (0, 0, 0, 6, (k : Int) + 1)) (by simp [results, Try.results34, go_sem, *]) rfl ⟨ret_v (congrArg resR ?_), rfl⟩
                rw [← HR.out, rd2, HD.out, TD.out, TV.out]; erw [k125.out, T5.out]; rfl
              · have tv : decide (v < least) = false := by simpa using hv
                have tv' : decide (least ≤ v) = true := by simpa using hv
                have TV := Lib.hid tv
                clear hv tv
                go_wp2
                refine bodyPost_ret (v := resR (least, v, (k : Int) + 1, 0, 0)) (by simp [results, Try.results34, go_sem, *]) rfl ⟨ret_v (congrArg resR ?_), rfl⟩
                rw [← HR.out, rd2, HD.out, TD.out, TV.out]; erw [k125.out, T5.out]; rfl
          · have t125 : ((b.toNat : Int) == 125) = false := by simpa using h125
            have T5 := Lib.hid t125
            clear h125 k44'
            cases t44 : ((b.toNat : Int) == 44) with
            | true =>
              go_wp2
              refine bodyPost_ret (v := resR (0, 0, 0, 3, (k : Int) + 1)) (by simp [results, Try.results34, go_sem, *]) rfl ⟨ret_v (congrArg resR ?_), rfl⟩
              rw [← HR.out, rd2, HD.out]; erw [k125.out, T5.out]; rfl
            | false =>
              go_wp2
              refine bodyPost_ret (v := resR (0, 0, 0, 3, (k : Int) + 1)) (by simp [results, Try.results34, go_sem, *]) rfl ⟨ret_v (congrArg resR ?_), rfl⟩
              rw [← HR.out, rd2, HD.out]; erw [k125.out, T5.out]; rfl
    · have hr' : T = (0, 0, 0, 2, (s.size : Int)) := by
        have hks : k = s.size := by omega
        rcases hor with ⟨_, _, _, hr⟩ | ⟨_, _, _, _, _, hr⟩
        · rw [← hr, List.drop_eq_nil_of_le (by simpa using (by omega : s.size ≤ k)), hks]; rfl
        · rw [← hr, List.drop_eq_nil_of_le (by simpa using (by omega : s.size ≤ k)), hks]; rfl
      have HR := Lib.hid hr'; clear hr'
      clear hor
      go_wp2
      refine bodyPost_ret (v := resR (0, 0, 0, 2, (s.size : Int))) (by simp [results, Try.results34, go_sem, *]) rfl ⟨ret_v (congrArg resR ?_), rfl⟩
      rw [HR.out]
end Go.Proofs.Ytgkfdjfoakbibaa
