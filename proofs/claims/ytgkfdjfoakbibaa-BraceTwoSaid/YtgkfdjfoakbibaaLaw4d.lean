/- BraceTwo, walked. -/
import Derived.Test.YtgkfdjfoakbibaaProg
import Derived.WalkKit
import Derived.WalkSpells
import Derived.WalkLawsBesides
import Derived.Handy
import Derived.Lib.Hide
import Derived.Test.YtgkfdjfoakbibaaLaw4b
namespace Go.Proofs.Ytgkfdjfoakbibaa
open Go.RowKit BraceP
attribute [local go_sem] run_eq_span

/-- Two numbers in braces, as text. -/
def twoF (a b : Int) : List UInt8 := 123 :: (digF a ++ (44 :: (digF b ++ [125])))
theorem full_zero (v : Int) : full v 0 = false := by simp [full]
theorem twoF_le (a b : Int) (h0 : 0 ≤ a) (hb : b ≤ 99) (hab : a ≤ b) : readF (twoF a b) 0 = (a, b, ((twoF a b).length : Int), 0, 0) := by
  unfold twoF
  have open_ : ∀ l : List UInt8, readF (123 :: l) 0 = rd1 l 1 0 0 := fun l => by simp [readF, rd0_brace]
  rw [open_]
  obtain ⟨d, hd, e⟩ := rd1_num a h0 (by omega) (44 :: (digF b ++ [125])) 1
  obtain ⟨d', hd', e'⟩ := rd2_num a b (by omega) hb hab [125] (1 + ((digF a).length : Int) + 1)
  rw [e, rd1, if_neg (by decide), if_neg (by simp), if_pos (by simp [hd]), e', rd2, if_neg (by decide), if_neg (by simp [hd']), if_neg (by simp; omega), if_pos (by decide)]
  simp; omega
theorem rd2_gt (a b : Int) (h0 : 0 ≤ b) (hb : b < a) (ha : a ≤ 99) (i : Int) :
    ∃ k : Int, rd2 a (digF b ++ [125]) i 0 0 = (0, 0, 0, 6, k) ∧ i < k ∧ k ≤ i + (digF b).length + 1 := by
  obtain ⟨k, rfl⟩ := Int.eq_ofNat_of_zero_le h0
  unfold digF
  rw [Int.toNat_natCast]
  by_cases h : (k : Int) < 10
  · rw [if_pos h]
    obtain ⟨x, y⟩ := dig_of k (by omega)
    rw [List.singleton_append, rd2, if_pos x, y]
    by_cases hm : most (10 * 0 + (k : Int)) (0 + 1) < a
    · rw [if_pos (by rw [decide_eq_true hm]; simp)]
      exact ⟨i + 1, rfl, by omega, by simp; try omega⟩
    · rw [if_neg (by rw [decide_eq_false hm, full_zero]; simp), rd2, if_neg (by decide), if_neg (by simp), if_pos (by simp; omega)]
      exact ⟨_, rfl, by omega, by simp; try omega⟩
  · rw [if_neg h]
    obtain ⟨x, y⟩ := dig_of (k / 10) (by omega)
    obtain ⟨x', y'⟩ := dig_of (k % 10) (by omega)
    have e : 10 * (10 * 0 + ((k / 10 : Nat) : Int)) + ((k % 10 : Nat) : Int) = k := by omega
    rw [List.cons_append, List.singleton_append, rd2, if_pos x, y]
    by_cases hm : most (10 * 0 + ((k / 10 : Nat) : Int)) (0 + 1) < a
    · rw [if_pos (by rw [decide_eq_true hm]; simp)]
      exact ⟨i + 1, rfl, by omega, by simp; try omega⟩
    · have hm' : most (k : Int) (0 + 1 + 1) < a := by rw [most_num, if_pos (by simp [full])]; omega
      rw [if_neg (by rw [decide_eq_false hm, full_zero]; simp), rd2, if_pos x', y', e, if_pos (by rw [decide_eq_true hm']; simp)]
      exact ⟨_, rfl, by omega, by simp; try omega⟩
theorem twoF_gt (a b : Int) (h0 : 0 ≤ b) (hb : b < a) (ha : a ≤ 99) :
    ∃ k : Int, readF (twoF a b) 0 = (0, 0, 0, 6, k) ∧ (digF a).length + 2 < k ∧ k ≤ (twoF a b).length := by
  unfold twoF
  have open_ : ∀ l : List UInt8, readF (123 :: l) 0 = rd1 l 1 0 0 := fun l => by simp [readF, rd0_brace]
  rw [open_]
  obtain ⟨d, hd, e⟩ := rd1_num a (by omega) ha (44 :: (digF b ++ [125])) 1
  rw [e, rd1, if_neg (by decide), if_neg (by simp), if_pos (by simp [hd])]
  obtain ⟨k, h1, h2, h3⟩ := rd2_gt a b h0 hb ha (1 + ((digF a).length : Int) + 1)
  exact ⟨k, h1, by omega, by simp; try omega⟩

set_option maxRecDepth 100000 in
set_option maxHeartbeats 2000000 in
theorem two4_any (n m : Int) (hn0 : 0 ≤ n) (hn1 : n < 256) (hm0 : 0 ≤ m) (hm1 : m < 256) (w : World) :
    Calls Try.prog 6 #[.int .u8 n, .int .u8 m] w fun e w' => e = .returned (.bool true) ∧ Below w.heap.size w w' := by
  obtain ⟨a, ha⟩ : ∃ a, n % 100 = a := ⟨_, rfl⟩
  obtain ⟨b, hb⟩ : ∃ b, m % 100 = b := ⟨_, rfl⟩
  obtain ⟨a0, a1, b0, b1⟩ : 0 ≤ a ∧ a ≤ 99 ∧ 0 ≤ b ∧ b ≤ 99 := by omega
  have la := digF_len a
  have lb := digF_len b
  obtain ⟨S, hS⟩ : ∃ S, (⟨(twoF a b).toArray⟩ : ByteArray) = S := ⟨_, rfl⟩
  have hz : S.size = (twoF a b).length := by rw [← hS, mk_toArray]
  have hlen : (twoF a b).length = (digF a).length + (digF b).length + 3 := by unfold twoF; simp; omega
  have hsum : (ByteArray.mk #[123] ++ ByteArray.mk (digF a).toArray ++ ByteArray.mk #[44] ++ ByteArray.mk (digF b).toArray ++ ByteArray.mk #[125]) = S := by
    rw [← hS]; exact ByteArray.ext (by simp [ByteArray.data_append, twoF])
  have hdat : S.data.toList = twoF a b := by rw [← hS]
  have HA := Lib.hid ha; clear ha
  have HBb := Lib.hid hb; clear hb
  go_enter Try.func6, Try.ntmps6
  go_wp2_with fail
  rw [HA.out, HBb.out]
  refine (ldigits_any a a0 a1 _).mono ?_
  rintro e1 w1 ⟨rfl, hb1⟩
  go_wp2_with fail
  refine (ldigits_any b b0 b1 _).mono ?_
  rintro e2 w2 ⟨rfl, hb2⟩
  have HB2 := Lib.hid (below_then hb1 hb2)
  clear hb1 hb2
  have hsz : S.size ≤ 4611686018427387904 := by omega
  have hz7 : S.size = (digF a).length + (digF b).length + 3 := by omega
  have C3 := read_any S 0 hsz
  rw [hdat] at C3
  by_cases hab : a ≤ b
  · have hrd := twoF_le a b a0 b1 hab
    rw [← hz] at hrd
    rw [hrd] at C3
    have HS := Lib.hid hsum
    have d1 : decide (a ≤ b) = true := by simpa using hab
    clear hrd hS hz hlen hdat hsum hz7
    go_wp2_with fail
    rw [HS.out]
    refine (C3 _).mono ?_
    rintro e3 w3 ⟨rfl, hb3⟩
    have o3 : Slab (w3.alloc (.cells #[.int .i64 a, .int .i64 b] 24)) w3.heap.size #[.int .i64 a, .int .i64 b] 24 := Slab.new _ _ _
    have HB3' := below_then HB2.out hb3
    have HB3 := Lib.hid (HB3'.alloc HB3'.size (.cells #[.int .i64 a, .int .i64 b] 24))
    clear hb3 HB3'
    obtain ⟨c3, f3⟩ := Slab.facts (o3)
    go_wp2_with fail
    refine (sure_any _).mono ?_
    rintro e4 w4 ⟨rfl, hb4⟩
    have HB4 := below_then HB3.out hb4
    go_wp2
    go_ret
    exact ⟨rfl, HB4⟩
  · obtain ⟨k, hrd, hk1, hk2⟩ := twoF_gt a b b0 (by omega) a1
    rw [← hz] at hk2
    rw [hrd] at C3
    obtain ⟨A, hA⟩ : ∃ A, (⟨(digF a).toArray⟩ : ByteArray) = A := ⟨_, rfl⟩
    have hAz : A.size = (digF a).length := by rw [← hA, mk_toArray]
    have CA := ldigits_any a a0 a1
    simp only [strV, hA] at CA
    have hT : textF a b = [] := by
      have : rightB a b = false := by
        rw [Bool.eq_false_iff]; intro h; have := (right_iff a b).1 h; unfold Right at this; omega
      unfold textF; rw [this]; rfl
    have CT := text_any a b
    rw [hT] at CT
    rw [hA] at hsum
    have HS := Lib.hid hsum
    have d1 : decide (a ≤ b) = false := by simpa using hab
    have d2 : decide ((A.size : Int) + 2 < k) = true := by simp; omega
    have d3 : decide (k ≤ (S.size : Int)) = true := by simp; omega
    have hA2 : A.size ≤ 2 := by omega
    clear hrd hS hz hlen hdat hsum hz7 hT hk1 hAz
    go_wp2_with fail
    rw [HS.out]
    refine (C3 _).mono ?_
    rintro e3 w3 ⟨rfl, hb3⟩
    have HB3' := below_then HB2.out hb3
    have HB3 := Lib.hid (HB3'.alloc HB3'.size (.cells #[.int .i64 0, .int .i64 0] 24))
    clear hb3 HB3'
    go_wp2_with fail
    refine (CA _).mono ?_
    rintro e4 w4 ⟨rfl, hb4⟩
    have HB4 := Lib.hid (below_then HB3.out hb4)
    clear hb4 HB3
    go_wp2_with fail
    refine (CT _).mono ?_
    rintro e5 w5 ⟨rfl, hb5⟩
    have HB5 := Lib.hid (below_then HB4.out hb5)
    clear hb5 HB4
    go_wp2_with fail
    refine (sure_any _).mono ?_
    rintro e6 w6 ⟨rfl, hb6⟩
    have HB6 := below_then HB5.out hb6
    go_wp2
    go_ret
    exact ⟨rfl, HB6⟩
end Go.Proofs.Ytgkfdjfoakbibaa
