/- Walks: the text of counts, the document's and the program's; what must come whatever the input is. -/
import Derived.Test.YtgkfdjfoakbibaaProg
import Derived.WalkKit
import Derived.WalkSpells
import Derived.WalkLawsBesides
import Derived.Handy
import Derived.Lib.Hide
import Derived.Test.YtgkfdjfoakbibaaBraceE
import Derived.ChangeKeysEq
namespace Go.Proofs.Ytgkfdjfoakbibaa
open Go.RowKit BraceP

theorem run_eq_span (w : World) (a b a' b' : Int) :
    (Op.equalIn 10000 24 (.agg #[.int .i64 a, .int .i64 b]) (.agg #[.int .i64 a', .int .i64 b'])).run Try.prog w = .ok (a == a' && b == b') w := by
  have hp : Try.prog.stoodInHeld 24 = false := by kernel_rfl
  rw [show (10000 : Nat) = 9999 + 1 from rfl, run_equalIn_struct w 9999 24 _ _ (by rw [Program.fieldsOf, Try.underlying24]) hp]
  rw [Program.fieldsOf, Try.underlying24]
  have hq : ∀ x y, (Op.equalIn 9999 3 (.int .i64 x) (.int .i64 y)).run Try.prog w = .ok (x == y) w := fun x y => run_equalIn_int w 9998 _ _ .i64 x y Try.underlying3
  simp [Op.eqFields, part, isAgg, run_underlying Try.underlying3, hq]
  by_cases e1 : a = a' <;> by_cases e2 : b = b' <;> simp [e1, e2]
theorem mk_toArray (l : List UInt8) : (ByteArray.mk l.toArray).size = l.length := by simp [ByteArray.size]
theorem digF_len (n : Int) : 0 < (digF n).length ∧ (digF n).length ≤ 2 := by unfold digF; split <;> simp

theorem right_iff (n m : Int) : rightB n m = true ↔ 0 ≤ n ∧ n ≤ 99 ∧ (m = -1 ∨ (n ≤ m ∧ m ≤ 99)) := by
  unfold rightB; simp
theorem text_cases {n m : Int} {T : List UInt8} (hT : textF n m = T) :
    (rightB n m = false ∧ T = []) ∨ (rightB n m = true ∧ 0 ≤ n ∧ n ≤ 99 ∧ ((n = 0 ∧ m = -1 ∧ T = [42]) ∨ (n = 1 ∧ m = -1 ∧ T = [43]) ∨ (n = 0 ∧ m = 1 ∧ T = [63]) ∨
      (m = n ∧ T = 123 :: (digF n ++ [125])) ∨ (m = -1 ∧ 1 < n ∧ T = 123 :: (digF n ++ [44, 125])) ∨
      (n < m ∧ m ≤ 99 ∧ ¬ (n = 0 ∧ m = 1) ∧ T = 123 :: (digF n ++ (44 :: (digF m ++ [125])))))) := by
  unfold textF at hT
  cases hr : rightB n m with
  | false => rw [hr] at hT; exact .inl ⟨rfl, hT.symm⟩
  | true =>
    rw [hr, if_pos rfl] at hT
    obtain ⟨h0, h1, h2⟩ := (right_iff n m).1 hr
    refine .inr ⟨rfl, h0, h1, ?_⟩
    by_cases c1 : (n == 0 && m == -1) = true
    · rw [if_pos c1] at hT; simp at c1; exact .inl ⟨c1.1, c1.2, hT.symm⟩
    rw [if_neg c1] at hT; simp at c1
    by_cases c2 : (n == 1 && m == -1) = true
    · rw [if_pos c2] at hT; simp at c2; exact .inr (.inl ⟨c2.1, c2.2, hT.symm⟩)
    rw [if_neg c2] at hT; simp at c2
    by_cases c3 : (n == 0 && m == 1) = true
    · rw [if_pos c3] at hT; simp at c3; exact .inr (.inr (.inl ⟨c3.1, c3.2, hT.symm⟩))
    rw [if_neg c3] at hT; simp at c3
    by_cases c4 : (n == m) = true
    · rw [if_pos c4] at hT; simp at c4; exact .inr (.inr (.inr (.inl ⟨c4.symm, hT.symm⟩)))
    rw [if_neg c4] at hT; simp at c4
    by_cases c5 : (m == -1) = true
    · rw [if_pos c5] at hT; simp at c5; exact .inr (.inr (.inr (.inr (.inl ⟨c5, by omega, hT.symm⟩))))
    rw [if_neg c5] at hT; simp at c5
    exact .inr (.inr (.inr (.inr (.inr ⟨by omega, by omega, by omega, hT.symm⟩))))

set_option maxRecDepth 100000 in
set_option maxHeartbeats 2000000 in
theorem rtext_any (n m : Int) (w : World) : Calls Try.prog 17 #[.int .i64 n, .int .i64 m] w fun e w' => e = .returned (strV (textF n m)) ∧ Below w.heap.size w w' := by
  obtain ⟨T, hT⟩ : ∃ T, textF n m = T := ⟨_, rfl⟩
  rw [hT]
  have hd := digF_len n
  have hdm := digF_len m
  go_enter Try.func17, Try.ntmps17
  go_wp2_with fail
  refine (rright_any n m _).mono ?_
  rintro e1 w1 ⟨rfl, rfl⟩
  rcases text_cases hT with ⟨hr, rfl⟩ | ⟨hr, h0, h1, ⟨rfl, rfl, rfl⟩ | ⟨rfl, rfl, rfl⟩ | ⟨rfl, rfl, rfl⟩ | ⟨rfl, rfl⟩ | ⟨rfl, hn, rfl⟩ | ⟨hnm, hm, hne, rfl⟩⟩
  · rw [hr]; clear hT hd hdm
    go_wp2
    go_ret
    exact ⟨rfl, Below.refl _ _⟩
  · rw [hr]; clear hT hd hdm
    go_wp2
    go_ret
    exact ⟨rfl, Below.refl _ _⟩
  · rw [hr]; clear hT hd hdm
    go_wp2
    go_ret
    exact ⟨rfl, Below.refl _ _⟩
  · rw [hr]; clear hT hd hdm
    go_wp2
    go_ret
    exact ⟨rfl, Below.refl _ _⟩
  · rw [hr]; clear hT hdm
    have e0 : (m == -1) = false := by simpa using (by omega : ¬ m = -1)
    have e1 : (m == 0 && m == -1) = false := by rw [e0]; simp
    cases f0 : (m == 0) with
    | true =>
      obtain rfl : m = 0 := by simpa using f0
      go_wp2_with fail
      refine (rdigits_any 0 h0 h1 _).mono ?_
      rintro e2 w2 ⟨rfl, hb2⟩
      go_wp2
      go_ret
      exact ⟨congrArg Ending.returned (congrArg Value.string (ByteArray.ext (by simp [ByteArray.data_append, *]))), hb2⟩
    | false =>
      cases f1 : (m == 1) with
      | true =>
        go_wp2_with fail
        refine (rdigits_any m h0 h1 _).mono ?_
        rintro e2 w2 ⟨rfl, hb2⟩
        go_wp2
        go_ret
        exact ⟨congrArg Ending.returned (congrArg Value.string (ByteArray.ext (by simp [ByteArray.data_append, *]))), hb2⟩
      | false =>
        go_wp2_with fail
        refine (rdigits_any m h0 h1 _).mono ?_
        rintro e2 w2 ⟨rfl, hb2⟩
        go_wp2
        go_ret
        exact ⟨congrArg Ending.returned (congrArg Value.string (ByteArray.ext (by simp [ByteArray.data_append, *]))), hb2⟩
  · rw [hr]; clear hT hdm
    have e0 : (n == 0) = false := by simpa using (by omega : ¬ n = 0)
    have e1 : (n == 1) = false := by simpa using (by omega : ¬ n = 1)
    have e2 : (n == -1) = false := by simpa using (by omega : ¬ n = -1)
    go_wp2_with fail
    refine (rdigits_any n h0 h1 _).mono ?_
    rintro e2 w2 ⟨rfl, hb2⟩
    go_wp2
    go_ret
    exact ⟨congrArg Ending.returned (congrArg Value.string (ByteArray.ext (by simp [ByteArray.data_append, *]))), hb2⟩
  · rw [hr]; clear hT
    have e0 : (m == -1) = false := by simpa using (by omega : ¬ m = -1)
    have e1 : (n == m) = false := by simpa using (by omega : ¬ n = m)
    have h0' : 0 ≤ m := by omega
    cases f0 : (n == 0) with
    | true =>
      obtain rfl : n = 0 := by simpa using f0
      have e2 : (m == 1) = false := by simpa using (by omega : ¬ m = 1)
      go_wp2_with fail
      refine (rdigits_any 0 h0 h1 _).mono ?_
      rintro e2 w2 ⟨rfl, hb2⟩
      go_wp2_with fail
      refine (rdigits_any m h0' hm _).mono ?_
      rintro e3 w3 ⟨rfl, hb3⟩
      have HB := Lib.hid (below_then hb2 hb3)
      clear hb2 hb3
      go_wp2
      go_ret
      exact ⟨congrArg Ending.returned (congrArg Value.string (ByteArray.ext (by simp [ByteArray.data_append, *]))), HB.out⟩
    | false =>
      cases f1 : (n == 1) with
      | true =>
        go_wp2_with fail
        refine (rdigits_any n h0 h1 _).mono ?_
        rintro e2 w2 ⟨rfl, hb2⟩
        go_wp2_with fail
        refine (rdigits_any m h0' hm _).mono ?_
        rintro e3 w3 ⟨rfl, hb3⟩
        have HB := Lib.hid (below_then hb2 hb3)
        clear hb2 hb3
        go_wp2
        go_ret
        exact ⟨congrArg Ending.returned (congrArg Value.string (ByteArray.ext (by simp [ByteArray.data_append, *]))), HB.out⟩
      | false =>
        go_wp2_with fail
        refine (rdigits_any n h0 h1 _).mono ?_
        rintro e2 w2 ⟨rfl, hb2⟩
        go_wp2_with fail
        refine (rdigits_any m h0' hm _).mono ?_
        rintro e3 w3 ⟨rfl, hb3⟩
        have HB := Lib.hid (below_then hb2 hb3)
        clear hb2 hb3
        go_wp2
        go_ret
        exact ⟨congrArg Ending.returned (congrArg Value.string (ByteArray.ext (by simp [ByteArray.data_append, *]))), HB.out⟩
end Go.Proofs.Ytgkfdjfoakbibaa
