/- Plain facts on counts of a pattern: what a text at a place is as counts. No program is in sight. -/
import Derived.WalkKit
namespace Go.Proofs.Ytgkfdjfoakbibaa
namespace BraceP

/-- From, to, where it ends, the error, its place. -/
abbrev R := Int × Int × Int × Int × Int
def isDig (b : UInt8) : Bool := decide (48 ≤ b.toNat) && decide (b.toNat ≤ 57)
def dig (b : UInt8) : Int := (b.toNat : Int) - 48
def full (v d : Int) : Bool := d == 2 || (d == 1 && v == 0)
def most (v d : Int) : Int := if full v d then v else 10 * v + 9
def rd2 (least : Int) : List UInt8 → Int → Int → Int → R
  | [], i, _, _ => (0, 0, 0, 2, i)
  | b :: l, i, v, d =>
    if isDig b then
      if full v d || decide (most (10 * v + dig b) (d + 1) < least) then (0, 0, 0, 6, i + 1) else rd2 least l (i + 1) (10 * v + dig b) (d + 1)
    else if b == 125 && d == 0 then (least, -1, i + 1, 0, 0)
    else if b == 125 && decide (v < least) then (0, 0, 0, 6, i + 1)
    else if b == 125 then (least, v, i + 1, 0, 0)
    else (0, 0, 0, 3, i + 1)
def rd1 : List UInt8 → Int → Int → Int → R
  | [], i, _, _ => (0, 0, 0, 2, i)
  | b :: l, i, v, d =>
    if isDig b then
      if full v d then (0, 0, 0, 6, i + 1) else rd1 l (i + 1) (10 * v + dig b) (d + 1)
    else if decide (0 < d) && b == 125 then (v, v, i + 1, 0, 0)
    else if decide (0 < d) && b == 44 then rd2 v l (i + 1) 0 0
    else (0, 0, 0, 3, i + 1)
def rd0 (b : UInt8) (l : List UInt8) (i : Int) : R :=
  if b == 42 then (0, -1, i, 0, 0) else if b == 43 then (1, -1, i, 0, 0) else if b == 63 then (0, 1, i, 0, 0) else if b == 123 then rd1 l i 0 0 else (0, 0, 0, 1, 0)
def readF (s : List UInt8) (at_ : Int) : R :=
  if at_ < 0 then (0, 0, 0, 1, 0) else match s.drop at_.toNat with
  | [] => (0, 0, 0, 1, 0)
  | b :: l => rd0 b l (at_ + 1)

/-- What is known while a number is read. -/
def Num (v d : Int) : Prop := (d = 0 ∧ v = 0) ∨ (d = 1 ∧ 0 ≤ v ∧ v ≤ 9) ∨ (d = 2 ∧ 10 ≤ v ∧ v ≤ 99)
theorem dig_bd {b : UInt8} (h : isDig b = true) : 0 ≤ dig b ∧ dig b ≤ 9 := by
  unfold isDig at h; simp at h; unfold dig; omega
theorem Num.next {v d : Int} (h : Num v d) (hf : full v d = false) {b : UInt8} (hb : isDig b = true) : Num (10 * v + dig b) (d + 1) := by
  obtain ⟨h0, h9⟩ := dig_bd hb
  unfold full at hf
  simp at hf
  unfold Num at h ⊢
  omega
theorem Num.bd {v d : Int} (h : Num v d) : 0 ≤ v ∧ v ≤ 99 ∧ 0 ≤ d ∧ d ≤ 2 := by unfold Num at h; omega

/-- Counts: the first number is no greater than the second one, both at most 99. -/
def Right (n m : Int) : Prop := 0 ≤ n ∧ n ≤ 99 ∧ (m = -1 ∨ (n ≤ m ∧ m ≤ 99))

/-- What every answer is, behind place i, the text's end being n. -/
def Good (r : R) (i n : Int) : Prop :=
  (r.2.2.2.1 = 0 ∧ Right r.1 r.2.1 ∧ i < r.2.2.1 ∧ r.2.2.1 ≤ n ∧ r.2.2.2.2 = 0) ∨
  (r.2.2.2.1 = 2 ∧ r.1 = 0 ∧ r.2.1 = 0 ∧ r.2.2.1 = 0 ∧ r.2.2.2.2 = n) ∨
  ((r.2.2.2.1 = 3 ∨ r.2.2.2.1 = 6) ∧ r.1 = 0 ∧ r.2.1 = 0 ∧ r.2.2.1 = 0 ∧ i < r.2.2.2.2 ∧ r.2.2.2.2 ≤ n)
theorem Good.up {r : R} {i n : Int} (h : Good r (i + 1) n) : Good r i n := by
  rcases h with ⟨h1, h2, h3, h4, h5⟩ | h | ⟨h1, h2, h3, h4, h5, h6⟩
  · exact .inl ⟨h1, h2, by omega, h4, h5⟩
  · exact .inr (.inl h)
  · exact .inr (.inr ⟨h1, h2, h3, h4, by omega, h6⟩)

theorem rd2_good (least : Int) (h0 : 0 ≤ least) (h1 : least ≤ 99) (l : List UInt8) (i v d : Int) (hn : Num v d) : Good (rd2 least l i v d) i (i + l.length) := by
  induction l generalizing i v d with
  | nil => right; left; simp [rd2]
  | cons b l ih =>
    have hlen : (i + ((b :: l).length : Int)) = i + 1 + (l.length : Int) := by simp; omega
    have hbd := hn.bd
    rw [rd2, hlen]
    by_cases hb : isDig b = true
    · rw [if_pos hb]
      cases hf : full v d with
      | true => simp only [Bool.true_or, if_true]; right; right; simp; omega
      | false =>
        simp only [Bool.false_or, decide_eq_true_eq]
        by_cases hm : most (10 * v + dig b) (d + 1) < least
        · rw [if_pos hm]; right; right; simp; omega
        · rw [if_neg hm]; exact (ih (i + 1) _ _ (hn.next hf hb)).up
    · rw [if_neg hb]
      by_cases h2 : (b == 125 && d == 0) = true
      · rw [if_pos h2]; left; simp [Right]; omega
      · rw [if_neg h2]
        by_cases h3 : (b == 125 && decide (v < least)) = true
        · rw [if_pos h3]; right; right; simp; omega
        · rw [if_neg h3]
          by_cases h4 : (b == 125) = true
          · rw [if_pos h4]; left
            simp [h4] at h3
            simp [Right]; omega
          · rw [if_neg h4]; right; right; simp; omega
theorem rd1_good (l : List UInt8) (i v d : Int) (hn : Num v d) : Good (rd1 l i v d) i (i + l.length) := by
  induction l generalizing i v d with
  | nil => right; left; simp [rd1]
  | cons b l ih =>
    have hlen : (i + ((b :: l).length : Int)) = i + 1 + (l.length : Int) := by simp; omega
    have hbd := hn.bd
    rw [rd1, hlen]
    by_cases hb : isDig b = true
    · rw [if_pos hb]
      cases hf : full v d with
      | true => simp only [if_true]; right; right; simp; omega
      | false =>
        simp only [Bool.false_eq_true, if_false]
        exact (ih (i + 1) _ _ (hn.next hf hb)).up
    · rw [if_neg hb]
      by_cases h2 : (decide (0 < d) && b == 125) = true
      · rw [if_pos h2]; left; simp [Right]; omega
      · rw [if_neg h2]
        by_cases h3 : (decide (0 < d) && b == 44) = true
        · rw [if_pos h3]
          exact (rd2_good v (by omega) (by omega) l (i + 1) 0 0 (.inl ⟨rfl, rfl⟩)).up
        · rw [if_neg h3]; right; right; simp; omega

/-- The text of counts: what the document says. -/
def Known (r : R) (at_ n : Int) : Prop :=
  Good r at_ n ∨ (r = (0, 0, 0, 1, 0))
theorem readF_known (s : List UInt8) (at_ : Int) : Known (readF s at_) at_ s.length := by
  unfold readF
  by_cases h : at_ < 0
  · rw [if_pos h]; exact .inr rfl
  · rw [if_neg h]
    cases hd : s.drop at_.toNat with
    | nil => exact .inr rfl
    | cons b l =>
      have hl : (s.length : Int) = at_ + 1 + l.length := by
        have := congrArg List.length hd
        simp at this
        omega
      simp only [rd0]
      rw [hl]
      by_cases h1 : (b == 42) = true
      · rw [if_pos h1]; left; left; simp [Right]; omega
      rw [if_neg h1]
      by_cases h2 : (b == 43) = true
      · rw [if_pos h2]; left; left; simp [Right]; omega
      rw [if_neg h2]
      by_cases h3 : (b == 63) = true
      · rw [if_pos h3]; left; left; simp [Right]; omega
      rw [if_neg h3]
      by_cases h4 : (b == 123) = true
      · rw [if_pos h4]; left
        exact (rd1_good l (at_ + 1) 0 0 (.inl ⟨rfl, rfl⟩)).up
      · rw [if_neg h4]; exact .inr rfl

/-- How much of the text an answer hangs on. -/
def cutOf (r : R) : Int := if r.2.2.2.1 = 0 then r.2.2.1 else r.2.2.2.2
theorem rd2_sure (least : Int) (l more : List UInt8) (i v d : Int) (hs : (rd2 least l i v d).2.2.2.1 ≠ 2) :
    i < cutOf (rd2 least l i v d) ∧ rd2 least (l.take (cutOf (rd2 least l i v d) - i).toNat ++ more) i v d = rd2 least l i v d := by
  induction l generalizing i v d with
  | nil => simp [rd2] at hs
  | cons b l ih =>
    have h1 : ∀ r : R, cutOf r = i + 1 → (b :: l).take (cutOf r - i).toNat = [b] := fun r h => by rw [h, show (i + 1 - i).toNat = 1 by omega]; simp
    rw [rd2] at hs ⊢
    by_cases hb : isDig b = true
    · rw [if_pos hb] at hs ⊢
      by_cases hc : (full v d || decide (most (10 * v + dig b) (d + 1) < least)) = true
      · rw [if_pos hc] at hs ⊢
        rw [h1 _ rfl]
        refine ⟨by simp [cutOf]; omega, ?_⟩
        simp [rd2, hb, hc]
      · rw [if_neg hc] at hs ⊢
        obtain ⟨h3, h4⟩ := ih (i + 1) _ _ hs
        refine ⟨by omega, ?_⟩
        obtain ⟨k, hk⟩ : ∃ k : Nat, (cutOf (rd2 least l (i + 1) (10 * v + dig b) (d + 1)) - i).toNat = k + 1 := ⟨(cutOf (rd2 least l (i + 1) (10 * v + dig b) (d + 1)) - (i + 1)).toNat, by omega⟩
        rw [hk, List.take_succ_cons, List.cons_append, rd2, if_pos hb, if_neg hc]
        rw [show (cutOf (rd2 least l (i + 1) (10 * v + dig b) (d + 1)) - (i + 1)).toNat = k by omega] at h4
        exact h4
    · rw [if_neg hb] at hs ⊢
      by_cases h2 : (b == 125 && d == 0) = true
      · rw [if_pos h2] at hs ⊢
        rw [h1 _ rfl]
        exact ⟨by simp [cutOf]; omega, by rw [List.cons_append, rd2, if_neg hb, if_pos h2]⟩
      · rw [if_neg h2] at hs ⊢
        by_cases h3 : (b == 125 && decide (v < least)) = true
        · rw [if_pos h3] at hs ⊢
          rw [h1 _ rfl]
          exact ⟨by simp [cutOf]; omega, by rw [List.cons_append, rd2, if_neg hb, if_neg h2, if_pos h3]⟩
        · rw [if_neg h3] at hs ⊢
          by_cases h4 : (b == 125) = true
          · rw [if_pos h4] at hs ⊢
            rw [h1 _ rfl]
            exact ⟨by simp [cutOf]; omega, by rw [List.cons_append, rd2, if_neg hb, if_neg h2, if_neg h3, if_pos h4]⟩
          · rw [if_neg h4] at hs ⊢
            rw [h1 _ rfl]
            exact ⟨by simp [cutOf]; omega, by rw [List.cons_append, rd2, if_neg hb, if_neg h2, if_neg h3, if_neg h4]⟩
theorem rd1_sure (l more : List UInt8) (i v d : Int) (hs : (rd1 l i v d).2.2.2.1 ≠ 2) :
    i < cutOf (rd1 l i v d) ∧ rd1 (l.take (cutOf (rd1 l i v d) - i).toNat ++ more) i v d = rd1 l i v d := by
  induction l generalizing i v d with
  | nil => simp [rd1] at hs
  | cons b l ih =>
    have h1 : ∀ r : R, cutOf r = i + 1 → (b :: l).take (cutOf r - i).toNat = [b] := fun r h => by rw [h, show (i + 1 - i).toNat = 1 by omega]; simp
    rw [rd1] at hs ⊢
    by_cases hb : isDig b = true
    · rw [if_pos hb] at hs ⊢
      by_cases hc : full v d = true
      · rw [if_pos hc] at hs ⊢
        rw [h1 _ rfl]
        exact ⟨by simp [cutOf]; omega, by rw [List.cons_append, rd1, if_pos hb, if_pos hc]⟩
      · rw [if_neg hc] at hs ⊢
        obtain ⟨h3, h4⟩ := ih (i + 1) _ _ hs
        refine ⟨by omega, ?_⟩
        obtain ⟨k, hk⟩ : ∃ k : Nat, (cutOf (rd1 l (i + 1) (10 * v + dig b) (d + 1)) - i).toNat = k + 1 := ⟨(cutOf (rd1 l (i + 1) (10 * v + dig b) (d + 1)) - (i + 1)).toNat, by omega⟩
        rw [hk, List.take_succ_cons, List.cons_append, rd1, if_pos hb, if_neg hc]
        rw [show (cutOf (rd1 l (i + 1) (10 * v + dig b) (d + 1)) - (i + 1)).toNat = k by omega] at h4
        exact h4
    · rw [if_neg hb] at hs ⊢
      by_cases h2 : (decide (0 < d) && b == 125) = true
      · rw [if_pos h2] at hs ⊢
        rw [h1 _ rfl]
        exact ⟨by simp [cutOf]; omega, by rw [List.cons_append, rd1, if_neg hb, if_pos h2]⟩
      · rw [if_neg h2] at hs ⊢
        by_cases h3 : (decide (0 < d) && b == 44) = true
        · rw [if_pos h3] at hs ⊢
          obtain ⟨h4, h5⟩ := rd2_sure v l more (i + 1) 0 0 hs
          refine ⟨by omega, ?_⟩
          obtain ⟨k, hk⟩ : ∃ k : Nat, (cutOf (rd2 v l (i + 1) 0 0) - i).toNat = k + 1 := ⟨(cutOf (rd2 v l (i + 1) 0 0) - (i + 1)).toNat, by omega⟩
          rw [hk, List.take_succ_cons, List.cons_append, rd1, if_neg hb, if_neg h2, if_pos h3]
          rw [show (cutOf (rd2 v l (i + 1) 0 0) - (i + 1)).toNat = k by omega] at h5
          exact h5
        · rw [if_neg h3] at hs ⊢
          rw [h1 _ rfl]
          exact ⟨by simp [cutOf]; omega, by rw [List.cons_append, rd1, if_neg hb, if_neg h2, if_neg h3]⟩
theorem readF_sure (s more : List UInt8) (at_ : Int) (h1 : (readF s at_).2.2.2.1 ≠ 1) (h2 : (readF s at_).2.2.2.1 ≠ 2) : readF (s.take (cutOf (readF s at_)).toNat ++ more) at_ = readF s at_ := by
  have hk := readF_known s at_
  unfold readF at h1 h2 hk ⊢
  by_cases h : at_ < 0
  · rw [if_pos h] at h1; exact absurd rfl h1
  rw [if_neg h] at h1 h2 hk ⊢
  rw [if_neg h]
  cases hd : s.drop at_.toNat with
  | nil => rw [hd] at h1; exact absurd rfl h1
  | cons b l =>
    rw [hd] at h1 h2 hk
    simp only at h1 h2 hk ⊢
    have hlen : at_.toNat < s.length := by
      have := congrArg List.length hd
      simp at this; omega
    have key : at_ + 1 ≤ cutOf (rd0 b l (at_ + 1)) → rd0 b (l.take (cutOf (rd0 b l (at_ + 1)) - (at_ + 1)).toNat ++ more) (at_ + 1) = rd0 b l (at_ + 1) →
        (match (s.take (cutOf (rd0 b l (at_ + 1))).toNat ++ more).drop at_.toNat with | [] => ((0, 0, 0, 1, 0) : R) | b :: l => rd0 b l (at_ + 1)) = rd0 b l (at_ + 1) := by
      intro g1 g2
      have e : (s.take (cutOf (rd0 b l (at_ + 1))).toNat ++ more).drop at_.toNat = b :: (l.take (cutOf (rd0 b l (at_ + 1)) - (at_ + 1)).toNat ++ more) := by
        rw [List.drop_append_of_le_length (by simp; omega), List.drop_take, hd]
        obtain ⟨k, hk⟩ : ∃ k : Nat, (cutOf (rd0 b l (at_ + 1))).toNat - at_.toNat = k + 1 := ⟨(cutOf (rd0 b l (at_ + 1)) - (at_ + 1)).toNat, by omega⟩
        rw [hk, List.take_succ_cons, List.cons_append, show (cutOf (rd0 b l (at_ + 1)) - (at_ + 1)).toNat = k by omega]
      rw [e]
      exact g2
    by_cases c1 : (b == 42) = true
    · refine key ?_ ?_ <;> simp [rd0, c1, cutOf]
    by_cases c2 : (b == 43) = true
    · refine key ?_ ?_ <;> simp [rd0, c1, c2, cutOf]
    by_cases c3 : (b == 63) = true
    · refine key ?_ ?_ <;> simp [rd0, c1, c2, c3, cutOf]
    by_cases c4 : (b == 123) = true
    · have e : ∀ l', rd0 b l' (at_ + 1) = rd1 l' (at_ + 1) 0 0 := fun l' => by simp [rd0, c1, c2, c3, c4]
      rw [e] at h1 h2 hk
      obtain ⟨g1, g2⟩ := rd1_sure l more (at_ + 1) 0 0 h2
      refine key (by rw [e]; omega) ?_
      rw [e, e]; exact g2
    · exfalso
      apply h1
      simp [rd0, c1, c2, c3, c4]

end BraceP
end Go.Proofs.Ytgkfdjfoakbibaa
