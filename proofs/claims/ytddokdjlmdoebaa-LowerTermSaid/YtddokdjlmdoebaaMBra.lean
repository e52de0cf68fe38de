/- Plain facts on counts of a pattern: what a text at a place is as counts. No program is in sight. -/
import Derived.WalkKit
import Derived.Test.YtddokdjlmdoebaaProg
import Derived.WalkSpells
import Derived.WalkLawsBesides
import Derived.Handy
import Derived.Lib.Hide
import Derived.Test.YtddokdjlmdoebaaMMem
set_option linter.unusedVariables false
set_option linter.unusedSimpArgs false
namespace Go.Proofs.Ytddokdjlmdoebaa
namespace BraceP

/-- From, to, where it ends, the error, its place. -/
abbrev R := Int × Int × Int × Int × Int
def isDig (b : UInt8) : Bool := decide (48 ≤ b.toNat) && decide (b.toNat ≤ 57)
def dig (b : UInt8) : Int := (b.toNat : Int) - 48
def full (v d : Int) : Bool := d == 2 || (d == 1 && v == 0)
def most (v d : Int) : Int := if full v d then v else 10 * v + 9
def rd2 (least : Int) : List UInt8 → Int → Int → Int → R
  | [], i, _, _ => (0, 0, 0, 2, i)
  | b :: l, i, v, d =>
    if isDig b then
      if full v d || decide (most (10 * v + dig b) (d + 1) < least) then (0, 0, 0, 6, i + 1) else rd2 least l (i + 1) (10 * v + dig b) (d + 1)
    else if b == 125 && d == 0 then (least, -1, i + 1, 0, 0)
    else if b == 125 && decide (v < least) then (0, 0, 0, 6, i + 1)
    else if b == 125 then (least, v, i + 1, 0, 0)
    else (0, 0, 0, 3, i + 1)
def rd1 : List UInt8 → Int → Int → Int → R
  | [], i, _, _ => (0, 0, 0, 2, i)
  | b :: l, i, v, d =>
    if isDig b then
      if full v d then (0, 0, 0, 6, i + 1) else rd1 l (i + 1) (10 * v + dig b) (d + 1)
    else if decide (0 < d) && b == 125 then (v, v, i + 1, 0, 0)
    else if decide (0 < d) && b == 44 then rd2 v l (i + 1) 0 0
    else (0, 0, 0, 3, i + 1)
def rd0 (b : UInt8) (l : List UInt8) (i : Int) : R :=
  if b == 42 then (0, -1, i, 0, 0) else if b == 43 then (1, -1, i, 0, 0) else if b == 63 then (0, 1, i, 0, 0) else if b == 123 then rd1 l i 0 0 else (0, 0, 0, 1, 0)
def readF (s : List UInt8) (at_ : Int) : R :=
  if at_ < 0 then (0, 0, 0, 1, 0) else match s.drop at_.toNat with
  | [] => (0, 0, 0, 1, 0)
  | b :: l => rd0 b l (at_ + 1)

/-- What is known while a number is read. -/
def Num (v d : Int) : Prop := (d = 0 ∧ v = 0) ∨ (d = 1 ∧ 0 ≤ v ∧ v ≤ 9) ∨ (d = 2 ∧ 10 ≤ v ∧ v ≤ 99)
theorem dig_bd {b : UInt8} (h : isDig b = true) : 0 ≤ dig b ∧ dig b ≤ 9 := by
  unfold isDig at h; simp at h; unfold dig; omega
theorem Num.next {v d : Int} (h : Num v d) (hf : full v d = false) {b : UInt8} (hb : isDig b = true) : Num (10 * v + dig b) (d + 1) := by
  obtain ⟨h0, h9⟩ := dig_bd hb
  unfold full at hf
  simp at hf
  unfold Num at h ⊢
  omega
theorem Num.bd {v d : Int} (h : Num v d) : 0 ≤ v ∧ v ≤ 99 ∧ 0 ≤ d ∧ d ≤ 2 := by unfold Num at h; omega

/-- Counts: the first number is no greater than the second one, both at most 99. -/
def Right (n m : Int) : Prop := 0 ≤ n ∧ n ≤ 99 ∧ (m = -1 ∨ (n ≤ m ∧ m ≤ 99))

/-- What every answer is, behind place i, the text's end being n. -/
def Good (r : R) (i n : Int) : Prop :=
  (r.2.2.2.1 = 0 ∧ Right r.1 r.2.1 ∧ i < r.2.2.1 ∧ r.2.2.1 ≤ n ∧ r.2.2.2.2 = 0) ∨
  (r.2.2.2.1 = 2 ∧ r.1 = 0 ∧ r.2.1 = 0 ∧ r.2.2.1 = 0 ∧ r.2.2.2.2 = n) ∨
  ((r.2.2.2.1 = 3 ∨ r.2.2.2.1 = 6) ∧ r.1 = 0 ∧ r.2.1 = 0 ∧ r.2.2.1 = 0 ∧ i < r.2.2.2.2 ∧ r.2.2.2.2 ≤ n)
theorem Good.up {r : R} {i n : Int} (h : Good r (i + 1) n) : Good r i n := by
  rcases h with ⟨h1, h2, h3, h4, h5⟩ | h | ⟨h1, h2, h3, h4, h5, h6⟩
  · exact .inl ⟨h1, h2, by omega, h4, h5⟩
  · exact .inr (.inl h)
  · exact .inr (.inr ⟨h1, h2, h3, h4, by omega, h6⟩)

theorem rd2_good (least : Int) (h0 : 0 ≤ least) (h1 : least ≤ 99) (l : List UInt8) (i v d : Int) (hn : Num v d) : Good (rd2 least l i v d) i (i + l.length) := by
  induction l generalizing i v d with
  | nil => right; left; simp [rd2]
  | cons b l ih =>
    have hlen : (i + ((b :: l).length : Int)) = i + 1 + (l.length : Int) := by simp; omega
    have hbd := hn.bd
    rw [rd2, hlen]
    by_cases hb : isDig b = true
    · rw [if_pos hb]
      cases hf : full v d with
      | true => simp only [Bool.true_or, if_true]; right; right; simp; omega
      | false =>
        simp only [Bool.false_or, decide_eq_true_eq]
        by_cases hm : most (10 * v + dig b) (d + 1) < least
        · rw [if_pos hm]; right; right; simp; omega
        · rw [if_neg hm]; exact (ih (i + 1) _ _ (hn.next hf hb)).up
    · rw [if_neg hb]
      by_cases h2 : (b == 125 && d == 0) = true
      · rw [if_pos h2]; left; simp [Right]; omega
      · rw [if_neg h2]
        by_cases h3 : (b == 125 && decide (v < least)) = true
        · rw [if_pos h3]; right; right; simp; omega
        · rw [if_neg h3]
          by_cases h4 : (b == 125) = true
          · rw [if_pos h4]; left
            simp [h4] at h3
            simp [Right]; omega
          · rw [if_neg h4]; right; right; simp; omega
theorem rd1_good (l : List UInt8) (i v d : Int) (hn : Num v d) : Good (rd1 l i v d) i (i + l.length) := by
  induction l generalizing i v d with
  | nil => right; left; simp [rd1]
  | cons b l ih =>
    have hlen : (i + ((b :: l).length : Int)) = i + 1 + (l.length : Int) := by simp; omega
    have hbd := hn.bd
    rw [rd1, hlen]
    by_cases hb : isDig b = true
    · rw [if_pos hb]
      cases hf : full v d with
      | true => simp only [if_true]; right; right; simp; omega
      | false =>
        simp only [Bool.false_eq_true, if_false]
        exact (ih (i + 1) _ _ (hn.next hf hb)).up
    · rw [if_neg hb]
      by_cases h2 : (decide (0 < d) && b == 125) = true
      · rw [if_pos h2]; left; simp [Right]; omega
      · rw [if_neg h2]
        by_cases h3 : (decide (0 < d) && b == 44) = true
        · rw [if_pos h3]
          exact (rd2_good v (by omega) (by omega) l (i + 1) 0 0 (.inl ⟨rfl, rfl⟩)).up
        · rw [if_neg h3]; right; right; simp; omega

/-- The text of counts: what the document says. -/
def Known (r : R) (at_ n : Int) : Prop :=
  Good r at_ n ∨ (r = (0, 0, 0, 1, 0))
theorem readF_known (s : List UInt8) (at_ : Int) : Known (readF s at_) at_ s.length := by
  unfold readF
  by_cases h : at_ < 0
  · rw [if_pos h]; exact .inr rfl
  · rw [if_neg h]
    cases hd : s.drop at_.toNat with
    | nil => exact .inr rfl
    | cons b l =>
      have hl : (s.length : Int) = at_ + 1 + l.length := by
        have := congrArg List.length hd
        simp at this
        omega
      simp only [rd0]
      rw [hl]
      by_cases h1 : (b == 42) = true
      · rw [if_pos h1]; left; left; simp [Right]; omega
      rw [if_neg h1]
      by_cases h2 : (b == 43) = true
      · rw [if_pos h2]; left; left; simp [Right]; omega
      rw [if_neg h2]
      by_cases h3 : (b == 63) = true
      · rw [if_pos h3]; left; left; simp [Right]; omega
      rw [if_neg h3]
      by_cases h4 : (b == 123) = true
      · rw [if_pos h4]; left
        exact (rd1_good l (at_ + 1) 0 0 (.inl ⟨rfl, rfl⟩)).up
      · rw [if_neg h4]; exact .inr rfl

/-- How much of the text an answer hangs on. -/
def cutOf (r : R) : Int := if r.2.2.2.1 = 0 then r.2.2.1 else r.2.2.2.2
theorem rd2_sure (least : Int) (l more : List UInt8) (i v d : Int) (hs : (rd2 least l i v d).2.2.2.1 ≠ 2) :
    i < cutOf (rd2 least l i v d) ∧ rd2 least (l.take (cutOf (rd2 least l i v d) - i).toNat ++ more) i v d = rd2 least l i v d := by
  induction l generalizing i v d with
  | nil => simp [rd2] at hs
  | cons b l ih =>
    have h1 : ∀ r : R, cutOf r = i + 1 → (b :: l).take (cutOf r - i).toNat = [b] := fun r h => by rw [h, show (i + 1 - i).toNat = 1 by omega]; simp
    rw [rd2] at hs ⊢
    by_cases hb : isDig b = true
    · rw [if_pos hb] at hs ⊢
      by_cases hc : (full v d || decide (most (10 * v + dig b) (d + 1) < least)) = true
      · rw [if_pos hc] at hs ⊢
        rw [h1 _ rfl]
        refine ⟨by simp [cutOf]; omega, ?_⟩
        simp [rd2, hb, hc]
      · rw [if_neg hc] at hs ⊢
        obtain ⟨h3, h4⟩ := ih (i + 1) _ _ hs
        refine ⟨by omega, ?_⟩
        obtain ⟨k, hk⟩ : ∃ k : Nat, (cutOf (rd2 least l (i + 1) (10 * v + dig b) (d + 1)) - i).toNat = k + 1 := ⟨(cutOf (rd2 least l (i + 1) (10 * v + dig b) (d + 1)) - (i + 1)).toNat, by omega⟩
        rw [hk, List.take_succ_cons, List.cons_append, rd2, if_pos hb, if_neg hc]
        rw [show (cutOf (rd2 least l (i + 1) (10 * v + dig b) (d + 1)) - (i + 1)).toNat = k by omega] at h4
        exact h4
    · rw [if_neg hb] at hs ⊢
      by_cases h2 : (b == 125 && d == 0) = true
      · rw [if_pos h2] at hs ⊢
        rw [h1 _ rfl]
        exact ⟨by simp [cutOf]; omega, by rw [List.cons_append, rd2, if_neg hb, if_pos h2]⟩
      · rw [if_neg h2] at hs ⊢
        by_cases h3 : (b == 125 && decide (v < least)) = true
        · rw [if_pos h3] at hs ⊢
          rw [h1 _ rfl]
          exact ⟨by simp [cutOf]; omega, by rw [List.cons_append, rd2, if_neg hb, if_neg h2, if_pos h3]⟩
        · rw [if_neg h3] at hs ⊢
          by_cases h4 : (b == 125) = true
          · rw [if_pos h4] at hs ⊢
            rw [h1 _ rfl]
            exact ⟨by simp [cutOf]; omega, by rw [List.cons_append, rd2, if_neg hb, if_neg h2, if_neg h3, if_pos h4]⟩
          · rw [if_neg h4] at hs ⊢
            rw [h1 _ rfl]
            exact ⟨by simp [cutOf]; omega, by rw [List.cons_append, rd2, if_neg hb, if_neg h2, if_neg h3, if_neg h4]⟩
theorem rd1_sure (l more : List UInt8) (i v d : Int) (hs : (rd1 l i v d).2.2.2.1 ≠ 2) :
    i < cutOf (rd1 l i v d) ∧ rd1 (l.take (cutOf (rd1 l i v d) - i).toNat ++ more) i v d = rd1 l i v d := by
  induction l generalizing i v d with
  | nil => simp [rd1] at hs
  | cons b l ih =>
    have h1 : ∀ r : R, cutOf r = i + 1 → (b :: l).take (cutOf r - i).toNat = [b] := fun r h => by rw [h, show (i + 1 - i).toNat = 1 by omega]; simp
    rw [rd1] at hs ⊢
    by_cases hb : isDig b = true
    · rw [if_pos hb] at hs ⊢
      by_cases hc : full v d = true
      · rw [if_pos hc] at hs ⊢
        rw [h1 _ rfl]
        exact ⟨by simp [cutOf]; omega, by rw [List.cons_append, rd1, if_pos hb, if_pos hc]⟩
      · rw [if_neg hc] at hs ⊢
        obtain ⟨h3, h4⟩ := ih (i + 1) _ _ hs
        refine ⟨by omega, ?_⟩
        obtain ⟨k, hk⟩ : ∃ k : Nat, (cutOf (rd1 l (i + 1) (10 * v + dig b) (d + 1)) - i).toNat = k + 1 := ⟨(cutOf (rd1 l (i + 1) (10 * v + dig b) (d + 1)) - (i + 1)).toNat, by omega⟩
        rw [hk, List.take_succ_cons, List.cons_append, rd1, if_pos hb, if_neg hc]
        rw [show (cutOf (rd1 l (i + 1) (10 * v + dig b) (d + 1)) - (i + 1)).toNat = k by omega] at h4
        exact h4
    · rw [if_neg hb] at hs ⊢
      by_cases h2 : (decide (0 < d) && b == 125) = true
      · rw [if_pos h2] at hs ⊢
        rw [h1 _ rfl]
        exact ⟨by simp [cutOf]; omega, by rw [List.cons_append, rd1, if_neg hb, if_pos h2]⟩
      · rw [if_neg h2] at hs ⊢
        by_cases h3 : (decide (0 < d) && b == 44) = true
        · rw [if_pos h3] at hs ⊢
          obtain ⟨h4, h5⟩ := rd2_sure v l more (i + 1) 0 0 hs
          refine ⟨by omega, ?_⟩
          obtain ⟨k, hk⟩ : ∃ k : Nat, (cutOf (rd2 v l (i + 1) 0 0) - i).toNat = k + 1 := ⟨(cutOf (rd2 v l (i + 1) 0 0) - (i + 1)).toNat, by omega⟩
          rw [hk, List.take_succ_cons, List.cons_append, rd1, if_neg hb, if_neg h2, if_pos h3]
          rw [show (cutOf (rd2 v l (i + 1) 0 0) - (i + 1)).toNat = k by omega] at h5
          exact h5
        · rw [if_neg h3] at hs ⊢
          rw [h1 _ rfl]
          exact ⟨by simp [cutOf]; omega, by rw [List.cons_append, rd1, if_neg hb, if_neg h2, if_neg h3]⟩
theorem readF_sure (s more : List UInt8) (at_ : Int) (h1 : (readF s at_).2.2.2.1 ≠ 1) (h2 : (readF s at_).2.2.2.1 ≠ 2) : readF (s.take (cutOf (readF s at_)).toNat ++ more) at_ = readF s at_ := by
  have hk := readF_known s at_
  unfold readF at h1 h2 hk ⊢
  by_cases h : at_ < 0
  · rw [if_pos h] at h1; exact absurd rfl h1
  rw [if_neg h] at h1 h2 hk ⊢
  rw [if_neg h]
  cases hd : s.drop at_.toNat with
  | nil => rw [hd] at h1; exact absurd rfl h1
  | cons b l =>
    rw [hd] at h1 h2 hk
    simp only at h1 h2 hk ⊢
    have hlen : at_.toNat < s.length := by
      have := congrArg List.length hd
      simp at this; omega
    have key : at_ + 1 ≤ cutOf (rd0 b l (at_ + 1)) → rd0 b (l.take (cutOf (rd0 b l (at_ + 1)) - (at_ + 1)).toNat ++ more) (at_ + 1) = rd0 b l (at_ + 1) →
        (match (s.take (cutOf (rd0 b l (at_ + 1))).toNat ++ more).drop at_.toNat with | [] => ((0, 0, 0, 1, 0) : R) | b :: l => rd0 b l (at_ + 1)) = rd0 b l (at_ + 1) := by
      intro g1 g2
      have e : (s.take (cutOf (rd0 b l (at_ + 1))).toNat ++ more).drop at_.toNat = b :: (l.take (cutOf (rd0 b l (at_ + 1)) - (at_ + 1)).toNat ++ more) := by
        rw [List.drop_append_of_le_length (by simp; omega), List.drop_take, hd]
        obtain ⟨k, hk⟩ : ∃ k : Nat, (cutOf (rd0 b l (at_ + 1))).toNat - at_.toNat = k + 1 := ⟨(cutOf (rd0 b l (at_ + 1)) - (at_ + 1)).toNat, by omega⟩
        rw [hk, List.take_succ_cons, List.cons_append, show (cutOf (rd0 b l (at_ + 1)) - (at_ + 1)).toNat = k by omega]
      rw [e]
      exact g2
    by_cases c1 : (b == 42) = true
    · refine key ?_ ?_ <;> simp [rd0, c1, cutOf]
    by_cases c2 : (b == 43) = true
    · refine key ?_ ?_ <;> simp [rd0, c1, c2, cutOf]
    by_cases c3 : (b == 63) = true
    · refine key ?_ ?_ <;> simp [rd0, c1, c2, c3, cutOf]
    by_cases c4 : (b == 123) = true
    · have e : ∀ l', rd0 b l' (at_ + 1) = rd1 l' (at_ + 1) 0 0 := fun l' => by simp [rd0, c1, c2, c3, c4]
      rw [e] at h1 h2 hk
      obtain ⟨g1, g2⟩ := rd1_sure l more (at_ + 1) 0 0 h2
      refine key (by rw [e]; omega) ?_
      rw [e, e]; exact g2
    · exfalso
      apply h1
      simp [rd0, c1, c2, c3, c4]

end BraceP
end Go.Proofs.Ytddokdjlmdoebaa

/- Plain facts: what lacks to counts that end too early. No program is in sight. -/
namespace Go.Proofs.Ytddokdjlmdoebaa
open BraceP

/-- What is put behind. -/
def lacks : List (List UInt8) := [[125], [48, 125], [57, 125]]
def Ends (r : R) (e : Int) : Prop := r.2.2.2.1 = 0 ∧ r.2.2.1 = e
theorem dig48 : isDig 48 = true ∧ dig 48 = 0 := by decide
theorem dig57 : isDig 57 = true ∧ dig 57 = 9 := by decide
theorem dig125 : isDig 125 = false := by decide
theorem rd2_lack (least : Int) (hl : least ≤ 99) (l : List UInt8) (i v d : Int) (hn : Num v d) (hv : d = 0 ∨ least ≤ most v d) (hs : (rd2 least l i v d).2.2.2.1 = 2) :
    ∃ c ∈ lacks, Ends (rd2 least (l ++ c) i v d) (i + l.length + c.length) := by
  induction l generalizing i v d with
  | nil =>
    by_cases h0 : d = 0
    · refine ⟨[125], by simp [lacks], ?_⟩
      rw [List.nil_append, rd2, dig125, if_neg (by simp), if_pos (by simp [h0])]
      exact ⟨rfl, by simp⟩
    · have hm : least ≤ most v d := by omega
      by_cases hvl : least ≤ v
      · refine ⟨[125], by simp [lacks], ?_⟩
        rw [List.nil_append, rd2, dig125, if_neg (by simp), if_neg (by simp [h0]), if_neg (by simp; omega), if_pos (by simp)]
        exact ⟨rfl, by simp⟩
      · have hf : full v d = false := by
          cases hf : full v d with
          | false => rfl
          | true => rw [most, if_pos hf] at hm; omega
        have hm' : least ≤ 10 * v + 9 := by rw [most, if_neg (by rw [hf]; simp)] at hm; exact hm
        have hd1 : d = 1 := by
          unfold Num at hn; unfold full at hf; simp at hf; omega
        subst hd1
        refine ⟨[57, 125], by simp [lacks], ?_⟩
        have hmm : ¬ most (10 * v + 9) (1 + 1) < least := by rw [most, if_pos (by simp [full])]; omega
        rw [List.nil_append, rd2, dig57.1, dig57.2, if_pos rfl, if_neg (by rw [hf, decide_eq_false hmm]; simp), rd2, dig125, if_neg (by simp), if_neg (by simp), if_neg (by simp; omega), if_pos (by simp)]
        exact ⟨rfl, by simp; omega⟩
  | cons b l ih =>
    have hlen : ∀ c : List UInt8, i + ((b :: l).length : Int) + c.length = i + 1 + l.length + c.length := fun c => by simp; omega
    simp only [hlen, List.cons_append]
    rw [rd2] at hs
    simp only [rd2]
    by_cases hb : isDig b = true
    · rw [if_pos hb] at hs
      simp only [if_pos hb]
      by_cases hc : (full v d || decide (most (10 * v + dig b) (d + 1) < least)) = true
      · rw [if_pos hc] at hs; simp at hs
      · rw [if_neg hc] at hs
        simp only [if_neg hc]
        simp at hc
        exact ih (i + 1) _ _ (hn.next hc.1 hb) (.inr hc.2) hs
    · rw [if_neg hb] at hs
      split at hs
      · simp at hs
      · split at hs
        · simp at hs
        · split at hs <;> simp at hs
theorem rd1_lack (l : List UInt8) (i v d : Int) (hn : Num v d) (hs : (rd1 l i v d).2.2.2.1 = 2) :
    ∃ c ∈ lacks, Ends (rd1 (l ++ c) i v d) (i + l.length + c.length) := by
  induction l generalizing i v d with
  | nil =>
    by_cases h0 : d = 0
    · have hv : v = 0 := by unfold Num at hn; omega
      subst h0 hv
      exact ⟨[48, 125], by simp [lacks], by
        rw [List.nil_append, rd1, dig48.1, dig48.2, if_pos rfl, if_neg (by decide), rd1, dig125, if_neg (by simp), if_pos (by decide)]
        exact ⟨rfl, by simp; omega⟩⟩
    · have hd : 0 < d := by have := hn.bd; omega
      refine ⟨[125], by simp [lacks], ?_⟩
      rw [List.nil_append, rd1, dig125, if_neg (by simp), if_pos (by simp [hd])]
      exact ⟨rfl, by simp⟩
  | cons b l ih =>
    have hlen : ∀ c : List UInt8, i + ((b :: l).length : Int) + c.length = i + 1 + l.length + c.length := fun c => by simp; omega
    simp only [hlen, List.cons_append]
    rw [rd1] at hs
    simp only [rd1]
    have hbd := hn.bd
    by_cases hb : isDig b = true
    · rw [if_pos hb] at hs
      simp only [if_pos hb]
      by_cases hc : full v d = true
      · rw [if_pos hc] at hs; simp at hs
      · rw [if_neg hc] at hs
        simp only [if_neg hc]
        exact ih (i + 1) _ _ (hn.next (by simpa using hc) hb) hs
    · rw [if_neg hb] at hs
      simp only [if_neg hb]
      by_cases h2 : (decide (0 < d) && b == 125) = true
      · rw [if_pos h2] at hs; simp at hs
      · rw [if_neg h2] at hs
        simp only [if_neg h2]
        by_cases h3 : (decide (0 < d) && b == 44) = true
        · rw [if_pos h3] at hs
          simp only [if_pos h3]
          exact rd2_lack v (by omega) l (i + 1) 0 0 (.inl ⟨rfl, rfl⟩) (.inl rfl) hs
        · rw [if_neg h3] at hs; simp at hs
theorem readF_lack (s : List UInt8) (i : Int) (hs : (readF s i).2.2.2.1 = 2) : ∃ c ∈ lacks, Ends (readF (s ++ c) i) (s.length + c.length) := by
  unfold readF at hs ⊢
  by_cases h : i < 0
  · rw [if_pos h] at hs; simp at hs
  rw [if_neg h] at hs
  simp only [if_neg h]
  cases hd : s.drop i.toNat with
  | nil => rw [hd] at hs; simp at hs
  | cons b l =>
    rw [hd] at hs
    simp only at hs
    have hl : (s.length : Int) = i + 1 + l.length := by
      have := congrArg List.length hd
      simp at this; omega
    have hlt : i.toNat ≤ s.length := by omega
    have e : ∀ c, (s ++ c).drop i.toNat = b :: (l ++ c) := fun c => by rw [List.drop_append_of_le_length hlt, hd]; rfl
    simp only [e, hl]
    by_cases c1 : (b == 42) = true
    · simp [rd0, c1] at hs
    by_cases c2 : (b == 43) = true
    · simp [rd0, c1, c2] at hs
    by_cases c3 : (b == 63) = true
    · simp [rd0, c1, c2, c3] at hs
    by_cases c4 : (b == 123) = true
    · have e : ∀ l', rd0 b l' (i + 1) = rd1 l' (i + 1) 0 0 := fun l' => by simp [rd0, c1, c2, c3, c4]
      rw [e] at hs
      simp only [e]
      exact rd1_lack l (i + 1) 0 0 (.inl ⟨rfl, rfl⟩) hs
    · simp [rd0, c1, c2, c3, c4] at hs
end Go.Proofs.Ytddokdjlmdoebaa

/- Walks of the package brace: reading counts. -/
namespace Go.Proofs.Ytddokdjlmdoebaa
open Go.RowKit BraceP

/-- An answer of Read. -/
abbrev resV (r : R) : Value := .tuple #[.agg #[.int .i64 r.1, .int .i64 r.2.1], .int .i64 r.2.2.1, .int .i64 r.2.2.2.1, .int .i64 r.2.2.2.2]

set_option maxRecDepth 100000 in
set_option maxHeartbeats 2000000 in
theorem digit_any (b : UInt8) (w : World) : Calls Try.prog 179 #[.int .u8 (b.toNat : Int)] w fun e w' => e = .returned (.bool (isDig b)) ∧ w = w' := by
  have hd : isDig b = (decide (48 ≤ (b.toNat : Int)) && decide ((b.toNat : Int) ≤ 57)) := by
    unfold isDig; rw [Bool.eq_iff_iff]; simp; omega
  have HD := Lib.hid hd; clear hd
  rw [HD.out]
  by_cases h1 : 48 ≤ (b.toNat : Int)
  · by_cases h2 : (b.toNat : Int) ≤ 57
    · have e1 : decide (48 ≤ (b.toNat : Int)) = true := by simpa using h1
      have e2 : decide ((b.toNat : Int) ≤ 57) = true := by simpa using h2
      go_enter Try.func179, Try.ntmps179
      go_wp2
      go_ret
      exact ⟨by simp [e1, e2], rfl⟩
    · have e1 : decide (48 ≤ (b.toNat : Int)) = true := by simpa using h1
      have e2 : decide ((b.toNat : Int) ≤ 57) = false := by simpa using h2
      go_enter Try.func179, Try.ntmps179
      go_wp2
      go_ret
      exact ⟨by simp [e1, e2], rfl⟩
  · have e1 : decide (48 ≤ (b.toNat : Int)) = false := by simpa using h1
    go_enter Try.func179, Try.ntmps179
    go_wp2
    go_ret
    exact ⟨by simp [e1], rfl⟩

set_option maxRecDepth 100000 in
set_option maxHeartbeats 2000000 in
theorem full_any (v d : Int) (w : World) : Calls Try.prog 180 #[.agg #[.int .i64 (v), .int .i64 (d)]] w fun e w' => e = .returned (.bool (full v d)) ∧ Below w.heap.size w w' := by
  by_cases h1 : d = 2
  · have e1 : (d == 2) = true := by simpa using h1
    have H := Lib.hid h1; clear h1
    go_enter Try.func180, Try.ntmps180
    go_wp2
    go_ret
    exact ⟨by unfold full; rw [e1]; rfl, by (repeat' (first | (with_reducible exact Below.refl _ _) | (with_reducible assumption) | (with_reducible refine Below.alloc ?_ ?_ _) | (with_reducible refine Below.drew ?_) | (with_reducible refine below_set ?_ ?_ _) | (with_reducible refine below_call ?_ ?_ (by assumption)) | (with_reducible exact Below.size (by assumption)) | omega | go_size))⟩
  · have e1 : (d == 2) = false := by simpa using h1
    by_cases h2 : d = 1
    · have e2 : (d == 1) = true := by simpa using h2
      have H := Lib.hid h2; clear h2 h1
      go_enter Try.func180, Try.ntmps180
      go_wp2
      go_ret
      exact ⟨by unfold full; rw [e1, e2]; rfl, by (repeat' (first | (with_reducible exact Below.refl _ _) | (with_reducible assumption) | (with_reducible refine Below.alloc ?_ ?_ _) | (with_reducible refine Below.drew ?_) | (with_reducible refine below_set ?_ ?_ _) | (with_reducible refine below_call ?_ ?_ (by assumption)) | (with_reducible exact Below.size (by assumption)) | omega | go_size))⟩
    · have e2 : (d == 1) = false := by simpa using h2
      clear h1 h2
      go_enter Try.func180, Try.ntmps180
      go_wp2
      go_ret
      exact ⟨by unfold full; rw [e1, e2]; rfl, by (repeat' (first | (with_reducible exact Below.refl _ _) | (with_reducible assumption) | (with_reducible refine Below.alloc ?_ ?_ _) | (with_reducible refine Below.drew ?_) | (with_reducible refine below_set ?_ ?_ _) | (with_reducible refine below_call ?_ ?_ (by assumption)) | (with_reducible exact Below.size (by assumption)) | omega | go_size))⟩

set_option maxRecDepth 100000 in
set_option maxHeartbeats 2000000 in
theorem with_any (v d : Int) (b : UInt8) (hn : Num v d) (hb : isDig b = true) (w : World) : Calls Try.prog 182 #[.agg #[.int .i64 (v), .int .i64 (d)], .int .u8 (b.toNat : Int)] w fun e w' => e = .returned (.agg #[.int .i64 (10 * v + dig b), .int .i64 (d + 1)]) ∧ Below w.heap.size w w' := by
  obtain ⟨h1, h2, h3, h4⟩ := hn.bd
  have h5 : 48 ≤ (b.toNat : Int) ∧ (b.toNat : Int) ≤ 57 := by unfold isDig at hb; simp at hb; omega
  obtain ⟨h6, h7⟩ := h5
  clear hn
  have HB := Lib.hid hb; clear hb
  go_enter Try.func182, Try.ntmps182
  go_wp2
  refine bodyPost_ret (v := .agg #[.int .i64 (10 * v + dig b), .int .i64 (d + 1)]) (by simp [results, Try.results182, go_sem, dig]) rfl ⟨rfl, ?_⟩
  (repeat' (first | (with_reducible exact Below.refl _ _) | (with_reducible assumption) | (with_reducible refine Below.alloc ?_ ?_ _) | (with_reducible refine Below.drew ?_) | (with_reducible refine below_set ?_ ?_ _) | (with_reducible refine below_call ?_ ?_ (by assumption)) | (with_reducible exact Below.size (by assumption)) | omega | go_size))

set_option maxRecDepth 100000 in
set_option maxHeartbeats 2000000 in
theorem most_any (v d : Int) (h0 : 0 ≤ v) (h1 : v ≤ 99) (w : World) : Calls Try.prog 184 #[.agg #[.int .i64 (v), .int .i64 (d)]] w fun e w' => e = .returned (.int .i64 (most v d)) ∧ Below w.heap.size w w' := by
  go_enter Try.func184, Try.ntmps184
  go_wp2_with fail
  refine (full_any v d _).mono ?_
  rintro e1 w1 ⟨rfl, hb1⟩
  have o1 : Slab w1 w.heap.size #[.int .i64 v, .int .i64 d] 217 := (Slab.new _ _ _).call hb1
  have HB := below_then ((Below.refl _ w).alloc (Nat.le_refl _) _) hb1
  clear hb1
  obtain ⟨c1, f1⟩ := o1.facts
  cases hf : full v d with
  | true =>
    have HF := Lib.hid hf; clear hf
    go_wp2
    go_ret
    exact ⟨by unfold most; rw [HF.out]; rfl, HB⟩
  | false =>
    have HF := Lib.hid hf; clear hf
    go_wp2
    go_ret
    exact ⟨by unfold most; rw [HF.out]; rfl, HB⟩

set_option maxRecDepth 100000 in
set_option maxHeartbeats 2000000 in
theorem fail_any (e i : Int) (h0 : -2 ≤ i) (h1 : i ≤ 9223372036854775806) (w : World) : Calls Try.prog 181 #[.int .i64 e, .int .i64 i] w fun e' w' => e' = .returned (resV (0, 0, 0, e, i + 1)) ∧ Below w.heap.size w w' := by
  go_enter Try.func181, Try.ntmps181
  go_wp2
  refine bodyPost_ret (v := resV (0, 0, 0, e, i + 1)) (by simp [results, Try.results181, go_sem]) rfl ⟨rfl, ?_⟩
  (repeat' (first | (with_reducible exact Below.refl _ _) | (with_reducible assumption) | (with_reducible refine Below.alloc ?_ ?_ _) | (with_reducible refine Below.drew ?_) | (with_reducible refine below_set ?_ ?_ _) | (with_reducible refine below_call ?_ ?_ (by assumption)) | (with_reducible exact Below.size (by assumption)) | omega | go_size))
end Go.Proofs.Ytddokdjlmdoebaa

/- Walks of the package brace: the two numbers. -/
namespace Go.Proofs.Ytddokdjlmdoebaa
open Go.RowKit BraceP

theorem drop_cons_at (s : ByteArray) (k : Nat) (h : k < s.size) : s.data.toList.drop k = s[k] :: s.data.toList.drop (k + 1) := by
  have h' : k < s.data.toList.length := by simpa using h
  rw [List.drop_eq_getElem_cons h']; rfl

set_option maxRecDepth 100000 in
set_option maxHeartbeats 2000000 in
theorem second_any (s : ByteArray) (i least : Int) (h0 : 0 ≤ i) (h1 : i ≤ s.size) (hs : s.size ≤ 4611686018427387904) (_ : 0 ≤ least) (_ : least ≤ 99) (w : World) :
    Calls Try.prog 183 #[.string s, .int .i64 i, .int .i64 least] w fun e w' => e = .returned (resV (rd2 least (s.data.toList.drop i.toNat) i 0 0)) ∧ Below w.heap.size w w' := by
  obtain ⟨i, rfl⟩ := Int.eq_ofNat_of_zero_le h0
  rw [Int.toNat_natCast]
  obtain ⟨T, hT⟩ : ∃ T, rd2 least (s.data.toList.drop i) i 0 0 = T := ⟨_, rfl⟩
  rw [hT]
  have HT := Lib.hid hT; clear hT
  go_enter Try.func183, Try.ntmps183
  go_wp2
  go_loopw [1] (fun p wr => ∃ (k : Nat) (v d : Int), k ≤ s.size ∧ p = .int .i64 k ∧ Num v d ∧ Slab wr (w.heap.size + 1) #[.int .i64 v, .int .i64 d] 217 ∧ Slab wr w.heap.size #[.int .i64 0, .int .i64 0] 184 ∧ Below w.heap.size w wr ∧ rd2 least (s.data.toList.drop k) k v d = T) (fun p _ => s.size - (intOf p).toNat)
  case atStart => exact ⟨i, 0, 0, by omega, rfl, .inl ⟨rfl, rfl⟩, Slab.newAt _ _ _ (by simp), (Slab.new _ _ _).alloc _, by (repeat' (first | (with_reducible exact Below.refl _ _) | (with_reducible assumption) | (with_reducible refine Below.alloc ?_ ?_ _) | (with_reducible refine Below.drew ?_) | (with_reducible refine below_set ?_ ?_ _) | (with_reducible refine below_call ?_ ?_ (by assumption)) | (with_reducible exact Below.size (by assumption)) | omega | go_size)), HT.out⟩
  case round =>
    obtain ⟨k, v, d, hk, rfl, hn, o0, q0, hB, hr⟩ := hrel
    have HB0 := Lib.hid hB; clear hB
    obtain ⟨c0, f0⟩ := o0.facts
    obtain ⟨d0, g0⟩ := q0.facts
    obtain ⟨n1, n2, n3, n4⟩ := hn.bd
    have HN := Lib.hid hn; clear hn
    by_cases hlt : k < s.size
    · rw [drop_cons_at s k hlt] at hr
      have HR := Lib.hid hr; clear hr
      go_wp2_with fail
      refine (digit_any s[k] _).mono ?_
      rintro e1 w1 ⟨rfl, rfl⟩
      generalize s[k] = b at *
      cases hb : isDig b with
      | true =>
        have HD := Lib.hid hb; clear hb
        go_wp2_with fail
        refine (full_any v d _).mono ?_
        rintro e1 w1 ⟨rfl, hb1⟩
        have o1 := o0.call hb1
        have q1 := q0.call hb1
        obtain ⟨c1, f1⟩ := o1.facts
        obtain ⟨d1, g1⟩ := q1.facts
        have HB1 := Lib.hid (below_then HB0.out hb1)
        clear o0 c0 f0 q0 d0 g0 HB0 hb1
        cases hf : full v d with
        | true =>
          have HF := Lib.hid hf; clear hf
          go_wp2_with fail
          refine (fail_any 6 k (by omega) (by omega) _).mono ?_
          rintro e2 w2 ⟨rfl, hb2⟩
          have q2 := q1.call hb2
          obtain ⟨d2, g2⟩ := q2.facts
          have HB2 := Lib.hid (below_then HB1.out hb2)
          clear hb2
          go_wp2
          refine bodyPost_ret (v := resV (0, 0, 0, 6, (k : Int) + 1)) (by simp [results, Try.results183, go_sem, d2]) rfl ⟨ret_v (congrArg resV ?_), ?_⟩
          · rw [← HR.out, rd2, if_pos HD.out, HF.out]; rfl
          · exact below_set (below_set HB2.out (by omega) _) (by omega) _
        | false =>
          have HF := Lib.hid hf; clear hf
          go_wp2_with fail
          refine (with_any v d b HN.out HD.out _).mono ?_
          rintro e2 w2 ⟨rfl, hb2⟩
          have o2 := o1.call hb2
          have q2 := q1.call hb2
          obtain ⟨c2, f2⟩ := o2.facts
          obtain ⟨d2, g2⟩ := q2.facts
          have HB2 := Lib.hid (below_then HB1.out hb2)
          clear o1 c1 f1 q1 d1 g1 HB1 hb2
          obtain ⟨m1, m2, m3, m4⟩ := (HN.out.next HF.out HD.out).bd
          go_wp2_with fail
          refine (most_any _ _ m1 m2 _).mono ?_
          rintro e3 w3 ⟨rfl, hb3⟩
          have o3 := o2.call hb3
          have q3 := q2.call hb3
          obtain ⟨c3, f3⟩ := o3.facts
          obtain ⟨d3, g3⟩ := q3.facts
          have HB3 := Lib.hid (below_then HB2.out hb3)
          clear o2 c2 f2 q2 d2 g2 HB2 hb3
          cases hm : decide (most (10 * v + dig b) (d + 1) < least) with
          | true =>
            have HM := Lib.hid hm
            go_wp2_with fail
            refine (fail_any 6 k (by omega) (by omega) _).mono ?_
            rintro e4 w4 ⟨rfl, hb4⟩
            have q4 := q3.call hb4
            obtain ⟨d4, g4⟩ := q4.facts
            have HB4 := Lib.hid (below_then HB3.out hb4)
            clear hb4
            go_wp2
            refine bodyPost_ret (v := resV (0, 0, 0, 6, (k : Int) + 1)) (by simp [results, Try.results183, go_sem, d4]) rfl ⟨ret_v (congrArg resV ?_), ?_⟩
            · rw [← HR.out, rd2, if_pos HD.out, HF.out, HM.out]; rfl
            · exact below_set (below_set HB4.out (by omega) _) (by omega) _
          | false =>
            have HM := Lib.hid hm
            go_wp2_with fail
            refine (with_any v d b HN.out HD.out _).mono ?_
            rintro e4 w4 ⟨rfl, hb4⟩
            have o4 := o3.call hb4
            have q4 := q3.call hb4
            obtain ⟨c4, f4⟩ := o4.facts
            obtain ⟨d4, g4⟩ := q4.facts
            have HB4 := Lib.hid (below_then HB3.out hb4)
            clear o3 c3 f3 q3 d3 g3 HB3 hb4
            clear hm
            have h48 : 48 ≤ (b.toNat : Int) ∧ (b.toNat : Int) ≤ 57 := by have := HD.out; unfold isDig at this; simp at this; omega
            go_wp2
            go_roundw
            case rel =>
              refine ⟨k + 1, 10 * v + dig b, d + 1, by omega, by go_num, HN.out.next HF.out HD.out, (o4.set 0 _).set 1 _, (q4.far (by omega) _).far (by omega) _, ?_, ?_⟩
              · have hb := HB4.out
                (repeat' (first | (with_reducible exact Below.refl _ _) | (with_reducible assumption) | (with_reducible refine Below.alloc ?_ ?_ _) | (with_reducible refine Below.drew ?_) | (with_reducible refine below_set ?_ ?_ _) | (with_reducible refine below_call ?_ ?_ (by assumption)) | (with_reducible exact Below.size (by assumption)) | omega | go_size))
              · rw [← HR.out, rd2, if_pos HD.out, HF.out, HM.out]; rfl
            case measure => simp [intOf]; omega
      | false =>
        have HD := Lib.hid hb; clear hb
        have e125 : (b == 125) = ((b.toNat : Int) == 125) := by
          rw [Bool.eq_iff_iff, beq_iff_eq, beq_iff_eq, ← UInt8.toNat_inj]; simp; omega
        have E := Lib.hid e125; clear e125
        by_cases h125 : (b.toNat : Int) = 125
        · have t125 : ((b.toNat : Int) == 125) = true := by simpa using h125
          have T5 := Lib.hid t125
          clear h125
          by_cases hd0 : d = 0
          · have td0 : (d == 0) = true := by simpa using hd0
            have TD := Lib.hid td0
            clear hd0
            go_wp2
            refine bodyPost_ret (v := resV (least, -1, (k : Int) + 1, 0, 0)) (by simp [results, Try.results183, go_sem, *]) rfl ⟨ret_v (congrArg resV ?_), ?_⟩
            · rw [← HR.out, rd2, HD.out, E.out, T5.out, TD.out]; rfl
            · have hb := HB0.out
              (repeat' (first | (with_reducible exact Below.refl _ _) | (with_reducible assumption) | (with_reducible refine Below.alloc ?_ ?_ _) | (with_reducible refine Below.drew ?_) | (with_reducible refine below_set ?_ ?_ _) | (with_reducible refine below_call ?_ ?_ (by assumption)) | (with_reducible exact Below.size (by assumption)) | omega | go_size))
          · have td0 : (d == 0) = false := by simpa using hd0
            have TD := Lib.hid td0
            clear hd0
            by_cases hv : v < least
            · have tv : decide (v < least) = true := by simpa using hv
              have TV := Lib.hid tv
              clear hv
              go_wp2_with fail
              refine (fail_any 6 k (by omega) (by omega) _).mono ?_
              rintro e1 w1 ⟨rfl, hb1⟩
              have q1 := q0.call hb1
              obtain ⟨d1, g1⟩ := q1.facts
              have HB1 := Lib.hid (below_then HB0.out hb1)
              clear hb1
              go_wp2
              refine bodyPost_ret (v := resV (0, 0, 0, 6, (k : Int) + 1)) (by simp [results, Try.results183, go_sem, d1]) rfl ⟨ret_v (congrArg resV ?_), ?_⟩
              · rw [← HR.out, rd2, HD.out, E.out, T5.out, TD.out, TV.out]; rfl
              · exact below_set (below_set HB1.out (by omega) _) (by omega) _
            · have tv : decide (v < least) = false := by simpa using hv
              have TV := Lib.hid tv
              clear hv
              go_wp2
              refine bodyPost_ret (v := resV (least, v, (k : Int) + 1, 0, 0)) (by simp [results, Try.results183, go_sem, *]) rfl ⟨ret_v (congrArg resV ?_), ?_⟩
              · rw [← HR.out, rd2, HD.out, E.out, T5.out, TD.out, TV.out]; rfl
              · have hb := HB0.out
                (repeat' (first | (with_reducible exact Below.refl _ _) | (with_reducible assumption) | (with_reducible refine Below.alloc ?_ ?_ _) | (with_reducible refine Below.drew ?_) | (with_reducible refine below_set ?_ ?_ _) | (with_reducible refine below_call ?_ ?_ (by assumption)) | (with_reducible exact Below.size (by assumption)) | omega | go_size))
        · have t125 : ((b.toNat : Int) == 125) = false := by simpa using h125
          have T5 := Lib.hid t125
          clear h125
          go_wp2_with fail
          refine (fail_any 3 k (by omega) (by omega) _).mono ?_
          rintro e1 w1 ⟨rfl, hb1⟩
          have q1 := q0.call hb1
          obtain ⟨d1, g1⟩ := q1.facts
          have HB1 := Lib.hid (below_then HB0.out hb1)
          clear hb1
          go_wp2
          refine bodyPost_ret (v := resV (0, 0, 0, 3, (k : Int) + 1)) (by simp [results, Try.results183, go_sem, d1]) rfl ⟨ret_v (congrArg resV ?_), ?_⟩
          · rw [← HR.out, rd2, HD.out, E.out, T5.out]; rfl
          · exact below_set (below_set HB1.out (by omega) _) (by omega) _
    · have hr' : T = (0, 0, 0, 2, (k : Int)) := by
        rw [← hr, List.drop_eq_nil_of_le (by simpa using (by omega : s.size ≤ k))]; rfl
      have HR := Lib.hid hr'; clear hr' hr
      go_wp2_with fail
      refine (fail_any 2 ((s.size : Int) - 1) (by omega) (by omega) _).mono ?_
      rintro e1 w1 ⟨rfl, hb1⟩
      have q1 := q0.call hb1
      obtain ⟨d1, g1⟩ := q1.facts
      have HB1 := below_then HB0.out hb1
      go_wp2
      refine bodyPost_ret (v := resV (0, 0, 0, 2, (s.size : Int) - 1 + 1)) (by simp [results, Try.results183, go_sem, d1]) rfl ⟨ret_v (congrArg resV ?_), ?_⟩
      · rw [HR.out]; congr 4; omega
      · (repeat' (first | (with_reducible exact Below.refl _ _) | (with_reducible assumption) | (with_reducible refine Below.alloc ?_ ?_ _) | (with_reducible refine Below.drew ?_) | (with_reducible refine below_set ?_ ?_ _) | (with_reducible refine below_call ?_ ?_ (by assumption)) | (with_reducible exact Below.size (by assumption)) | omega | go_size))

set_option maxRecDepth 100000 in
set_option maxHeartbeats 2000000 in
theorem first_any (s : ByteArray) (i : Int) (h0 : 0 ≤ i) (h1 : i ≤ s.size) (hs : s.size ≤ 4611686018427387904) (w : World) :
    Calls Try.prog 178 #[.string s, .int .i64 i] w fun e w' => e = .returned (resV (rd1 (s.data.toList.drop i.toNat) i 0 0)) ∧ Below w.heap.size w w' := by
  obtain ⟨i, rfl⟩ := Int.eq_ofNat_of_zero_le h0
  rw [Int.toNat_natCast]
  obtain ⟨T, hT⟩ : ∃ T, rd1 (s.data.toList.drop i) i 0 0 = T := ⟨_, rfl⟩
  rw [hT]
  have HT := Lib.hid hT; clear hT
  go_enter Try.func178, Try.ntmps178
  go_wp2
  go_loopw [1] (fun p wr => ∃ (k : Nat) (v d : Int), k ≤ s.size ∧ p = .int .i64 k ∧ Num v d ∧ Slab wr (w.heap.size + 1) #[.int .i64 v, .int .i64 d] 217 ∧ Slab wr w.heap.size #[.int .i64 0, .int .i64 0] 184 ∧ Below w.heap.size w wr ∧ rd1 (s.data.toList.drop k) k v d = T) (fun p _ => s.size - (intOf p).toNat)
  case atStart => exact ⟨i, 0, 0, by omega, rfl, .inl ⟨rfl, rfl⟩, Slab.newAt _ _ _ (by simp), (Slab.new _ _ _).alloc _, by (repeat' (first | (with_reducible exact Below.refl _ _) | (with_reducible assumption) | (with_reducible refine Below.alloc ?_ ?_ _) | (with_reducible refine Below.drew ?_) | (with_reducible refine below_set ?_ ?_ _) | (with_reducible refine below_call ?_ ?_ (by assumption)) | (with_reducible exact Below.size (by assumption)) | omega | go_size)), HT.out⟩
  case round =>
    obtain ⟨k, v, d, hk, rfl, hn, o0, q0, hB, hr⟩ := hrel
    have HB0 := Lib.hid hB; clear hB
    obtain ⟨c0, f0⟩ := o0.facts
    obtain ⟨d0, g0⟩ := q0.facts
    obtain ⟨n1, n2, n3, n4⟩ := hn.bd
    have HN := Lib.hid hn; clear hn
    by_cases hlt : k < s.size
    · rw [drop_cons_at s k hlt] at hr
      have HR := Lib.hid hr; clear hr
      cases hb : isDig s[k] with
      | true =>
        have HD := Lib.hid hb; clear hb
        go_wp2_with fail
        refine (digit_any s[k] _).mono ?_
        rintro e1 w1 ⟨rfl, rfl⟩
        rw [HD.out]
        generalize s[k] = b at *
        go_wp2_with fail
        refine (full_any v d _).mono ?_
        rintro e1 w1 ⟨rfl, hb1⟩
        have o1 := o0.call hb1
        have q1 := q0.call hb1
        obtain ⟨c1, f1⟩ := o1.facts
        obtain ⟨d1, g1⟩ := q1.facts
        have HB1 := Lib.hid (below_then HB0.out hb1)
        clear o0 c0 f0 q0 d0 g0 HB0 hb1
        cases hf : full v d with
        | true =>
          have HF := Lib.hid hf; clear hf
          go_wp2_with fail
          refine (fail_any 6 k (by omega) (by omega) _).mono ?_
          rintro e2 w2 ⟨rfl, hb2⟩
          have q2 := q1.call hb2
          obtain ⟨d2, g2⟩ := q2.facts
          have HB2 := Lib.hid (below_then HB1.out hb2)
          clear hb2
          go_wp2
          refine bodyPost_ret (v := resV (0, 0, 0, 6, (k : Int) + 1)) (by simp [results, Try.results178, go_sem, d2]) rfl ⟨ret_v (congrArg resV ?_), ?_⟩
          · rw [← HR.out, rd1, if_pos HD.out, if_pos HF.out]
          · exact below_set (below_set HB2.out (by omega) _) (by omega) _
        | false =>
          have HF := Lib.hid hf; clear hf
          go_wp2_with fail
          refine (digit_any b _).mono ?_
          rintro e2 w2 ⟨rfl, rfl⟩
          rw [HD.out]
          go_wp2_with fail
          refine (with_any v d b HN.out HD.out _).mono ?_
          rintro e2 w2 ⟨rfl, hb2⟩
          have o2 := o1.call hb2
          have q2 := q1.call hb2
          obtain ⟨c2, f2⟩ := o2.facts
          obtain ⟨d2, g2⟩ := q2.facts
          have HB2 := Lib.hid (below_then HB1.out hb2)
          clear o1 c1 f1 q1 d1 g1 HB1 hb2
          go_wp2
          go_roundw
          case rel =>
            refine ⟨k + 1, 10 * v + dig b, d + 1, by omega, by go_num, HN.out.next HF.out HD.out, (o2.set 0 _).set 1 _, (q2.far (by omega) _).far (by omega) _, ?_, ?_⟩
            · have hb := HB2.out
              (repeat' (first | (with_reducible exact Below.refl _ _) | (with_reducible assumption) | (with_reducible refine Below.alloc ?_ ?_ _) | (with_reducible refine Below.drew ?_) | (with_reducible refine below_set ?_ ?_ _) | (with_reducible refine below_call ?_ ?_ (by assumption)) | (with_reducible exact Below.size (by assumption)) | omega | go_size))
            · rw [← HR.out, rd1, if_pos HD.out, HF.out]; rfl
          case measure => simp [intOf]; omega
      | false =>
        have HD := Lib.hid hb; clear hb
        go_wp2_with fail
        refine (digit_any s[k] _).mono ?_
        rintro e1 w1 ⟨rfl, rfl⟩
        rw [HD.out]
        generalize s[k] = b at *
        go_wp2_with fail
        refine (digit_any b _).mono ?_
        rintro e2 w2 ⟨rfl, rfl⟩
        rw [HD.out]
        have e125 : (b == 125) = ((b.toNat : Int) == 125) := by
          rw [Bool.eq_iff_iff, beq_iff_eq, beq_iff_eq, ← UInt8.toNat_inj]; simp; omega
        have E := Lib.hid e125; clear e125
        have e44 : (b == 44) = ((b.toNat : Int) == 44) := by
          rw [Bool.eq_iff_iff, beq_iff_eq, beq_iff_eq, ← UInt8.toNat_inj]; simp; omega
        have E4 := Lib.hid e44; clear e44
        by_cases hd0 : 0 < d
        · have td : decide (0 < d) = true := by simpa using hd0
          have TD := Lib.hid td
          clear hd0
          by_cases h125 : (b.toNat : Int) = 125
          · have t125 : ((b.toNat : Int) == 125) = true := by simpa using h125
            have T5 := Lib.hid t125
            clear h125
            go_wp2
            refine bodyPost_ret (v := resV (v, v, (k : Int) + 1, 0, 0)) (by simp [results, Try.results178, go_sem, *]) rfl ⟨ret_v (congrArg resV ?_), ?_⟩
            · rw [← HR.out, rd1, HD.out, E.out, T5.out, TD.out]; rfl
            · have hb := HB0.out
              (repeat' (first | (with_reducible exact Below.refl _ _) | (with_reducible assumption) | (with_reducible refine Below.alloc ?_ ?_ _) | (with_reducible refine Below.drew ?_) | (with_reducible refine below_set ?_ ?_ _) | (with_reducible refine below_call ?_ ?_ (by assumption)) | (with_reducible exact Below.size (by assumption)) | omega | go_size))
          · have t125 : ((b.toNat : Int) == 125) = false := by simpa using h125
            have T5 := Lib.hid t125
            clear h125
            by_cases h44 : (b.toNat : Int) = 44
            · have t44 : ((b.toNat : Int) == 44) = true := by simpa using h44
              have T4 := Lib.hid t44
              clear h44
              have hsec : rd2 v (s.data.toList.drop (k + 1)) ((k + 1 : Nat) : Int) 0 0 = T := by
                rw [← HR.out, rd1, HD.out, E.out, T5.out, TD.out, E4.out, T4.out]; rfl
              have HS := Lib.hid hsec; clear hsec
              go_wp2_with fail
              refine (second_any s ((k : Int) + 1) v (by omega) (by omega) hs n1 n2 _).mono ?_
              rintro e3 w3 ⟨rfl, hb3⟩
              rw [show ((k : Int) + 1).toNat = k + 1 by omega, show ((k : Int) + 1) = ((k + 1 : Nat) : Int) by omega, HS.out]
              have q3 := q0.call hb3
              obtain ⟨d3, g3⟩ := q3.facts
              have HB3 := below_then HB0.out hb3
              go_wp2
              refine bodyPost_ret (v := resV T) (by simp [results, Try.results178, go_sem, d3]) rfl ⟨rfl, ?_⟩
              (repeat' (first | (with_reducible exact Below.refl _ _) | (with_reducible assumption) | (with_reducible refine Below.alloc ?_ ?_ _) | (with_reducible refine Below.drew ?_) | (with_reducible refine below_set ?_ ?_ _) | (with_reducible refine below_call ?_ ?_ (by assumption)) | (with_reducible exact Below.size (by assumption)) | omega | go_size))
            · have t44 : ((b.toNat : Int) == 44) = false := by simpa using h44
              have T4 := Lib.hid t44
              clear h44
              go_wp2_with fail
              refine (fail_any 3 k (by omega) (by omega) _).mono ?_
              rintro e3 w3 ⟨rfl, hb3⟩
              have q3 := q0.call hb3
              obtain ⟨d3, g3⟩ := q3.facts
              have HB3 := Lib.hid (below_then HB0.out hb3)
              clear hb3
              go_wp2
              refine bodyPost_ret (v := resV (0, 0, 0, 3, (k : Int) + 1)) (by simp [results, Try.results178, go_sem, d3]) rfl ⟨ret_v (congrArg resV ?_), ?_⟩
              · rw [← HR.out, rd1, HD.out, E.out, T5.out, TD.out, E4.out, T4.out]; rfl
              · exact below_set (below_set HB3.out (by omega) _) (by omega) _
        · have td : decide (0 < d) = false := by simpa using hd0
          have TD := Lib.hid td
          clear hd0
          go_wp2_with fail
          refine (fail_any 3 k (by omega) (by omega) _).mono ?_
          rintro e3 w3 ⟨rfl, hb3⟩
          have q3 := q0.call hb3
          obtain ⟨d3, g3⟩ := q3.facts
          have HB3 := Lib.hid (below_then HB0.out hb3)
          clear hb3
          go_wp2
          refine bodyPost_ret (v := resV (0, 0, 0, 3, (k : Int) + 1)) (by simp [results, Try.results178, go_sem, d3]) rfl ⟨ret_v (congrArg resV ?_), ?_⟩
          · rw [← HR.out, rd1, HD.out, TD.out]; rfl
          · exact below_set (below_set HB3.out (by omega) _) (by omega) _
    · have hr' : T = (0, 0, 0, 2, (k : Int)) := by
        rw [← hr, List.drop_eq_nil_of_le (by simpa using (by omega : s.size ≤ k))]; rfl
      have HR := Lib.hid hr'; clear hr' hr
      go_wp2_with fail
      refine (fail_any 2 ((s.size : Int) - 1) (by omega) (by omega) _).mono ?_
      rintro e1 w1 ⟨rfl, hb1⟩
      have q1 := q0.call hb1
      obtain ⟨d1, g1⟩ := q1.facts
      have HB1 := below_then HB0.out hb1
      go_wp2
      refine bodyPost_ret (v := resV (0, 0, 0, 2, (s.size : Int) - 1 + 1)) (by simp [results, Try.results178, go_sem, d1]) rfl ⟨ret_v (congrArg resV ?_), ?_⟩
      · rw [HR.out]; congr 4; omega
      · (repeat' (first | (with_reducible exact Below.refl _ _) | (with_reducible assumption) | (with_reducible refine Below.alloc ?_ ?_ _) | (with_reducible refine Below.drew ?_) | (with_reducible refine below_set ?_ ?_ _) | (with_reducible refine below_call ?_ ?_ (by assumption)) | (with_reducible exact Below.size (by assumption)) | omega | go_size))
end Go.Proofs.Ytddokdjlmdoebaa

/- Walks of the package brace: Read, the text of counts. -/
namespace Go.Proofs.Ytddokdjlmdoebaa
open Go.RowKit BraceP

theorem byte_eq (b : UInt8) (n : Nat) (hn : n < 256) : (b == UInt8.ofNat n) = ((b.toNat : Int) == n) := by
  rw [Bool.eq_iff_iff, beq_iff_eq, beq_iff_eq, ← UInt8.toNat_inj]; simp; omega
set_option maxRecDepth 100000 in
set_option maxHeartbeats 2000000 in
theorem read_any (s : ByteArray) (i : Int) (hs : s.size ≤ 4611686018427387904) (w : World) :
    Calls Try.prog 177 #[.string s, .int .i64 i] w fun e w' => e = .returned (resV (readF s.data.toList i)) ∧ Below w.heap.size w w' := by
  obtain ⟨T, hT⟩ : ∃ T, readF s.data.toList i = T := ⟨_, rfl⟩
  rw [hT]
  go_enter Try.func177, Try.ntmps177
  by_cases h0 : i < 0
  · have e0 : decide (i < 0) = true := by simpa using h0
    have E0 := Lib.hid e0
    have hT' : T = (0, 0, 0, 1, 0) := by rw [← hT]; unfold readF; rw [if_pos h0]
    have HT := Lib.hid hT'; clear hT hT' h0
    go_wp2
    refine bodyPost_ret (v := resV (0, 0, 0, 1, 0)) (by simp [results, Try.results177, go_sem, *]) rfl ⟨ret_v (congrArg resV ?_), ?_⟩
    · rw [HT.out]
    · (repeat' (first | (with_reducible exact Below.refl _ _) | (with_reducible assumption) | (with_reducible refine Below.alloc ?_ ?_ _) | (with_reducible refine Below.drew ?_) | (with_reducible refine below_set ?_ ?_ _) | (with_reducible refine below_call ?_ ?_ (by assumption)) | (with_reducible exact Below.size (by assumption)) | omega | go_size))
  · have e0 : decide (i < 0) = false := by simpa using h0
    have E0 := Lib.hid e0
    obtain ⟨i, rfl⟩ := Int.eq_ofNat_of_zero_le (by omega : 0 ≤ i)
    clear h0 e0
    by_cases h1 : s.size ≤ i
    · have e1 : decide (s.size ≤ i) = true := by simpa using h1
      have hT' : T = (0, 0, 0, 1, 0) := by
        rw [← hT]; unfold readF
        rw [if_neg (by omega), List.drop_eq_nil_of_le (by simpa using h1)]
      have HT := Lib.hid hT'; clear hT hT' h1
      go_wp2
      refine bodyPost_ret (v := resV (0, 0, 0, 1, 0)) (by simp [results, Try.results177, go_sem, *]) rfl ⟨ret_v (congrArg resV ?_), ?_⟩
      · rw [HT.out]
      · (repeat' (first | (with_reducible exact Below.refl _ _) | (with_reducible assumption) | (with_reducible refine Below.alloc ?_ ?_ _) | (with_reducible refine Below.drew ?_) | (with_reducible refine below_set ?_ ?_ _) | (with_reducible refine below_call ?_ ?_ (by assumption)) | (with_reducible exact Below.size (by assumption)) | omega | go_size))
    · have e1 : decide (s.size ≤ i) = false := by simpa using h1
      have h1' : i < s.size := by omega
      have hT' : T = rd0 s[i] (s.data.toList.drop (i + 1)) (i + 1) := by
        rw [← hT]; unfold readF
        rw [if_neg (by omega), Int.toNat_natCast, drop_cons_at s i h1']
      have HT := Lib.hid hT'; clear hT hT'
      have k42 := Lib.hid (byte_eq s[i] 42 (by omega))
      have k43 := Lib.hid (byte_eq s[i] 43 (by omega))
      have k63 := Lib.hid (byte_eq s[i] 63 (by omega))
      have k123 := Lib.hid (byte_eq s[i] 123 (by omega))
      cases e42 : ((s[i].toNat : Int) == 42) with
      | true =>
        have E42 := Lib.hid e42
        go_wp2
        refine bodyPost_ret (v := resV (0, -1, (i : Int) + 1, 0, 0)) (by simp [results, Try.results177, go_sem, *]) rfl ⟨ret_v (congrArg resV ?_), ?_⟩
        · rw [HT.out, rd0]; erw [k42.out, E42.out]; rfl
        · (repeat' (first | (with_reducible exact Below.refl _ _) | (with_reducible assumption) | (with_reducible refine Below.alloc ?_ ?_ _) | (with_reducible refine Below.drew ?_) | (with_reducible refine below_set ?_ ?_ _) | (with_reducible refine below_call ?_ ?_ (by assumption)) | (with_reducible exact Below.size (by assumption)) | omega | go_size))
      | false =>
      have E42 := Lib.hid e42
      cases e43 : ((s[i].toNat : Int) == 43) with
      | true =>
        have E43 := Lib.hid e43
        go_wp2
        refine bodyPost_ret (v := resV (1, -1, (i : Int) + 1, 0, 0)) (by simp [results, Try.results177, go_sem, *]) rfl ⟨ret_v (congrArg resV ?_), ?_⟩
        · rw [HT.out, rd0]; erw [k42.out, E42.out, k43.out, E43.out]; rfl
        · (repeat' (first | (with_reducible exact Below.refl _ _) | (with_reducible assumption) | (with_reducible refine Below.alloc ?_ ?_ _) | (with_reducible refine Below.drew ?_) | (with_reducible refine below_set ?_ ?_ _) | (with_reducible refine below_call ?_ ?_ (by assumption)) | (with_reducible exact Below.size (by assumption)) | omega | go_size))
      | false =>
      have E43 := Lib.hid e43
      cases e63 : ((s[i].toNat : Int) == 63) with
      | true =>
        have E63 := Lib.hid e63
        go_wp2
        refine bodyPost_ret (v := resV (0, 1, (i : Int) + 1, 0, 0)) (by simp [results, Try.results177, go_sem, *]) rfl ⟨ret_v (congrArg resV ?_), ?_⟩
        · rw [HT.out, rd0]; erw [k42.out, E42.out, k43.out, E43.out, k63.out, E63.out]; rfl
        · (repeat' (first | (with_reducible exact Below.refl _ _) | (with_reducible assumption) | (with_reducible refine Below.alloc ?_ ?_ _) | (with_reducible refine Below.drew ?_) | (with_reducible refine below_set ?_ ?_ _) | (with_reducible refine below_call ?_ ?_ (by assumption)) | (with_reducible exact Below.size (by assumption)) | omega | go_size))
      | false =>
      have E63 := Lib.hid e63
      cases e123 : ((s[i].toNat : Int) == 123) with
      | true =>
        have E123 := Lib.hid e123
        have hT' : rd1 (s.data.toList.drop (i + 1)) ((i : Int) + 1) 0 0 = T := by
          rw [HT.out, rd0]; erw [k42.out, E42.out, k43.out, E43.out, k63.out, E63.out, k123.out, E123.out]; rfl
        have HS := Lib.hid hT'; clear hT'
        have q0 : Slab (w.alloc (.cells #[.int .i64 0, .int .i64 0] 184)) w.heap.size #[.int .i64 0, .int .i64 0] 184 := Slab.new _ _ _
        have HB0 := Lib.hid ((Below.refl _ w).alloc (Nat.le_refl _) (.cells #[.int .i64 0, .int .i64 0] 184))
        go_wp2_with fail
        refine (first_any s ((i : Int) + 1) (by omega) (by omega) hs _).mono ?_
        rintro e3 w3 ⟨rfl, hb3⟩
        rw [show ((i : Int) + 1).toNat = i + 1 by omega, HS.out]
        have q3 := q0.call hb3
        obtain ⟨d3, g3⟩ := q3.facts
        have HB3 := below_then HB0.out hb3
        go_wp2
        refine bodyPost_ret (v := resV T) (by simp [results, Try.results177, go_sem, d3]) rfl ⟨rfl, ?_⟩
        (repeat' (first | (with_reducible exact Below.refl _ _) | (with_reducible assumption) | (with_reducible refine Below.alloc ?_ ?_ _) | (with_reducible refine Below.drew ?_) | (with_reducible refine below_set ?_ ?_ _) | (with_reducible refine below_call ?_ ?_ (by assumption)) | (with_reducible exact Below.size (by assumption)) | omega | go_size))
      | false =>
      have E123 := Lib.hid e123
      go_wp2
      refine bodyPost_ret (v := resV (0, 0, 0, 1, 0)) (by simp [results, Try.results177, go_sem, *]) rfl ⟨ret_v (congrArg resV ?_), ?_⟩
      · rw [HT.out, rd0]; erw [k42.out, E42.out, k43.out, E43.out, k63.out, E63.out, k123.out, E123.out]; rfl
      · (repeat' (first | (with_reducible exact Below.refl _ _) | (with_reducible assumption) | (with_reducible refine Below.alloc ?_ ?_ _) | (with_reducible refine Below.drew ?_) | (with_reducible refine below_set ?_ ?_ _) | (with_reducible refine below_call ?_ ?_ (by assumption)) | (with_reducible exact Below.size (by assumption)) | omega | go_size))
end Go.Proofs.Ytddokdjlmdoebaa
