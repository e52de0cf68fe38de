/- Plain facts: what lacks to counts that end too early. No program is in sight. -/
import Derived.Test.YtgkfdjfoakbibaaBraceP
namespace Go.Proofs.Ytgkfdjfoakbibaa
open BraceP

/-- What is put behind. -/
def lacks : List (List UInt8) := [[125], [48, 125], [57, 125]]
def Ends (r : R) (e : Int) : Prop := r.2.2.2.1 = 0 ∧ r.2.2.1 = e
theorem dig48 : isDig 48 = true ∧ dig 48 = 0 := by decide
theorem dig57 : isDig 57 = true ∧ dig 57 = 9 := by decide
theorem dig125 : isDig 125 = false := by decide
theorem rd2_lack (least : Int) (hl : least ≤ 99) (l : List UInt8) (i v d : Int) (hn : Num v d) (hv : d = 0 ∨ least ≤ most v d) (hs : (rd2 least l i v d).2.2.2.1 = 2) :
    ∃ c ∈ lacks, Ends (rd2 least (l ++ c) i v d) (i + l.length + c.length) := by
  induction l generalizing i v d with
  | nil =>
    by_cases h0 : d = 0
    · refine ⟨[125], by simp [lacks], ?_⟩
      rw [List.nil_append, rd2, dig125, if_neg (by simp), if_pos (by simp [h0])]
      exact ⟨rfl, by simp⟩
    · have hm : least ≤ most v d := by omega
      by_cases hvl : least ≤ v
      · refine ⟨[125], by simp [lacks], ?_⟩
        rw [List.nil_append, rd2, dig125, if_neg (by simp), if_neg (by simp [h0]), if_neg (by simp; omega), if_pos (by simp)]
        exact ⟨rfl, by simp⟩
      · have hf : full v d = false := by
          cases hf : full v d with
          | false => rfl
          | true => rw [most, if_pos hf] at hm; omega
        have hm' : least ≤ 10 * v + 9 := by rw [most, if_neg (by rw [hf]; simp)] at hm; exact hm
        have hd1 : d = 1 := by
          unfold Num at hn; unfold full at hf; simp at hf; omega
        subst hd1
        refine ⟨[57, 125], by simp [lacks], ?_⟩
        have hmm : ¬ most (10 * v + 9) (1 + 1) < least := by rw [most, if_pos (by simp [full])]; omega
        rw [List.nil_append, rd2, dig57.1, dig57.2, if_pos rfl, if_neg (by rw [hf, decide_eq_false hmm]; simp), rd2, dig125, if_neg (by simp), if_neg (by simp), if_neg (by simp; omega), if_pos (by simp)]
        exact ⟨rfl, by simp; omega⟩
  | cons b l ih =>
    have hlen : ∀ c : List UInt8, i + ((b :: l).length : Int) + c.length = i + 1 + l.length + c.length := fun c => by simp; omega
    simp only [hlen, List.cons_append]
    rw [rd2] at hs
    simp only [rd2]
    by_cases hb : isDig b = true
    · rw [if_pos hb] at hs
      simp only [if_pos hb]
      by_cases hc : (full v d || decide (most (10 * v + dig b) (d + 1) < least)) = true
      · rw [if_pos hc] at hs; simp at hs
      · rw [if_neg hc] at hs
        simp only [if_neg hc]
        simp at hc
        exact ih (i + 1) _ _ (hn.next hc.1 hb) (.inr hc.2) hs
    · rw [if_neg hb] at hs
      split at hs
      · simp at hs
      · split at hs
        · simp at hs
        · split at hs <;> simp at hs
theorem rd1_lack (l : List UInt8) (i v d : Int) (hn : Num v d) (hs : (rd1 l i v d).2.2.2.1 = 2) :
    ∃ c ∈ lacks, Ends (rd1 (l ++ c) i v d) (i + l.length + c.length) := by
  induction l generalizing i v d with
  | nil =>
    by_cases h0 : d = 0
    · have hv : v = 0 := by unfold Num at hn; omega
      subst h0 hv
      exact ⟨[48, 125], by simp [lacks], by
        rw [List.nil_append, rd1, dig48.1, dig48.2, if_pos rfl, if_neg (by decide), rd1, dig125, if_neg (by simp), if_pos (by decide)]
        exact ⟨rfl, by simp; omega⟩⟩
    · have hd : 0 < d := by have := hn.bd; omega
      refine ⟨[125], by simp [lacks], ?_⟩
      rw [List.nil_append, rd1, dig125, if_neg (by simp), if_pos (by simp [hd])]
      exact ⟨rfl, by simp⟩
  | cons b l ih =>
    have hlen : ∀ c : List UInt8, i + ((b :: l).length : Int) + c.length = i + 1 + l.length + c.length := fun c => by simp; omega
    simp only [hlen, List.cons_append]
    rw [rd1] at hs
    simp only [rd1]
    have hbd := hn.bd
    by_cases hb : isDig b = true
    · rw [if_pos hb] at hs
      simp only [if_pos hb]
      by_cases hc : full v d = true
      · rw [if_pos hc] at hs; simp at hs
      · rw [if_neg hc] at hs
        simp only [if_neg hc]
        exact ih (i + 1) _ _ (hn.next (by simpa using hc) hb) hs
    · rw [if_neg hb] at hs
      simp only [if_neg hb]
      by_cases h2 : (decide (0 < d) && b == 125) = true
      · rw [if_pos h2] at hs; simp at hs
      · rw [if_neg h2] at hs
        simp only [if_neg h2]
        by_cases h3 : (decide (0 < d) && b == 44) = true
        · rw [if_pos h3] at hs
          simp only [if_pos h3]
          exact rd2_lack v (by omega) l (i + 1) 0 0 (.inl ⟨rfl, rfl⟩) (.inl rfl) hs
        · rw [if_neg h3] at hs; simp at hs
theorem readF_lack (s : List UInt8) (i : Int) (hs : (readF s i).2.2.2.1 = 2) : ∃ c ∈ lacks, Ends (readF (s ++ c) i) (s.length + c.length) := by
  unfold readF at hs ⊢
  by_cases h : i < 0
  · rw [if_pos h] at hs; simp at hs
  rw [if_neg h] at hs
  simp only [if_neg h]
  cases hd : s.drop i.toNat with
  | nil => rw [hd] at hs; simp at hs
  | cons b l =>
    rw [hd] at hs
    simp only at hs
    have hl : (s.length : Int) = i + 1 + l.length := by
      have := congrArg List.length hd
      simp at this; omega
    have hlt : i.toNat ≤ s.length := by omega
    have e : ∀ c, (s ++ c).drop i.toNat = b :: (l ++ c) := fun c => by rw [List.drop_append_of_le_length hlt, hd]; rfl
    simp only [e, hl]
    by_cases c1 : (b == 42) = true
    · simp [rd0, c1] at hs
    by_cases c2 : (b == 43) = true
    · simp [rd0, c1, c2] at hs
    by_cases c3 : (b == 63) = true
    · simp [rd0, c1, c2, c3] at hs
    by_cases c4 : (b == 123) = true
    · have e : ∀ l', rd0 b l' (i + 1) = rd1 l' (i + 1) 0 0 := fun l' => by simp [rd0, c1, c2, c3, c4]
      rw [e] at hs
      simp only [e]
      exact rd1_lack l (i + 1) 0 0 (.inl ⟨rfl, rfl⟩) hs
    · simp [rd0, c1, c2, c3, c4] at hs
end Go.Proofs.Ytgkfdjfoakbibaa
