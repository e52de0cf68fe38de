/- Plain facts: the text of counts is read as the counts. No program is in sight. -/
import Derived.Test.YtfcgmgpcbenfpaaGreatMBrb
import Derived.Test.YtfcgmgpcbenfpaaGreatProg
import Derived.WalkKit
import Derived.WalkSpells
import Derived.WalkLawsBesides
import Derived.Handy
import Derived.Lib.Hide
import Derived.Test.YtfcgmgpcbenfpaaGreatMBra
set_option linter.unusedVariables false
set_option linter.unusedSimpArgs false
namespace Go.Proofs.YtfcgmgpcbenfpaaGreat
open BraceP

theorem dig_of (x : Nat) (hx : x ≤ 9) : isDig (UInt8.ofNat (48 + x)) = true ∧ dig (UInt8.ofNat (48 + x)) = x := by
  have h : (UInt8.ofNat (48 + x)).toNat = 48 + x := UInt8.toNat_ofNat_of_lt' (by have : UInt8.size = 256 := rfl; omega)
  unfold isDig dig
  rw [h]
  constructor
  · simp; omega
  · omega
/-- Reading a number of at most two digits, from nothing. -/
theorem rd1_num (n : Int) (h0 : 0 ≤ n) (h1 : n ≤ 99) (rest : List UInt8) (i : Int) :
    ∃ d : Int, 0 < d ∧ rd1 (digF n ++ rest) i 0 0 = rd1 rest (i + (digF n).length) n d := by
  obtain ⟨k, rfl⟩ := Int.eq_ofNat_of_zero_le h0
  unfold digF
  rw [Int.toNat_natCast]
  by_cases h : (k : Int) < 10
  · rw [if_pos h]
    obtain ⟨a, b⟩ := dig_of k (by omega)
    refine ⟨1, by omega, ?_⟩
    rw [List.singleton_append, rd1, if_pos a, b]
    simp [full]
  · rw [if_neg h]
    obtain ⟨a, b⟩ := dig_of (k / 10) (by omega)
    obtain ⟨a', b'⟩ := dig_of (k % 10) (by omega)
    refine ⟨2, by omega, ?_⟩
    rw [List.cons_append, List.singleton_append, rd1, if_pos a, b, if_neg (by simp [full]), rd1, if_pos a', b', if_neg (by simp [full]; omega)]
    have e : 10 * (10 * 0 + ((k / 10 : Nat) : Int)) + ((k % 10 : Nat) : Int) = k := by omega
    rw [e]
    simp [List.length]
    congr 1
    omega
theorem most_num (v d : Int) : most v d = if full v d then v else 10 * v + 9 := rfl
theorem rd2_num (least n : Int) (h0 : 0 ≤ n) (h1 : n ≤ 99) (hl : least ≤ n) (rest : List UInt8) (i : Int) :
    ∃ d : Int, d ≠ 0 ∧ rd2 least (digF n ++ rest) i 0 0 = rd2 least rest (i + (digF n).length) n d := by
  obtain ⟨k, rfl⟩ := Int.eq_ofNat_of_zero_le h0
  unfold digF
  rw [Int.toNat_natCast]
  by_cases h : (k : Int) < 10
  · rw [if_pos h]
    obtain ⟨a, b⟩ := dig_of k (by omega)
    refine ⟨1, by omega, ?_⟩
    rw [List.singleton_append, rd2, if_pos a, b]
    have hm : ¬ most (10 * 0 + (k : Int)) (0 + 1) < least := by rw [most_num]; split <;> omega
    rw [if_neg (by simp [full] at hm ⊢; simpa using hm)]
    simp
  · rw [if_neg h]
    obtain ⟨a, b⟩ := dig_of (k / 10) (by omega)
    obtain ⟨a', b'⟩ := dig_of (k % 10) (by omega)
    refine ⟨2, by omega, ?_⟩
    have e : 10 * (10 * 0 + ((k / 10 : Nat) : Int)) + ((k % 10 : Nat) : Int) = k := by omega
    have hm : ¬ most (10 * 0 + ((k / 10 : Nat) : Int)) (0 + 1) < least := by
      rw [most_num, if_neg (by simp [full]; omega)]; omega
    have hm' : ¬ most (k : Int) (0 + 1 + 1) < least := by
      rw [most_num, if_pos (by simp [full])]; omega
    rw [List.cons_append, List.singleton_append, rd2, if_pos a, b, if_neg (by rw [decide_eq_false hm]; simp [full]), rd2, if_pos a', b', e,
      if_neg (by rw [decide_eq_false hm']; simp [full]; omega)]
    simp [List.length]
    congr 1
    omega
theorem rd0_brace (l : List UInt8) (i : Int) : rd0 123 l i = rd1 l i 0 0 := by
  simp [rd0]
/-- The text of counts is read as the counts. -/
theorem readF_text (n m : Int) (h : rightB n m = true) : readF (textF n m) 0 = (n, m, ((textF n m).length : Int), 0, 0) := by
  obtain ⟨T, hT⟩ : ∃ T, textF n m = T := ⟨_, rfl⟩
  rw [hT]
  have open_ : ∀ l : List UInt8, readF (123 :: l) 0 = rd1 l 1 0 0 := fun l => by simp [readF, rd0_brace]
  rcases text_cases hT with ⟨hr, _⟩ | ⟨_, h0, h1, ⟨rfl, rfl, rfl⟩ | ⟨rfl, rfl, rfl⟩ | ⟨rfl, rfl, rfl⟩ | ⟨rfl, rfl⟩ | ⟨rfl, hn, rfl⟩ | ⟨hnm, hm, hne, rfl⟩⟩
  · rw [h] at hr; cases hr
  · decide
  · decide
  · decide
  · rw [open_]
    obtain ⟨d, hd, e⟩ := rd1_num m h0 h1 [125] 1
    rw [e, rd1, if_neg (by decide), if_pos (by simp [hd])]
    simp; omega
  · rw [open_]
    obtain ⟨d, hd, e⟩ := rd1_num n h0 h1 [44, 125] 1
    rw [e, rd1, if_neg (by decide), if_neg (by simp), if_pos (by simp [hd]), rd2, if_neg (by decide), if_pos (by decide)]
    simp; omega
  · rw [open_]
    obtain ⟨d, hd, e⟩ := rd1_num n h0 h1 (44 :: (digF m ++ [125])) 1
    obtain ⟨d', hd', e'⟩ := rd2_num n m (by omega) hm (by omega) [125] (1 + ((digF n).length : Int) + 1)
    rw [e, rd1, if_neg (by decide), if_neg (by simp), if_pos (by simp [hd]), e', rd2, if_neg (by decide), if_neg (by simp [hd']), if_neg (by simp; omega), if_pos (by decide)]
    simp; omega
end Go.Proofs.YtfcgmgpcbenfpaaGreat

/- BraceBack, walked. -/
namespace Go.Proofs.YtfcgmgpcbenfpaaGreat
open Go.RowKit BraceP
attribute [local go_sem] run_eq_span

theorem textF_pos {n m : Int} (h : rightB n m = true) : 0 < (textF n m).length := by
  rcases text_cases (rfl : textF n m = textF n m) with ⟨hr, _⟩ | ⟨_, _, _, ⟨_, _, e⟩ | ⟨_, _, e⟩ | ⟨_, _, e⟩ | ⟨_, e⟩ | ⟨_, _, e⟩ | ⟨_, _, _, e⟩⟩
  · rw [h] at hr; cases hr
  all_goals (rw [e]; simp)
theorem textF_len (n m : Int) : (textF n m).length ≤ 7 := by
  have := digF_len n; have := digF_len m
  rcases text_cases (rfl : textF n m = textF n m) with ⟨_, e⟩ | ⟨_, _, _, ⟨_, _, e⟩ | ⟨_, _, e⟩ | ⟨_, _, e⟩ | ⟨_, e⟩ | ⟨_, _, e⟩ | ⟨_, _, _, e⟩⟩
  all_goals (rw [e]; simp; try omega)

end Go.Proofs.YtfcgmgpcbenfpaaGreat

/- BraceLack, walked. -/
namespace Go.Proofs.YtfcgmgpcbenfpaaGreat
open Go.RowKit BraceP
attribute [local go_sem] run_eq_span

end Go.Proofs.YtfcgmgpcbenfpaaGreat
