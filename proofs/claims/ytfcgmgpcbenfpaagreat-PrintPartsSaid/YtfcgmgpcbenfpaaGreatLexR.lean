/- Plain facts on words of a pattern: the text of a word is read as the word, wherever it stands. No program is in sight. -/
import Derived.Test.YtfcgmgpcbenfpaaGreatLexQ
import Derived.Test.YtfcgmgpcbenfpaaGreatBrkV
import Derived.Test.YtfcgmgpcbenfpaaGreatMBrc
set_option linter.unusedVariables false
set_option linter.unusedSimpArgs false
namespace Go.Proofs.YtfcgmgpcbenfpaaGreat
open Go.RowKit SetP BrkP
namespace LexP
open BraceP in
/-- An answer further on. -/
def upR (d : Int) (r : R) : R := if r.2.2.2.1 = 0 then (r.1, r.2.1, r.2.2.1 + d, 0, r.2.2.2.2) else (r.1, r.2.1, r.2.2.1, r.2.2.2.1, r.2.2.2.2 + d)
open BraceP in
theorem rd2_up (d least : Int) (l : List UInt8) (i v c : Int) : rd2 least l (i + d) v c = upR d (rd2 least l i v c) := by
  induction l generalizing i v c with
  | nil => simp [rd2, upR]
  | cons b l ih =>
    have e : i + d + 1 = i + 1 + d := by omega
    simp only [rd2]
    split
    · split
      · simp [upR]; omega
      · rw [e]; exact ih _ _ _
    · split
      · simp [upR]; omega
      · split
        · simp [upR]; omega
        · split
          · simp [upR]; omega
          · simp [upR]; omega
open BraceP in
theorem rd1_up (d : Int) (l : List UInt8) (i v c : Int) : rd1 l (i + d) v c = upR d (rd1 l i v c) := by
  induction l generalizing i v c with
  | nil => simp [rd1, upR]
  | cons b l ih =>
    have e : i + d + 1 = i + 1 + d := by omega
    simp only [rd1]
    split
    · split
      · simp [upR]; omega
      · rw [e]; exact ih _ _ _
    · split
      · simp [upR]; omega
      · split
        · rw [e]; exact rd2_up _ _ _ _ _ _
        · simp [upR]; omega
open BraceP in
theorem textF_up (A : ByteArray) (n m : Int) (h : rightB n m = true) : readF (A ++ (⟨(textF n m).toArray⟩ : ByteArray)).data.toList A.size = (n, m, ((A.size + (textF n m).length : Nat) : Int), 0, 0) := by
  have h0 := readF_text n m h
  have hp : 0 < (textF n m).length := by
    rcases text_cases (n := n) (m := m) rfl with ⟨hr, _⟩ | ⟨_, _, _, ⟨_, _, e⟩ | ⟨_, _, e⟩ | ⟨_, _, e⟩ | ⟨_, e⟩ | ⟨_, _, e⟩ | ⟨_, _, _, e⟩⟩
    · rw [h] at hr; cases hr
    all_goals rw [e]; simp
  generalize textF n m = T at *
  have hd : (A ++ (⟨T.toArray⟩ : ByteArray)).data.toList = A.data.toList ++ T := by rw [ByteArray.data_append, Array.toList_append]
  have hl : A.data.toList.length = A.size := by simp
  cases T with
  | nil => simp at hp
  | cons b l =>
    have hdrop : (A.data.toList ++ b :: l).drop A.size = b :: l := by rw [← hl, List.drop_left]
    unfold readF at h0 ⊢
    rw [if_neg (by omega), hd, Int.toNat_natCast, hdrop]
    rw [if_neg (by omega)] at h0
    simp only [Int.toNat_zero, List.drop_zero] at h0 ⊢
    have e1 : rd0 b l ((A.size : Int) + 1) = upR A.size (rd0 b l (0 + 1)) := by
      have : (A.size : Int) + 1 = 0 + 1 + A.size := by omega
      rw [this]
      simp only [rd0]
      split
      · simp [upR]
      split
      · simp [upR]
      split
      · simp [upR]
      split
      · exact rd1_up _ _ _ _ _
      · rename_i c1 c2 c3 c4
        exfalso
        simp only [rd0, if_neg c1, if_neg c2, if_neg c3, if_neg c4] at h0
        have := congrArg (fun r : R => r.2.2.2.1) h0
        simp at this
    rw [e1, h0]
    simp only [upR, if_true]
    congr 3
    simp; omega
/-- A word as it may be read. -/
structure WdOk (w : Wd) : Prop where
  kind : 1 ≤ w.kind ∧ w.kind ≤ 5
  cnt : w.kind = 5 → rightB w.n w.m = true
  no : w.kind ≠ 5 → w.n = 0 ∧ w.m = 0
  set : w.kind ≠ 1 → w.set = noSet
theorem fit_wdOk {a n : Nat} {w : Wd} (h : Fit a n ⟨w, 0, 0⟩) : WdOk w := by
  generalize hr : (⟨w, 0, 0⟩ : WAns) = r at h
  cases h with
  | ok k e f x y hk g1 g2 hc hn hf =>
    cases hr
    exact ⟨hk, fun h => (right_iff x y).2 (hc h), hn, hf⟩
  | short => cases hr
  | bad e p he g1 g2 =>
    injection hr with h1 h2 h3
    omega
theorem textW_len (f : Nat → Bool) : 0 < (textW f).length := by
  unfold textW
  split
  · decide
  split
  · unfold byteT; split <;> simp
  · rename_i h1
    have : textB f ≠ [] := by
      intro htb
      have hU : same f upF = true := by
        rw [up_same]
        unfold textB at htb
        split at htb
        · cases htb
        · split at htb
          · assumption
          · cases htb
      exact h1 (one_count (b := 94) (by decide) fun x hx => by rw [same_iff.1 hU x hx]; unfold upF; simp)
    cases h : textB f with
    | nil => exact absurd h this
    | cons _ _ => simp
theorem read_textW (A : ByteArray) (f : Nat → Bool) : ∃ g, nextW (A ++ ⟨(textW f).toArray⟩) A.size = oneA g A.size ((A.size + (textW f).length : Nat) : Int) ∧ same g f = true := by
  by_cases h256 : (bytesF f).length = 256
  · have e : textW f = [46] := by unfold textW; rw [if_pos h256]
    rw [e]
    refine ⟨rangeF 0 255, ?_, same_iff.2 fun x hx => ?_⟩
    · have h0 := bt_strB A [46] 0
      rw [Nat.add_zero] at h0
      rw [nextW_in (by rw [size_strB]; simp), h0]; rfl
    · rw [count_all h256 x hx]
      unfold rangeF; simp; omega
  by_cases h1 : (bytesF f).length = 1
  · have e : textW f = byteT (chB (SetP.nextF f 0)) := by unfold textW; rw [if_neg h256, if_pos h1]
    rw [e]
    obtain ⟨b, hb, hn, hf⟩ := count_one h1
    refine ⟨_, read_byteT A _, same_iff.2 fun x hx => ?_⟩
    have hc : (chB (SetP.nextF f 0)).toNat = b := by have := chB_nat (z := (b : Int)) (by omega) (by omega); rw [hn]; omega
    rw [hc]
    unfold addB
    rw [Bool.eq_iff_iff, hf x hx]; simp
  · have e : textW f = textB f := by unfold textW; rw [if_neg h256, if_neg h1]
    have hpos := textW_len f
    rw [e] at hpos ⊢
    have hne : textB f ≠ [] := by intro h; rw [h] at hpos; simp at hpos
    obtain ⟨g, hg, hs⟩ := text_read f A hne
    refine ⟨g, ?_, hs⟩
    have h0 := bt_strB A (textB f) 0
    rw [Nat.add_zero, textB_head hne] at h0
    rw [nextW_in (by rw [size_strB]; omega), h0, wordB_brk, hg]
    rfl
theorem printW_len {w : Wd} (h : WdOk w) : 0 < (printW w).length := by
  obtain ⟨hk, hc, _, _⟩ := h
  unfold printW
  split
  · exact textW_len _
  split
  · decide
  split
  · decide
  split
  · decide
  split
  · rename_i h5
    exact textF_pos (hc (by simpa using h5))
  · rename_i h1 h2 h3 h4 h5
    simp at h1 h2 h3 h4 h5
    omega
/-- What is read where a word's text stands: the word, at its place there. -/
theorem read_printW (A : ByteArray) {w : Wd} (h : WdOk w) : ∃ v, nextW (A ++ ⟨(printW w).toArray⟩) A.size = ⟨v, 0, 0⟩ ∧ v.kind = w.kind ∧ v.at_ = A.size ∧ v.stop = ((A.size + (printW w).length : Nat) : Int) ∧ same v.set w.set = true ∧ v.n = w.n ∧ v.m = w.m := by
  have hpos := printW_len h
  obtain ⟨hk, hc, hn, hset⟩ := h
  obtain ⟨k, at_, stop, f, n, m⟩ := w
  simp only at hk hc hn hset ⊢
  have sgn : ∀ (c : UInt8) (j : Int), k = j → j ≠ 1 → j ≠ 5 → (∀ s a, wordB s a c = signA j a) → printW ⟨k, at_, stop, f, n, m⟩ = [c] →
      ∃ v, nextW (A ++ ⟨(printW ⟨k, at_, stop, f, n, m⟩).toArray⟩) A.size = ⟨v, 0, 0⟩ ∧ v.kind = k ∧ v.at_ = A.size ∧ v.stop = ((A.size + (printW ⟨k, at_, stop, f, n, m⟩).length : Nat) : Int) ∧ same v.set f = true ∧ v.n = n ∧ v.m = m := by
    intro c j hj j1 j5 hw hp
    rw [hp]
    have h0 := bt_strB A [c] 0
    rw [Nat.add_zero] at h0
    refine ⟨⟨j, A.size, A.size + 1, noSet, 0, 0⟩, ?_, hj.symm, rfl, by simp, ?_, ?_, ?_⟩
    · rw [nextW_in (by rw [size_strB]; simp), h0]; exact hw _ _
    · rw [hset (by omega)]; exact same_iff.2 fun _ _ => rfl
    · exact (hn (by omega)).1.symm
    · exact (hn (by omega)).2.symm
  by_cases k1 : k = 1
  · subst k1
    obtain ⟨g, hg, hs⟩ := read_textW A f
    exact ⟨_, hg, rfl, rfl, rfl, hs, (hn (by decide)).1.symm, (hn (by decide)).2.symm⟩
  by_cases k2 : k = 2
  · exact sgn 40 2 k2 (by decide) (by decide) (fun _ _ => rfl) (by subst k2; rfl)
  by_cases k3 : k = 3
  · exact sgn 41 3 k3 (by decide) (by decide) (fun _ _ => rfl) (by subst k3; rfl)
  by_cases k4 : k = 4
  · exact sgn 124 4 k4 (by decide) (by decide) (fun _ _ => rfl) (by subst k4; rfl)
  obtain rfl : k = 5 := by omega
  have hr := hc rfl
  have hp : printW ⟨5, at_, stop, f, n, m⟩ = textF n m := rfl
  rw [hp] at hpos ⊢
  have hu := textF_up A n m hr
  have hcn : isCnt ((textF n m).getD 0 0) = true := by
    rcases text_cases (n := n) (m := m) rfl with ⟨hr', _⟩ | ⟨_, _, _, ⟨_, _, e⟩ | ⟨_, _, e⟩ | ⟨_, _, e⟩ | ⟨_, e⟩ | ⟨_, _, e⟩ | ⟨_, _, _, e⟩⟩
    · rw [hr] at hr'; cases hr'
    all_goals rw [e]; rfl
  have h0 := bt_strB A (textF n m) 0
  rw [Nat.add_zero] at h0
  have hsz := size_strB A (textF n m)
  rw [nextW_in (by rw [hsz]; omega), h0]
  generalize (textF n m).getD 0 0 = b at *
  have hw : wordB (A ++ ⟨(textF n m).toArray⟩) A.size b = cntA A.size (BraceP.readF (A ++ (⟨(textF n m).toArray⟩ : ByteArray)).data.toList A.size) := by
    unfold isCnt at hcn
    simp only [Bool.or_eq_true, beq_iff_eq] at hcn
    rcases hcn with rfl | rfl | rfl | rfl <;> rfl
  rw [hw, hu]
  refine ⟨_, rfl, rfl, rfl, rfl, ?_, rfl, rfl⟩
  rw [hset (by decide)]; exact same_iff.2 fun _ _ => rfl
end LexP
end Go.Proofs.YtfcgmgpcbenfpaaGreat
