/- Plain facts on words of a pattern: words lie side by side; texts of words, one behind the other, are read as the words; what lacks makes a word. No program is in sight. -/
import Derived.Test.YtddokdjlmdoebaaLexR
import Derived.Test.YtddokdjlmdoebaaMBra
set_option linter.unusedVariables false
set_option linter.unusedSimpArgs false
namespace Go.Proofs.Ytddokdjlmdoebaa
open Go.RowKit SetP BrkP
namespace LexP
/-- Where word i of those that stand from a on begins. -/
def startAt (a : Nat) (L : List Wd) (i : Nat) : Int := if i = 0 then (a : Int) else (L.getD (i - 1) wd0).stop
theorem Reads.le {s : ByteArray} {a b : Nat} {L : List Wd} (h : Reads s a L b) : a ≤ b ∧ L.length ≤ b - a ∧ (a ≤ s.size → b ≤ s.size) := by
  induction h with
  | nil a => exact ⟨Nat.le_refl _, by simp, fun h => h⟩
  | cons ha hw he h ih =>
    obtain ⟨w', e', hw', he', g1, g2, _⟩ := fit_ok ha (by rw [hw])
    rw [hw] at hw'
    injection hw' with e1
    subst e1
    have : e' = _ := Int.ofNat.inj (he'.symm.trans he)
    subst this
    obtain ⟨i1, i2, i3⟩ := ih
    refine ⟨by omega, by simp; omega, fun _ => i3 g2⟩
theorem Reads.chain {s : ByteArray} {a b : Nat} {L : List Wd} (h : Reads s a L b) :
    (∀ i, i < L.length → ∃ p e : Nat, (L.getD i wd0).at_ = (p : Int) ∧ (L.getD i wd0).stop = (e : Int) ∧ p < e ∧ e ≤ s.size ∧ startAt a L i = (p : Int) ∧ WdOk (L.getD i wd0)) ∧ startAt a L L.length = (b : Int) := by
  induction h with
  | nil a => exact ⟨fun i hi => by simp at hi, by unfold startAt; rw [List.length_nil, if_pos rfl]⟩
  | @cons a e b w L ha hw he h ih =>
    obtain ⟨i1, i2⟩ := ih
    have hok : WdOk w := fit_wdOk (by have := nextW_fit ha; rwa [hw] at this)
    obtain ⟨w', e', hw', he', g1, g2, g3⟩ := fit_ok ha (by rw [hw])
    rw [hw] at hw'
    injection hw' with e1
    subst e1
    have e2 : e' = e := Int.ofNat.inj (he'.symm.trans he)
    subst e2
    have hst : ∀ i, i ≤ L.length → startAt a (w :: L) (i + 1) = startAt e' L i := by
      intro i hi
      unfold startAt
      rw [if_neg (by omega)]
      cases i with
      | zero => rw [if_pos rfl]; simpa using he
      | succ i => rw [if_neg (by omega)]; simp
    refine ⟨fun i hi => ?_, by rw [List.length_cons, hst _ (Nat.le_refl _)]; exact i2⟩
    cases i with
    | zero => exact ⟨a, e', g3, he, g1, g2, by unfold startAt; rw [if_pos rfl], hok⟩
    | succ i =>
      have hi' : i < L.length := by simpa using hi
      obtain ⟨p, q, h1, h2, h3, h4, h5, h6⟩ := i1 i hi'
      exact ⟨p, q, by simpa using h1, by simpa using h2, h3, h4, by rw [hst i (by omega)]; exact h5, by simpa using h6⟩
/-- Are two words alike but for their places? -/
structure SameW (v w : Wd) : Prop where
  kind : v.kind = w.kind
  set : same v.set w.set = true
  n : v.n = w.n
  m : v.m = w.m
def catT (L : List Wd) : List UInt8 := L.flatMap printW
theorem catT_cons (w : Wd) (L : List Wd) : catT (w :: L) = printW w ++ catT L := rfl
theorem catT_snoc (L : List Wd) (w : Wd) : catT (L ++ [w]) = catT L ++ printW w := by unfold catT; rw [List.flatMap_append]; simp
theorem bytes_app (A : ByteArray) (l m : List UInt8) : A ++ (⟨(l ++ m).toArray⟩ : ByteArray) = A ++ (⟨l.toArray⟩ : ByteArray) ++ ⟨m.toArray⟩ := by
  refine bytes_ext ?_
  simp [ByteArray.data_append]
theorem cat_reads (L : List Wd) (hL : ∀ w ∈ L, WdOk w) (A : ByteArray) : ∃ M, Reads (A ++ ⟨(catT L).toArray⟩) A.size M (A ++ (⟨(catT L).toArray⟩ : ByteArray)).size ∧ M.length = L.length ∧ ∀ i, i < L.length → SameW (M.getD i wd0) (L.getD i wd0) := by
  induction L generalizing A with
  | nil =>
    refine ⟨[], ?_, rfl, fun i hi => by simp at hi⟩
    have : (A ++ (⟨(catT []).toArray⟩ : ByteArray)).size = A.size := by rw [size_strB]; rfl
    rw [this]; exact .nil _
  | cons w L ih =>
    have hw := hL w (by simp)
    have hpos := printW_len hw
    obtain ⟨v, hv, v1, v2, v3, v4, v5, v6⟩ := read_printW A hw
    obtain ⟨M, hM, h1, h2⟩ := ih (fun x hx => hL x (by simp [hx])) (A ++ ⟨(printW w).toArray⟩)
    have hz := size_strB A (printW w)
    rw [catT_cons, bytes_app]
    rw [hz] at hM
    refine ⟨v :: M, .cons (e := A.size + (printW w).length) ?_ ?_ v3 hM, by simp [h1], fun i hi => ?_⟩
    · rw [size_strB, hz]; omega
    · rw [nextW_app _ (by rw [hz]; omega) (by rw [hv]; show ¬ (0 : Int) = 2; decide), hv]
    · cases i with
      | zero => exact ⟨v1, v4, v5, v6⟩
      | succ i => simpa using h2 i (by simpa using hi)
theorem empty_app (b : ByteArray) : (⟨#[]⟩ : ByteArray) ++ b = b := by refine bytes_ext ?_; simp [ByteArray.data_append]
theorem cat_read (L : List Wd) (hL : ∀ w ∈ L, WdOk w) : ∃ M, allGo ⟨(catT L).toArray⟩ 0 [] = (M, 0, 0) ∧ M.length = L.length ∧ ∀ i, i < L.length → SameW (M.getD i wd0) (L.getD i wd0) := by
  obtain ⟨M, h1, h2, h3⟩ := cat_reads L hL ⟨#[]⟩
  rw [empty_app] at h1
  have h1' : Reads ⟨(catT L).toArray⟩ 0 M (⟨(catT L).toArray⟩ : ByteArray).size := h1
  exact ⟨M, by rw [reads_allGo h1']; rfl, h2, h3⟩
theorem print_read {w : Wd} (h : WdOk w) : ∃ v, nextW ⟨(printW w).toArray⟩ 0 = ⟨v, 0, 0⟩ ∧ SameW v w ∧ v.stop = ((printW w).length : Int) := by
  obtain ⟨v, hv, v1, v2, v3, v4, v5, v6⟩ := read_printW ⟨#[]⟩ h
  rw [empty_app] at hv
  exact ⟨v, hv, ⟨v1, v4, v5, v6⟩, by rw [v3]; show (((0 : Nat) + (printW w).length : Nat) : Int) = _; rw [Nat.zero_add]⟩
/-- All words of a text, or none. -/
theorem all_cases (s : ByteArray) : (∃ L, allGo s 0 [] = (L, 0, 0) ∧ Reads s 0 L s.size) ∨ ∃ e k, e ≠ 0 ∧ allGo s 0 [] = ([], e, k) := by
  rcases allGo_reads s 0 (by omega) [] with ⟨L, h1, h2⟩ | ⟨L, b, h1, h2, h3, h4⟩
  · exact .inl ⟨L, by simpa using h1, h2⟩
  · exact .inr ⟨_, _, h3, h4⟩
theorem Reads.ok {s : ByteArray} {a b : Nat} {L : List Wd} (h : Reads s a L b) : ∀ w ∈ L, WdOk w := by
  intro w hw
  obtain ⟨i, hi, rfl⟩ := List.getElem_of_mem hw
  obtain ⟨_, _, _, _, _, _, _, h6⟩ := h.chain.1 i hi
  rwa [List.getD_eq_getElem?_getD, List.getElem?_eq_getElem hi] at h6
/-- What lacks to a word that ends too early. -/
def LackW (s : ByteArray) (a : Int) (c : ByteArray) : Prop :=
  ((nextW s a).err ≠ 2 ∧ c = ⟨#[]⟩) ∨ ((nextW s a).err = 2 ∧ 0 < c.size ∧ c.size ≤ 9 ∧ ∃ w, nextW (s ++ c) a = ⟨w, 0, 0⟩ ∧ w.at_ = a ∧ w.stop = (s.size : Int) + (c.size : Int))
theorem short_in {s : ByteArray} {a : Int} (h : (nextW s a).err = 2) : ∃ k : Nat, a = k ∧ k < s.size := by
  by_cases h0 : a < 0 ∨ (s.size : Int) ≤ a
  · rw [nextW_out h0] at h; exact absurd h (by show ¬ (1 : Int) = 2; decide)
  · exact ⟨a.toNat, by omega, by omega⟩
theorem lackW_ok {s c : ByteArray} {a : Nat} (ha : a < s.size) (h0 : (nextW s a).err = 2) (hc : 0 < c.size) (h9 : c.size ≤ 9) (h1 : (nextW (s ++ c) a).err = 0) (h2 : (nextW (s ++ c) a).word.stop = (s.size : Int) + (c.size : Int)) : LackW s a c := by
  have hz : (s ++ c).size = s.size + c.size := ByteArray.size_append
  obtain ⟨w, e, hw, _, _, _, g3⟩ := fit_ok (s := s ++ c) (a := a) (by omega) h1
  rw [hw] at h2
  exact .inr ⟨h0, hc, h9, w, hw, g3, h2⟩
theorem bt_left {s c : ByteArray} {a : Nat} (ha : a < s.size) : bt (s ++ c) a = bt s a := (alike_app s c).at_ a ha
theorem lackW_cnt {s c : ByteArray} {a : Nat} (ha : a < s.size) (hb : isCnt (bt s a) = true) (h : (nextW s a).err = 2) (hc : 0 < c.size ∧ c.size ≤ 2) (he : Ends (BraceP.readF (s ++ c).data.toList a) (s.size + c.size)) : LackW s a c := by
  have hz : (s ++ c).size = s.size + c.size := ByteArray.size_append
  have key : nextW (s ++ c) a = cntA a (BraceP.readF (s ++ c).data.toList a) := by
    rw [nextW_in (by omega), bt_left ha]
    unfold isCnt at hb
    simp only [Bool.or_eq_true, beq_iff_eq] at hb
    rcases hb with e | e | e | e <;> rw [e] <;> rfl
  obtain ⟨e0, e1⟩ := he
  refine lackW_ok ha h hc.1 (by omega) ?_ ?_
  · rw [key]; unfold cntA; rw [if_pos e0]
  · rw [key]; unfold cntA; rw [if_pos e0]; exact e1
theorem lackW_brk {s c : ByteArray} {a : Nat} (ha : a < s.size) (hb : bt s a = 91) (h : (nextW s a).err = 2) (hc : 0 < c.size ∧ c.size ≤ 9) (h0 : (readB (s ++ c) a).err = 0) (h1 : (readB (s ++ c) a).stop = (s.size : Int) + (c.size : Int)) : LackW s a c := by
  have hz : (s ++ c).size = s.size + c.size := ByteArray.size_append
  have key : nextW (s ++ c) a = brkA a (readB (s ++ c) a) := by
    rw [nextW_in (by omega), bt_left ha, hb]; rfl
  refine lackW_ok ha h hc.1 hc.2 ?_ ?_
  · rw [key]; unfold brkA; rw [if_pos h0]; rfl
  · rw [key]; unfold brkA; rw [if_pos h0]; exact h1
theorem lackW_esc {s : ByteArray} {a : Nat} (ha : a < s.size) (hb : bt s a = 92) (h : (nextW s a).err = 2) : LackW s a ⟨#[46]⟩ := by
  have hz : (s ++ (⟨#[46]⟩ : ByteArray)).size = s.size + 1 := ByteArray.size_append
  have hs : s.size = a + 1 := by
    rw [nextW_in ha, hb] at h
    have h' : (escA s a).err = 2 := h
    unfold escA at h'
    split at h'
    · omega
    · split at h'
      · exact absurd h' (by show ¬ (0 : Int) = 2; decide)
      · exact absurd h' (by show ¬ (3 : Int) = 2; decide)
  have hb1 : bt (s ++ (⟨#[46]⟩ : ByteArray)) (a + 1) = 46 := by
    have := bt_app s ⟨#[46]⟩ 0
    rw [hs] at this; rw [this]; rfl
  have key : nextW (s ++ ⟨#[46]⟩) a = oneA (addB noSet 46) a (a + 2) := by
    rw [nextW_in (by omega), bt_left ha, hb]
    show escA _ _ = _
    unfold escA
    rw [if_neg (by omega), hb1]; rfl
  refine lackW_ok ha h (by decide) (by decide) ?_ ?_
  · rw [key]; rfl
  · rw [key, hs]; show (a : Int) + 2 = ((a + 1 : Nat) : Int) + ((1 : Nat) : Int); omega
/-- Which words may end too early. -/
theorem short_byte {s : ByteArray} {a : Nat} (ha : a < s.size) (h : (nextW s a).err = 2) : (isCnt (bt s a) = true ∧ (BraceP.readF s.data.toList a).2.2.2.1 = 2) ∨ (bt s a = 91 ∧ (readB s a).err = 2) ∨ bt s a = 92 := by
  rw [nextW_in ha] at h
  unfold wordB at h
  split at h
  · exact absurd h (by show ¬ (0 : Int) = 2; decide)
  split at h
  · exact absurd h (by show ¬ (0 : Int) = 2; decide)
  split at h
  · exact absurd h (by show ¬ (0 : Int) = 2; decide)
  split at h
  · rename_i hc
    refine .inl ⟨hc, ?_⟩
    unfold cntA at h
    split at h
    · exact absurd h (by show ¬ (0 : Int) = 2; decide)
    · exact h
  split at h
  · rename_i hb
    refine .inr (.inl ⟨by simpa using hb, ?_⟩)
    unfold brkA at h
    split at h
    · exact absurd h (by show ¬ (0 : Int) = 2; decide)
    · exact h
  split at h
  · exact absurd h (by show ¬ (0 : Int) = 2; decide)
  split at h
  · rename_i hb
    exact .inr (.inr (by simpa using hb))
  split at h
  · exact absurd h (by show ¬ (3 : Int) = 2; decide)
  · exact absurd h (by show ¬ (0 : Int) = 2; decide)
end LexP
end Go.Proofs.Ytddokdjlmdoebaa
