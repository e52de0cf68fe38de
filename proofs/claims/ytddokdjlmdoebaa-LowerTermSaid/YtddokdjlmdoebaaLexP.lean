/- Plain facts on words of a pattern: what a text at a place is as a word. No program is in sight. -/
import Derived.Test.YtddokdjlmdoebaaMBkp
import Derived.Test.YtddokdjlmdoebaaMBra
set_option linter.unusedVariables false
set_option linter.unusedSimpArgs false
namespace Go.Proofs.Ytddokdjlmdoebaa
open Go.RowKit SetP BrkP
namespace LexP
/-- A word: its kind, where it begins and ends, its set, its counts. -/
structure Wd where
  kind : Int
  at_ : Int
  stop : Int
  set : Nat → Bool
  n : Int
  m : Int
abbrev noSet : Nat → Bool := fun _ => false
def wd0 : Wd := ⟨0, 0, 0, noSet, 0, 0⟩
/-- A word, the error, its place. -/
structure WAns where
  word : Wd
  err : Int
  place : Int
def oneA (f : Nat → Bool) (a e : Int) : WAns := ⟨⟨1, a, e, f, 0, 0⟩, 0, 0⟩
def signA (k a : Int) : WAns := ⟨⟨k, a, a + 1, noSet, 0, 0⟩, 0, 0⟩
def badA (e p : Int) : WAns := ⟨wd0, e, p⟩
def escL : List UInt8 := [46, 91, 93, 92, 40, 41, 42, 43, 63, 123, 125, 124, 94, 36]
def escB (b : UInt8) : Bool := escL.contains b
def isCnt (b : UInt8) : Bool := b == 42 || (b == 43 || (b == 63 || b == 123))
def cntA (a : Int) (r : BraceP.R) : WAns := if r.2.2.2.1 = 0 then ⟨⟨5, a, r.2.2.1, noSet, r.1, r.2.1⟩, 0, 0⟩ else badA r.2.2.2.1 r.2.2.2.2
def brkA (a : Int) (r : BrkP.Ans) : WAns := if r.err = 0 then oneA r.set a r.stop else badA r.err r.place
def escA (s : ByteArray) (a : Nat) : WAns :=
  if s.size ≤ a + 1 then badA 2 s.size else if escB (bt s (a + 1)) then oneA (addB noSet (bt s (a + 1)).toNat) a (a + 2) else badA 3 (a + 2)
def wordB (s : ByteArray) (a : Nat) (b : UInt8) : WAns :=
  if b == 40 then signA 2 a
  else if b == 41 then signA 3 a
  else if b == 124 then signA 4 a
  else if isCnt b then cntA a (BraceP.readF s.data.toList a)
  else if b == 91 then brkA a (readB s a)
  else if b == 46 then oneA (rangeF 0 255) a (a + 1)
  else if b == 92 then escA s a
  else if b == 94 || b == 36 then badA 3 (a + 1)
  else oneA (addB noSet b.toNat) a (a + 1)
def nextW (s : ByteArray) (a : Int) : WAns := if a < 0 ∨ (s.size : Int) ≤ a then badA 1 0 else wordB s a.toNat (bt s a.toNat)
theorem nextW_in {s : ByteArray} {a : Nat} (h : a < s.size) : nextW s a = wordB s a (bt s a) := by
  unfold nextW; rw [if_neg (by omega), Int.toNat_natCast]
theorem nextW_out {s : ByteArray} {a : Int} (h : a < 0 ∨ (s.size : Int) ≤ a) : nextW s a = badA 1 0 := by unfold nextW; rw [if_pos h]

/-- What an answer at place a may be: a word; an end too early; an error. -/
inductive Fit (a n : Nat) : WAns → Prop where
  | ok (k : Int) (e : Nat) (f : Nat → Bool) (x y : Int) (hk : 1 ≤ k ∧ k ≤ 5) (h1 : a < e) (h2 : e ≤ n) (hc : k = 5 → BraceP.Right x y) (hn : k ≠ 5 → x = 0 ∧ y = 0) (hf : k ≠ 1 → f = noSet) : Fit a n ⟨⟨k, a, e, f, x, y⟩, 0, 0⟩
  | short : Fit a n (badA 2 n)
  | bad (e : Int) (p : Nat) (he : e = 3 ∨ e = 4 ∨ e = 5 ∨ e = 6) (h1 : a < p) (h2 : p ≤ n) : Fit a n (badA e p)
theorem Fit.one {a n e : Nat} {f : Nat → Bool} (h1 : a < e) (h2 : e ≤ n) : Fit a n (oneA f a e) := .ok 1 e f 0 0 (by omega) h1 h2 (by omega) (fun _ => ⟨rfl, rfl⟩) (fun h => absurd rfl h)
theorem Fit.sign {a n : Nat} {k : Int} (hk : 2 ≤ k ∧ k ≤ 4) (h : a < n) : Fit a n (signA k a) := .ok k (a + 1) noSet 0 0 (by omega) (by omega) (by omega) (by omega) (fun _ => ⟨rfl, rfl⟩) (fun _ => rfl)
theorem readF_err1 {s : ByteArray} {a : Nat} (h : a < s.size) (hb : isCnt (bt s a) = true) : (BraceP.readF s.data.toList a).2.2.2.1 ≠ 1 := by
  have hl : a < s.data.toList.length := by simpa using h
  have e : s.data.toList.drop a = bt s a :: s.data.toList.drop (a + 1) := by
    rw [List.drop_eq_getElem_cons hl]; unfold bt; rw [List.getD_eq_getElem?_getD, List.getElem?_eq_getElem hl]; rfl
  unfold BraceP.readF
  rw [if_neg (by omega), Int.toNat_natCast, e]
  simp only [BraceP.rd0]
  have hg := BraceP.rd1_good (s.data.toList.drop (a + 1)) ((a : Int) + 1) 0 0 (.inl ⟨rfl, rfl⟩)
  split
  · show ¬ (0 : Int) = 1; decide
  split
  · show ¬ (0 : Int) = 1; decide
  split
  · show ¬ (0 : Int) = 1; decide
  split
  · intro h1
    rcases hg with h | h | h
    · rw [h1] at h; exact absurd h.1 (by decide)
    · rw [h1] at h; exact absurd h.1 (by decide)
    · rw [h1] at h; exact absurd h.1 (by decide)
  · rename_i h1 h2 h3 h4
    unfold isCnt at hb
    simp only [Bool.or_eq_true] at hb
    rcases hb with h | h | h | h
    · exact absurd h h1
    · exact absurd h h2
    · exact absurd h h3
    · exact absurd h h4
theorem readB_err1 {s : ByteArray} {a : Nat} (h : a < s.size) (hb : (bt s a == 91) = true) : (readB s a).err ≠ 1 := by
  have key : ∀ (b : Bool) (i : Nat) (R : Res), Fits i s.size R → (ansOf b R).err ≠ 1 := by
    intro b i R hf
    cases R with
    | go j f => exact fun h => absurd h (by show ¬ (0 : Int) = 1; decide)
    | bad e p =>
      show e ≠ 1
      rcases hf with ⟨rfl, _⟩ | ⟨h, _⟩ <;> omega
  unfold readB
  rw [if_neg (by omega), Int.toNat_natCast, if_neg (nobne hb)]
  split
  · exact key _ _ _ (loopF_fits _ _)
  · exact key _ _ _ (loopF_fits _ _)
theorem wordB_fit {s : ByteArray} {a : Nat} (h : a < s.size) : Fit a s.size (wordB s a (bt s a)) := by
  unfold wordB
  split
  · exact .sign (by decide) h
  split
  · exact .sign (by decide) h
  split
  · exact .sign (by decide) h
  split
  · rename_i hc
    have hk := BraceP.readF_known s.data.toList a
    have h1 := readF_err1 h hc
    have hl : s.data.toList.length = s.size := by simp
    rw [hl] at hk
    unfold cntA
    generalize BraceP.readF s.data.toList a = r at *
    obtain ⟨n, m, to, er, k⟩ := r
    simp only at h1 ⊢
    rcases hk with hk | hk
    · rcases hk with ⟨g1, g2, g3, g4, g5⟩ | ⟨g1, g2, g3, g4, g5⟩ | ⟨g1, g2, g3, g4, g5, g6⟩
      · simp only at g1 g2 g3 g4
        subst g1
        rw [if_pos rfl]
        obtain ⟨e, rfl⟩ := Int.eq_ofNat_of_zero_le (show 0 ≤ to by omega)
        exact .ok 5 e noSet n m (by omega) (by omega) (by omega) (fun _ => g2) (fun h => absurd rfl h) (fun _ => rfl)
      · simp only at g1 g5
        subst g1 g5
        rw [if_neg (by decide)]
        exact .short
      · simp only at g1 g5 g6
        rw [if_neg (by omega)]
        obtain ⟨e, rfl⟩ := Int.eq_ofNat_of_zero_le (show 0 ≤ k by omega)
        exact .bad er e (by omega) (by omega) (by omega)
    · cases hk; exact absurd rfl h1
  split
  · rename_i hb
    have h1 := readB_err1 h hb
    unfold brkA
    rcases readB_cases s a with ⟨f, t, he, g1, g2, _⟩ | ⟨he, _⟩ | ⟨er, k, g0, he, g1, g2, _⟩ | he
    · rw [he, if_pos rfl]
      exact .one (by omega) g2
    · rw [he, if_neg (by show ¬ (2 : Int) = 0; decide)]
      exact .short
    · rw [he, if_neg (by show ¬ er = 0; omega)]
      exact .bad er k (by omega) (by omega) g2
    · rw [he] at h1; exact absurd rfl h1
  split
  · exact .one (e := a + 1) (by omega) (by omega)
  split
  · unfold escA
    split
    · exact .short
    split
    · exact .one (e := a + 2) (by omega) (by omega)
    · exact .bad 3 (a + 2) (by omega) (by omega) (by omega)
  split
  · exact .bad 3 (a + 1) (by omega) (by omega) (by omega)
  · exact .one (e := a + 1) (by omega) (by omega)
theorem nextW_fit {s : ByteArray} {a : Nat} (h : a < s.size) : Fit a s.size (nextW s a) := by rw [nextW_in h]; exact wordB_fit h

/-- An answer that was found within the first n bytes. -/
def Told (n : Nat) (r : WAns) : Prop := (r.err = 0 ∧ r.word.stop ≤ n) ∨ (r.err ≠ 0 ∧ r.err ≠ 2 ∧ r.place ≤ n)
theorem alike_take {n : Nat} {s t : ByteArray} (h : BrkP.Alike n s t) : t.data.toList.take n = s.data.toList.take n := by
  have e := h.ex 0 n (Nat.le_refl _)
  have e2 := congrArg (fun x : ByteArray => x.data.toList) e
  simp only [extract_list, List.drop_zero] at e2
  exact e2
theorem readF_alike {n : Nat} {s t : ByteArray} (h : BrkP.Alike n s t) (a : Int) (h1 : (BraceP.readF s.data.toList a).2.2.2.1 ≠ 1) (h2 : (BraceP.readF s.data.toList a).2.2.2.1 ≠ 2)
    (hc : BraceP.cutOf (BraceP.readF s.data.toList a) ≤ n) : BraceP.readF t.data.toList a = BraceP.readF s.data.toList a := by
  have hs := BraceP.readF_sure s.data.toList (t.data.toList.drop (BraceP.cutOf (BraceP.readF s.data.toList a)).toNat) a h1 h2
  generalize hk : BraceP.cutOf (BraceP.readF s.data.toList a) = k at *
  have e : s.data.toList.take k.toNat = t.data.toList.take k.toNat := by
    have := congrArg (List.take k.toNat) (alike_take h)
    rw [List.take_take, List.take_take, Nat.min_eq_left (by omega)] at this
    exact this.symm
  rw [e, List.take_append_drop] at hs
  exact hs
theorem nextW_alike {n : Nat} {s t : ByteArray} (h : BrkP.Alike n s t) {a : Nat} (ha : a < n) (hw : Told n (nextW s a)) : nextW t a = nextW s a := by
  have g1 := h.hs
  have g2 := h.ht
  rw [nextW_in (by omega)] at hw ⊢
  rw [nextW_in (by omega), h.at_ a ha]
  generalize hb : bt s a = b at *
  unfold wordB at hw ⊢
  by_cases c1 : (b == 40) = true
  · rw [if_pos c1, if_pos c1]
  rw [if_neg c1] at hw
  rw [if_neg c1, if_neg c1]
  by_cases c2 : (b == 41) = true
  · rw [if_pos c2, if_pos c2]
  rw [if_neg c2] at hw
  rw [if_neg c2, if_neg c2]
  by_cases c3 : (b == 124) = true
  · rw [if_pos c3, if_pos c3]
  rw [if_neg c3] at hw
  rw [if_neg c3, if_neg c3]
  by_cases c4 : isCnt b = true
  · rw [if_pos c4] at hw
    rw [if_pos c4, if_pos c4]
    have k1 := readF_err1 (s := s) (a := a) (by omega) (by rw [hb]; exact c4)
    have : (BraceP.readF s.data.toList a).2.2.2.1 ≠ 2 ∧ BraceP.cutOf (BraceP.readF s.data.toList a) ≤ n := by
      unfold cntA at hw
      unfold BraceP.cutOf
      split at hw
      · rename_i h0
        rw [if_pos h0, h0]
        rcases hw with hw | hw
        · exact ⟨by decide, hw.2⟩
        · exact absurd rfl hw.1
      · rename_i h0
        rw [if_neg h0]
        rcases hw with hw | hw
        · exact absurd hw.1 h0
        · exact hw.2
    rw [readF_alike h a k1 this.1 this.2]
  rw [if_neg c4] at hw
  rw [if_neg c4, if_neg c4]
  by_cases c5 : (b == 91) = true
  · rw [if_pos c5] at hw
    rw [if_pos c5, if_pos c5]
    have k1 := readB_err1 (s := s) (a := a) (by omega) (by rw [hb]; exact c5)
    rw [readB_alike h a (by omega) (by omega)]
    unfold brkA at hw
    split at hw
    · rename_i h0
      rcases hw with hw | hw
      · exact .inl ⟨h0, hw.2⟩
      · exact absurd rfl hw.1
    · rename_i h0
      rcases hw with hw | ⟨_, w1, w2⟩
      · exact absurd hw.1 h0
      · have w1' : (readB s a).err ≠ 2 := w1
        rcases readB_cases s a with ⟨_, _, he, _⟩ | ⟨he, _⟩ | ⟨er, k, g0, he, _⟩ | he
        · rw [he] at h0; exact absurd rfl h0
        · rw [he] at w1'; exact absurd rfl w1'
        · refine .inr ⟨?_, w2⟩
          rw [he]; exact g0
        · rw [he] at k1; exact absurd rfl k1
  rw [if_neg c5] at hw
  rw [if_neg c5, if_neg c5]
  by_cases c6 : (b == 46) = true
  · rw [if_pos c6, if_pos c6]
  rw [if_neg c6] at hw
  rw [if_neg c6, if_neg c6]
  by_cases c7 : (b == 92) = true
  · rw [if_pos c7] at hw
    rw [if_pos c7, if_pos c7]
    unfold escA at hw ⊢
    by_cases d1 : s.size ≤ a + 1
    · rw [if_pos d1] at hw
      rcases hw with hw | hw
      · exact absurd hw.1 (by show ¬ (2 : Int) = 0; decide)
      · exact absurd rfl hw.2.1
    rw [if_neg d1] at hw
    have ha2 : a + 2 ≤ n := by
      split at hw
      · rcases hw with hw | hw
        · have : ((a : Int) + 2) ≤ n := hw.2
          omega
        · exact absurd rfl hw.1
      · rcases hw with hw | hw
        · exact absurd hw.1 (by show ¬ (3 : Int) = 0; decide)
        · have : ((a : Int) + 2) ≤ n := hw.2.2
          omega
    rw [if_neg (by omega), if_neg d1, h.at_ (a + 1) (by omega)]
  rw [if_neg c7] at hw
  rw [if_neg c7, if_neg c7]
/-- What an answer within the first n bytes is, of a word or an error: it is told. -/
theorem Fit.told {a n : Nat} {r : WAns} (h : Fit a n r) (h2 : r.err ≠ 2) : Told n r := by
  cases h with
  | ok k e f x y hk g1 g2 hc hn hf => exact .inl ⟨rfl, by show (e : Int) ≤ n; omega⟩
  | short => exact absurd rfl h2
  | bad e p he g1 g2 => exact .inr ⟨by show e ≠ 0; omega, h2, by show (p : Int) ≤ n; omega⟩
/-- A text that goes on: what was read stays. -/
theorem nextW_app {s : ByteArray} (more : ByteArray) {a : Nat} (h : a < s.size) (h2 : (nextW s a).err ≠ 2) : nextW (s ++ more) a = nextW s a :=
  nextW_alike (alike_app s more) h ((nextW_fit h).told h2)
/-- A text that is cut within a word: it ends too early. -/
theorem nextW_cut {s t : ByteArray} {n a : Nat} (h : BrkP.Alike n s t) (hn : t.size = n) (ha : a < n) (hw : ¬ Told n (nextW s a)) : nextW t a = badA 2 n := by
  have hs : BrkP.Alike n t s := by
    refine alike_list (by omega) h.hs ?_
    exact (alike_take h).symm
  have hf := nextW_fit (s := t) (a := a) (by omega)
  by_cases h2 : (nextW t a).err = 2
  · rw [hn] at hf
    generalize nextW t a = r at *
    cases hf with
    | ok k e f x y hk g1 g2 hc hn hf => exact absurd h2 (by show ¬ (0 : Int) = 2; decide)
    | short => rfl
    | bad e p he g1 g2 => have h2' : e = 2 := h2; omega
  · have ht := hf.told h2
    rw [hn] at ht
    exact absurd (by rw [nextW_alike hs ha ht]; exact ht) hw
end LexP
end Go.Proofs.Ytddokdjlmdoebaa
