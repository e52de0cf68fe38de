/- Plain facts on brackets: what is read of a bracket does not hang on what stands behind it. No program is in sight. -/
import Derived.Test.YthppilfojicfdaaBrkP
namespace Go.Proofs.Ythppilfojicfdaa
open Go.RowKit SetP
namespace BrkP
theorem cg_out {s : ByteArray} {a j : Nat} {f : Nat → Bool} (h : s.size ≤ j) : classGo s a f j = .bad 2 s.size := by rw [classGo, dif_pos h]
theorem cg_close {s : ByteArray} {a j : Nat} {f : Nat → Bool} (h : j < s.size) (hb : (bt s j == 58) = true) : classGo s a f j = closeF s a j f := by rw [classGo, dif_neg (by omega), if_pos hb]
theorem cg_on {s : ByteArray} {a j : Nat} {f : Nat → Bool} (h : j < s.size) (hb : (bt s j == 58) = false) (hg : beginsF (s.extract a (j + 1)) = true) : classGo s a f j = classGo s a f (j + 1) := by
  rw [classGo, dif_neg (by omega), if_neg (by rw [hb]; simp), if_pos hg]
theorem cg_bad {s : ByteArray} {a j : Nat} {f : Nat → Bool} (h : j < s.size) (hb : (bt s j == 58) = false) (hg : beginsF (s.extract a (j + 1)) = false) : classGo s a f j = .bad 5 (j + 1) := by
  rw [classGo, dif_neg (by omega), if_neg (by rw [hb]; simp), if_neg (by rw [hg]; simp)]
theorem lo_out {s : ByteArray} {first i : Nat} {f : Nat → Bool} (h : s.size ≤ i) : loopF s first i f = .bad 2 s.size := by rw [loopF, dif_pos h]
theorem lo_end {s : ByteArray} {first i : Nat} {f : Nat → Bool} (h : i < s.size) (hb : (bt s i == 93) = true) (hf : first < i) : loopF s first i f = .go (i + 1) f := by
  rw [loopF, dif_neg (by omega), if_pos (by rw [hb]; simpa using hf)]
theorem nobne {b k : UInt8} (h : (b == k) = true) : ¬ (b != k) = true := by unfold bne; rw [h]; simp
theorem isbne {b k : UInt8} (h : (b == k) = false) : (b != k) = true := by unfold bne; rw [h]; rfl

/-- An answer that was found within the first n bytes. -/
def Within (n : Nat) : Res → Prop
  | .go i _ => i ≤ n
  | .bad e p => e ≠ 2 ∧ p ≤ n
/-- What an answer at place i is: behind i, within the text, its error one of four. -/
def Fits (i n : Nat) : Res → Prop
  | .go j _ => i < j ∧ j ≤ n
  | .bad e p => (e = 2 ∧ p = n) ∨ ((e = 3 ∨ e = 4 ∨ e = 5) ∧ i < p ∧ p ≤ n)
theorem Fits.up {i i' n : Nat} {r : Res} (h : Fits i' n r) (hi : i ≤ i') : Fits i n r := by
  cases r with
  | go j f => exact ⟨by have := h.1; omega, h.2⟩
  | bad e p => rcases h with h | ⟨h, h1, h2⟩
               · exact .inl h
               · exact .inr ⟨h, by omega, h2⟩
theorem closeF_fits {s : ByteArray} {a j : Nat} {f : Nat → Bool} (hj : j < s.size) : Fits j s.size (closeF s a j f) := by
  unfold closeF
  split
  · exact .inr ⟨.inr (.inr rfl), by omega, by omega⟩
  · split
    · exact .inl ⟨rfl, rfl⟩
    · split
      · exact ⟨by omega, by omega⟩
      · exact .inr ⟨.inl rfl, by omega, by omega⟩
theorem classGo_fits {s : ByteArray} {a : Nat} {f : Nat → Bool} (j : Nat) : Fits j s.size (classGo s a f j) := by
  induction hn : s.size - j using Nat.strongRecOn generalizing j with
  | _ n ih =>
    by_cases hj : s.size ≤ j
    · rw [cg_out hj]; exact .inl ⟨rfl, rfl⟩
    have hj' : j < s.size := by omega
    cases hb : (bt s j == 58) with
    | true => rw [cg_close hj' hb]; exact closeF_fits hj'
    | false =>
    cases hg : beginsF (s.extract a (j + 1)) with
    | true => rw [cg_on hj' hb hg]; exact (ih (s.size - (j + 1)) (by omega) (j + 1) rfl).up (by omega)
    | false => rw [cg_bad hj' hb hg]; exact .inr ⟨.inr (.inr rfl), by omega, by omega⟩
theorem spanF_fits {s : ByteArray} {i : Nat} {f : Nat → Bool} {c : UInt8} : Fits i s.size (spanF s i f c) := by
  unfold spanF
  split
  · exact .inl ⟨rfl, rfl⟩
  split
  · exact ⟨by omega, by omega⟩
  split
  · exact .inl ⟨rfl, rfl⟩
  split
  · exact ⟨by omega, by omega⟩
  split
  · exact .inr ⟨.inr (.inl rfl), by omega, by omega⟩
  split
  · exact .inl ⟨rfl, rfl⟩
  split
  · rename_i h1 h2
    simp only [Bool.and_eq_true, decide_eq_true_eq] at h1 h2
    have : ¬ s.size ≤ i + 3 := fun h => h1 ⟨h2.1, h⟩
    exact .inr ⟨.inl rfl, by omega, by omega⟩
  · exact ⟨by omega, by omega⟩
theorem thingF_fits {s : ByteArray} {i : Nat} {f : Nat → Bool} : Fits i s.size (thingF s i f) := by
  unfold thingF
  split
  · split
    · exact .inl ⟨rfl, rfl⟩
    · split
      · exact (classGo_fits _).up (by omega)
      · split
        · exact .inr ⟨.inl rfl, by omega, by omega⟩
        · exact spanF_fits
  · exact spanF_fits
theorem loopF_fits {s : ByteArray} {first : Nat} (i : Nat) (f : Nat → Bool) : Fits i s.size (loopF s first i f) := by
  induction hn : s.size - i using Nat.strongRecOn generalizing i f with
  | _ n ih =>
    by_cases hi : s.size ≤ i
    · rw [lo_out hi]; exact .inl ⟨rfl, rfl⟩
    have hi' : i < s.size := by omega
    cases he : (bt s i == 93 && decide (first < i)) with
    | true => simp only [Bool.and_eq_true, decide_eq_true_eq] at he; rw [lo_end hi' he.1 he.2]; exact ⟨by omega, by omega⟩
    | false =>
    rw [loopF_step hi' he]
    have ht := thingF_fits (s := s) (i := i) (f := f)
    cases hq : thingF s i f with
    | bad e p => rw [hq] at ht; exact ht
    | go i' f' => rw [hq] at ht; exact (ih (s.size - i') (by have := ht.1; omega) i' f' rfl).up (by have := ht.1; omega)

/-- Two texts whose first n bytes are alike. -/
structure Alike (n : Nat) (s t : ByteArray) : Prop where
  hs : n ≤ s.size
  ht : n ≤ t.size
  at_ : ∀ k, k < n → bt t k = bt s k
  ex : ∀ a b, b ≤ n → t.extract a b = s.extract a b
theorem extract_list (s : ByteArray) (a b : Nat) : (s.extract a b).data.toList = (s.data.toList.take b).drop a := by
  rw [ByteArray.data_extract, Array.toList_extract, List.extract_eq_take_drop, List.drop_take]
theorem bytes_ext {s t : ByteArray} (h : s.data.toList = t.data.toList) : s = t := by
  cases s; cases t; congr 1; exact Array.toList_inj.1 h
theorem alike_list {n : Nat} {s t : ByteArray} (hs : n ≤ s.size) (ht : n ≤ t.size) (h : t.data.toList.take n = s.data.toList.take n) : Alike n s t where
  hs := hs
  ht := ht
  at_ := fun k hk => by
    unfold bt
    have e := congrArg (fun l : List UInt8 => l[k]?) h
    simp only [List.getElem?_take, if_pos hk] at e
    rw [List.getD_eq_getElem?_getD, List.getD_eq_getElem?_getD, e]
  ex := fun a b hb => by
    apply bytes_ext
    rw [extract_list, extract_list]
    have e := congrArg (List.take b) h
    rw [List.take_take, List.take_take, Nat.min_eq_left hb] at e
    rw [e]
theorem alike_cut (s more : ByteArray) (n : Nat) (h : n ≤ s.size) : Alike n s (s.extract 0 n ++ more) := by
  have e : (s.extract 0 n ++ more).data.toList = s.data.toList.take n ++ more.data.toList := by rw [ByteArray.data_append, Array.toList_append, extract_list]; rfl
  have hl : s.data.toList.length = s.size := by simp
  refine alike_list h (by rw [ByteArray.size_append]; simp; omega) ?_
  rw [e, List.take_append_of_le_length (by rw [List.length_take]; omega), List.take_take, Nat.min_self]
theorem alike_app (s more : ByteArray) : Alike s.size s (s ++ more) := by
  have e : (s ++ more).data.toList = s.data.toList ++ more.data.toList := by rw [ByteArray.data_append, Array.toList_append]
  have hl : s.data.toList.length = s.size := by simp
  refine alike_list (Nat.le_refl _) (by rw [ByteArray.size_append]; omega) ?_
  rw [e, List.take_append_of_le_length (by omega)]

theorem closeF_alike {n : Nat} {s t : ByteArray} (h : Alike n s t) {a j : Nat} {f : Nat → Bool} (hj : j < n) (hw : Within n (closeF s a j f)) : closeF t a j f = closeF s a j f := by
  have h1 := h.hs
  have h2 := h.ht
  unfold closeF at *
  rw [h.ex a j (by omega)]
  cases hc : clsOf (s.extract a j) with
  | none => rfl
  | some k =>
    rw [hc] at hw
    simp only at hw ⊢
    by_cases k1 : s.size ≤ j + 1
    · rw [if_pos k1] at hw; exact absurd rfl hw.1
    rw [if_neg k1] at hw ⊢
    have hj2 : j + 2 ≤ n := by
      split at hw
      · exact hw
      · exact hw.2
    rw [if_neg (by omega), h.at_ _ (by omega)]
theorem fits_within {i m n : Nat} {r : Res} (h : Fits i m r) (hw : Within n r) : i < n := by
  cases r with
  | go j f => have := h.1; have : j ≤ n := hw; omega
  | bad e p => rcases h with h | ⟨h, h1, h2⟩
               · exact absurd h.1 hw.1
               · have := hw.2; omega
theorem classGo_alike {n : Nat} {s t : ByteArray} (h : Alike n s t) {a : Nat} {f : Nat → Bool} (j : Nat) (hw : Within n (classGo s a f j)) : classGo t a f j = classGo s a f j := by
  have h1 := h.hs
  have h2 := h.ht
  induction hn : s.size - j using Nat.strongRecOn generalizing j with
  | _ m ih =>
    have hjn := fits_within (classGo_fits j) hw
    have hj' : j < s.size := by omega
    have hb' := h.at_ j hjn
    have hx := h.ex a (j + 1) (by omega)
    cases hb : (bt s j == 58) with
    | true =>
      rw [cg_close hj' hb] at hw ⊢
      rw [cg_close (by omega) (by rw [hb']; exact hb)]
      exact closeF_alike h hjn hw
    | false =>
    cases hg : beginsF (s.extract a (j + 1)) with
    | true =>
      rw [cg_on hj' hb hg] at hw ⊢
      rw [cg_on (by omega) (by rw [hb']; exact hb) (by rw [hx]; exact hg)]
      exact ih (s.size - (j + 1)) (by omega) (j + 1) hw rfl
    | false =>
      rw [cg_bad hj' hb hg]
      rw [cg_bad (by omega) (by rw [hb']; exact hb) (by rw [hx]; exact hg)]
/-- A thing's answer found within the first n bytes, the byte behind it among them; behind a byte, - and ], also that. -/
def Seen (n i : Nat) (s : ByteArray) : Res → Prop
  | .go j _ => j < n ∧ (j = i + 1 → bt s (i + 1) = 45 → i + 2 < n)
  | .bad e p => e ≠ 2 ∧ p ≤ n
theorem spanF_alike {n : Nat} {s t : ByteArray} (h : Alike n s t) {i : Nat} {f : Nat → Bool} {c : UInt8} (hw : Seen n i s (spanF s i f c)) : spanF t i f c = spanF s i f c := by
  have h1 := h.hs
  have h2 := h.ht
  unfold spanF at *
  by_cases k1 : s.size ≤ i + 1
  · rw [if_pos k1] at hw; exact absurd rfl hw.1
  rw [if_neg k1] at hw ⊢
  have kn : i + 1 < n := by
    split at hw
    · exact hw.1
    split at hw
    · exact absurd rfl hw.1
    split at hw
    · exact hw.1
    split at hw
    · have := hw.2; omega
    split at hw
    · exact absurd rfl hw.1
    split at hw
    · have := hw.2; omega
    · have := hw.1; omega
  rw [if_neg (by omega), h.at_ _ kn]
  by_cases k2 : (bt s (i + 1) != 45) = true
  · rw [if_pos k2, if_pos k2]
  rw [if_neg k2] at hw ⊢
  rw [if_neg k2]
  have e45 : bt s (i + 1) = 45 := by simpa using k2
  by_cases k3 : s.size ≤ i + 2
  · rw [if_pos k3] at hw; exact absurd rfl hw.1
  rw [if_neg k3] at hw ⊢
  have kn2 : i + 2 < n := by
    split at hw
    · exact hw.2 rfl e45
    split at hw
    · have := hw.2; omega
    split at hw
    · exact absurd rfl hw.1
    split at hw
    · have := hw.2; omega
    · have := hw.1; omega
  rw [if_neg (by omega), h.at_ _ kn2]
  by_cases k4 : (bt s (i + 2) == 93) = true
  · rw [if_pos k4, if_pos k4]
  rw [if_neg k4] at hw ⊢
  rw [if_neg k4]
  by_cases k5 : (bt s (i + 2)).toNat < c.toNat
  · rw [if_pos k5, if_pos k5]
  rw [if_neg k5] at hw ⊢
  rw [if_neg k5]
  by_cases k6 : (bt s (i + 2) == 91 && decide (s.size ≤ i + 3)) = true
  · rw [if_pos k6] at hw; exact absurd rfl hw.1
  rw [if_neg k6] at hw ⊢
  have kn3 : i + 3 < n := by
    split at hw
    · have := hw.2; omega
    · have := hw.1; omega
  rw [if_neg (by simp; intro _; omega), h.at_ _ kn3]
theorem thingF_alike {n : Nat} {s t : ByteArray} (h : Alike n s t) {i : Nat} {f : Nat → Bool} (hin : i < n) (hw : Seen n i s (thingF s i f)) : thingF t i f = thingF s i f := by
  have h1 := h.hs
  have h2 := h.ht
  unfold thingF at *
  rw [h.at_ _ hin]
  by_cases k0 : (bt s i == 91) = true
  · rw [if_pos k0] at hw ⊢
    rw [if_pos k0]
    by_cases k1 : s.size ≤ i + 1
    · rw [if_pos k1] at hw; exact absurd rfl hw.1
    rw [if_neg k1] at hw ⊢
    have hlt : ∀ {r : Res}, Fits i s.size r → Seen n i s r → Within n r := by
      intro r _ hs
      cases r with
      | go j g => exact Nat.le_of_lt hs.1
      | bad e p => exact hs
    have kn : i + 1 < n := by
      split at hw
      · have := fits_within (classGo_fits _) (hlt ((classGo_fits _).up (by omega)) hw); omega
      split at hw
      · have := hw.2; omega
      · have e := hlt spanF_fits hw
        cases hq : spanF s i f 91 with
        | go j g =>
          rw [hq] at hw
          have := (spanF_fits (s := s) (i := i) (f := f) (c := 91)); rw [hq] at this
          have := this.1; have := hw.1; omega
        | bad ee p =>
          rw [hq] at hw
          have h0 := hq
          unfold spanF at h0
          rw [if_neg k1] at h0
          split at h0
          · cases h0
          split at h0
          · cases h0; exact absurd rfl hw.1
          split at h0
          · cases h0
          split at h0
          · cases h0; have := hw.2; omega
          split at h0
          · cases h0; exact absurd rfl hw.1
          split at h0
          · cases h0; have := hw.2; omega
          · cases h0
    rw [if_neg (by omega), h.at_ _ kn]
    by_cases k2 : (bt s (i + 1) == 58) = true
    · rw [if_pos k2] at hw ⊢
      rw [if_pos k2]
      exact classGo_alike h _ (hlt ((classGo_fits _).up (by omega)) hw)
    rw [if_neg k2] at hw ⊢
    rw [if_neg k2]
    by_cases k3 : marksB (bt s (i + 1)) = true
    · rw [if_pos k3, if_pos k3]
    rw [if_neg k3] at hw ⊢
    rw [if_neg k3]
    exact spanF_alike h hw
  · rw [if_neg k0] at hw ⊢
    rw [if_neg k0]
    exact spanF_alike h hw
theorem spanF_dash {s : ByteArray} {i : Nat} {f : Nat → Bool} {c : UInt8} {g : Nat → Bool} (h : spanF s i f c = .go (i + 1) g) (hb : bt s (i + 1) = 45) : i + 2 < s.size ∧ (bt s (i + 2) == 93) = true := by
  unfold spanF at h
  split at h
  · cases h
  split at h
  · rename_i k; rw [hb] at k; exact absurd k (by decide)
  split at h
  · cases h
  split at h
  · rename_i k3 k4; exact ⟨by omega, k4⟩
  split at h
  · cases h
  split at h
  · cases h
  split at h
  · cases h
  · injection h with h h'; omega
theorem thingF_dash {s : ByteArray} {i : Nat} {f g : Nat → Bool} (h : thingF s i f = .go (i + 1) g) (hb : bt s (i + 1) = 45) : i + 2 < s.size ∧ (bt s (i + 2) == 93) = true := by
  unfold thingF at h
  split at h
  · split at h
    · cases h
    · split at h
      · have := classGo_fits (s := s) (a := i + 2) (f := f) (i + 2); rw [h] at this; have := this.1; omega
      · split at h
        · cases h
        · exact spanF_dash h hb
  · exact spanF_dash h hb
theorem loopF_alike {n : Nat} {s t : ByteArray} (h : Alike n s t) {first : Nat} (i : Nat) (hf : first ≤ i) (f : Nat → Bool) (hw : Within n (loopF s first i f)) : loopF t first i f = loopF s first i f := by
  have h1 := h.hs
  have h2 := h.ht
  induction hn : s.size - i using Nat.strongRecOn generalizing i f with
  | _ m ih =>
    have hin := fits_within (loopF_fits i f) hw
    have hi' : i < s.size := by omega
    have hi2 : i < t.size := by omega
    have hb' := h.at_ i hin
    cases he : (bt s i == 93 && decide (first < i)) with
    | true =>
      simp only [Bool.and_eq_true, decide_eq_true_eq] at he
      rw [lo_end hi' he.1 he.2, lo_end hi2 (by rw [hb']; exact he.1) he.2]
    | false =>
    rw [loopF_step hi' he] at hw ⊢
    rw [loopF_step hi2 (by rw [hb']; exact he)]
    have hft := thingF_fits (s := s) (i := i) (f := f)
    cases hq : thingF s i f with
    | bad e p =>
      rw [hq] at hw
      have : thingF t i f = thingF s i f := thingF_alike h hin (by rw [hq]; exact hw)
      rw [this, hq]
    | go i' f' =>
      rw [hq] at hw hft
      have hw' : Within n (loopF s first i' f') := hw
      have hin' := fits_within (loopF_fits i' f') hw'
      have hs : Seen n i s (thingF s i f) := by
        rw [hq]
        refine ⟨hin', fun hj hb => ?_⟩
        subst hj
        obtain ⟨d1, d2⟩ := thingF_dash hq hb
        have hnot : (bt s (i + 1) == 93 && decide (first < i + 1)) = false := by rw [hb]; rfl
        have hth : thingF s (i + 1) f' = .go (i + 2) (addB f' (45 : UInt8).toNat) := by
          have hb2 : bt s (i + 1 + 1) = 93 := by simpa using d2
          unfold thingF
          rw [if_neg (by rw [hb]; decide)]
          unfold spanF
          rw [if_neg (by omega), if_pos (by rw [hb2]; decide), hb]
        rw [loopF_step (by omega) hnot, hth] at hw'
        have e2 : loopF s first (i + 2) (addB f' (45 : UInt8).toNat) = .go (i + 3) (addB f' (45 : UInt8).toNat) := lo_end (by omega) d2 (by omega)
        simp only [e2] at hw'
        have : i + 3 ≤ n := hw'
        omega
      rw [thingF_alike h hin hs, hq]
      exact ih (s.size - i') (by have := hft.1; omega) i' (by have := hft.1; omega) f' hw' rfl

/-- What a text at a place may be as a bracket. -/
theorem readB_cases (s : ByteArray) (a : Int) :
    (∃ (f : Nat → Bool) (t : Nat), readB s a = ⟨f, (t : Int), 0, 0⟩ ∧ a < t ∧ t ≤ s.size ∧ 0 ≤ a) ∨ (readB s a = ⟨fun _ => false, 0, 2, (s.size : Int)⟩ ∧ 0 < s.size) ∨
    (∃ (er : Int) (k : Nat), (er = 3 ∨ er = 4 ∨ er = 5) ∧ readB s a = ⟨fun _ => false, 0, er, (k : Int)⟩ ∧ a < k ∧ k ≤ s.size ∧ 0 ≤ a) ∨ readB s a = ⟨fun _ => false, 0, 1, 0⟩ := by
  have key : ∀ (b : Bool) (i : Nat) (R : Res), 0 ≤ a → a < i → a < s.size → Fits i s.size R → readB s a = ansOf b R →
      (∃ (f : Nat → Bool) (t : Nat), readB s a = ⟨f, (t : Int), 0, 0⟩ ∧ a < t ∧ t ≤ s.size ∧ 0 ≤ a) ∨ (readB s a = ⟨fun _ => false, 0, 2, (s.size : Int)⟩ ∧ 0 < s.size) ∨
      (∃ (er : Int) (k : Nat), (er = 3 ∨ er = 4 ∨ er = 5) ∧ readB s a = ⟨fun _ => false, 0, er, (k : Int)⟩ ∧ a < k ∧ k ≤ s.size ∧ 0 ≤ a) ∨ readB s a = ⟨fun _ => false, 0, 1, 0⟩ := by
    intro b i R h0 hi ha hfit he
    cases R with
    | go j f => exact .inl ⟨_, j, he, by have := hfit.1; omega, hfit.2, h0⟩
    | bad e p =>
      rcases hfit with ⟨rfl, rfl⟩ | ⟨h, h1, h2⟩
      · exact .inr (.inl ⟨he, by omega⟩)
      · exact .inr (.inr (.inl ⟨e, p, h, he, by omega, h2, h0⟩))
  by_cases h0 : a < 0 ∨ (s.size : Int) ≤ a
  · exact .inr (.inr (.inr (by unfold readB; rw [if_pos h0])))
  by_cases h1 : (bt s a.toNat != 91) = true
  · exact .inr (.inr (.inr (by unfold readB; rw [if_neg h0, if_pos h1])))
  have hb0 : 0 ≤ a := by omega
  have hb1 : a < s.size := by omega
  by_cases h2 : (bt s (a.toNat + 1) == 94) = true
  · exact key true (a.toNat + 2) _ hb0 (by omega) hb1 (loopF_fits _ _) (by unfold readB; rw [if_neg h0, if_neg h1, if_pos h2])
  · exact key false (a.toNat + 1) _ hb0 (by omega) hb1 (loopF_fits _ _) (by unfold readB; rw [if_neg h0, if_neg h1, if_neg h2])
theorem readB_alike {n : Nat} {s t : ByteArray} (h : Alike n s t) (a : Int) (h0 : 0 ≤ a) (ha : a < n)
    (hw : ((readB s a).err = 0 ∧ (readB s a).stop ≤ n) ∨ ((readB s a).err = 3 ∨ (readB s a).err = 4 ∨ (readB s a).err = 5) ∧ (readB s a).place ≤ n) : readB t a = readB s a := by
  have g1 := h.hs
  have g2 := h.ht
  have key : ∀ (b : Bool) (i : Nat) (R : Res), Fits i s.size R → readB s a = ansOf b R → Within n R := by
    intro b i R hfit he
    rw [he] at hw
    cases R with
    | go j f => rcases hw with hw | hw
                · have : (j : Int) ≤ n := hw.2
                  exact (by omega : j ≤ n)
                · have : (0 : Int) = 3 ∨ (0 : Int) = 4 ∨ (0 : Int) = 5 := hw.1
                  omega
    | bad e p =>
      rcases hfit with ⟨rfl, rfl⟩ | ⟨hh, k1, k2⟩
      · have : ((2 : Int) = 0 ∧ (0 : Int) ≤ n) ∨ ((2 : Int) = 3 ∨ (2 : Int) = 4 ∨ (2 : Int) = 5) ∧ (s.size : Int) ≤ n := hw
        omega
      · have : (e = 0 ∧ (0 : Int) ≤ n) ∨ (e = 3 ∨ e = 4 ∨ e = 5) ∧ (p : Int) ≤ n := hw
        exact ⟨by omega, by omega⟩
  have hk : a.toNat < n := by omega
  by_cases h1 : (bt s a.toNat != 91) = true
  · have e : readB s a = ⟨fun _ => false, 0, 1, 0⟩ := by unfold readB; rw [if_neg (by omega), if_pos h1]
    rw [e] at hw
    have : ((1 : Int) = 0 ∧ (0 : Int) ≤ n) ∨ ((1 : Int) = 3 ∨ (1 : Int) = 4 ∨ (1 : Int) = 5) ∧ (0 : Int) ≤ n := hw
    omega
  by_cases h2 : (bt s (a.toNat + 1) == 94) = true
  · have e : readB s a = ansOf true (loopF s (a.toNat + 2) (a.toNat + 2) (fun _ => false)) := by unfold readB; rw [if_neg (by omega), if_neg h1, if_pos h2]
    have hR := key _ _ _ (loopF_fits _ _) e
    have := fits_within (loopF_fits _ _) hR
    rw [e]
    unfold readB
    rw [if_neg (by omega), h.at_ _ hk, if_neg h1, h.at_ _ (by omega), if_pos h2, loopF_alike h _ (Nat.le_refl _) _ hR]
  · have e : readB s a = ansOf false (loopF s (a.toNat + 1) (a.toNat + 1) (fun _ => false)) := by unfold readB; rw [if_neg (by omega), if_neg h1, if_neg h2]
    have hR := key _ _ _ (loopF_fits _ _) e
    have := fits_within (loopF_fits _ _) hR
    rw [e]
    unfold readB
    rw [if_neg (by omega), h.at_ _ hk, if_neg h1, h.at_ _ (by omega), if_neg h2, loopF_alike h _ (Nat.le_refl _) _ hR]
end BrkP
end Go.Proofs.Ythppilfojicfdaa
