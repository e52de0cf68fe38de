/- Plain facts on sets of bytes as four words of 64 bits: a set is told by a function from numbers to yes or no; no program is in sight. -/
import Derived.WalkKit
import Derived.WalkSpells
import Derived.Handy
import Derived.Lib.Hide
import Derived.Deep.Draws
import Derived.OwnWalk
import Derived.Maps.AppendAt
set_option linter.unusedVariables false
set_option linter.unusedSimpArgs false
namespace Go.Proofs.Ytddokdjlmdoebaa
open Go.RowKit
namespace SetP

/-- The number whose bits are told by g, below n. -/
def num (g : Nat → Bool) : Nat → Nat
  | 0 => 0
  | n + 1 => num g n + (if g n then 2 ^ n else 0)

theorem num_lt (g : Nat → Bool) (n : Nat) : num g n < 2 ^ n := by
  induction n with
  | zero => simp [num]
  | succ n ih => simp only [num, Nat.pow_succ]; split <;> omega

theorem num_testBit (g : Nat → Bool) (n j : Nat) : (num g n).testBit j = (decide (j < n) && g j) := by
  induction n with
  | zero => simp [num]
  | succ n ih =>
    have hlt := num_lt g n
    by_cases hg : g n
    · simp only [num, hg, if_true]
      have e : num g n + 2 ^ n = 2 ^ n ||| num g n := by
        have := Nat.two_pow_add_eq_or_of_lt (i := n) hlt 1
        simp at this
        omega
      rw [e, Nat.testBit_or, ih, Nat.testBit_two_pow]
      by_cases h1 : n = j
      · subst h1; simp [hg]
      · by_cases h2 : j < n
        · simp [h1, h2, Nat.lt_succ_of_lt h2]
        · simp [h1, h2]; intro h3; omega
    · simp only [num, hg]
      simp only [Bool.false_eq_true, if_false, Nat.add_zero]
      rw [ih]
      by_cases h1 : n = j
      · subst h1; simp [hg]
      · by_cases h2 : j < n
        · simp [h2, Nat.lt_succ_of_lt h2]
        · simp [h2]; intro h3; omega

/-- Word i of the set that f tells. -/
def wdN (f : Nat → Bool) (i : Nat) : Nat := num (fun j => f (64 * i + j)) 64
def wd (f : Nat → Bool) (i : Nat) : Int := (wdN f i : Int)

theorem wdN_lt (f : Nat → Bool) (i : Nat) : wdN f i < 18446744073709551616 := num_lt _ 64
theorem wd_nonneg (f : Nat → Bool) (i : Nat) : 0 ≤ wd f i := Int.natCast_nonneg _
theorem wd_lt (f : Nat → Bool) (i : Nat) : wd f i < 18446744073709551616 := by have := wdN_lt f i; unfold wd; omega
theorem wdN_testBit (f : Nat → Bool) (i j : Nat) : (wdN f i).testBit j = (decide (j < 64) && f (64 * i + j)) := num_testBit _ _ _

theorem wdN_ext {f g : Nat → Bool} {i k : Nat} (h : ∀ j, j < 64 → f (64 * i + j) = g (64 * k + j)) : wdN f i = wdN g k := by
  apply Nat.eq_of_testBit_eq
  intro j
  rw [wdN_testBit, wdN_testBit]
  by_cases hj : j < 64
  · simp [hj, h j hj]
  · simp [hj]
theorem wd_ext {f g : Nat → Bool} {i k : Nat} (h : ∀ j, j < 64 → f (64 * i + j) = g (64 * k + j)) : wd f i = wd g k := by
  unfold wd; rw [wdN_ext h]

theorem wd_inj {f g : Nat → Bool} {i k : Nat} (h : wd f i = wd g k) (j : Nat) (hj : j < 64) : f (64 * i + j) = g (64 * k + j) := by
  have h' : wdN f i = wdN g k := by unfold wd at h; omega
  have := wdN_testBit f i j
  rw [h', wdN_testBit] at this
  simpa [hj] using this.symm

/-- Whatever word is one of these. -/
theorem wdN_of (x i : Nat) (hx : x < 18446744073709551616) : wdN (fun b => x.testBit (b % 64)) i = x := by
  apply Nat.eq_of_testBit_eq
  intro j
  rw [wdN_testBit]
  by_cases hj : j < 64
  · have : (64 * i + j) % 64 = j := by omega
    simp [hj, this]
  · have : x.testBit j = false := Nat.testBit_lt_two_pow (Nat.lt_of_lt_of_le hx (by
      have : (18446744073709551616 : Nat) = 2 ^ 64 := by decide
      rw [this]; exact Nat.pow_le_pow_right (by decide) (by omega)))
    simp [hj, this]

/-- The set that four words are. -/
def ofW (a b c d : Int) (x : Nat) : Bool :=
  if x < 64 then a.toNat.testBit (x % 64) else if x < 128 then b.toNat.testBit (x % 64) else if x < 192 then c.toNat.testBit (x % 64) else d.toNat.testBit (x % 64)

theorem wd_of {a b c d : Int} (ha : 0 ≤ a ∧ a < 18446744073709551616) (hb : 0 ≤ b ∧ b < 18446744073709551616) (hc : 0 ≤ c ∧ c < 18446744073709551616) (hd : 0 ≤ d ∧ d < 18446744073709551616) :
    a = wd (ofW a b c d) 0 ∧ b = wd (ofW a b c d) 1 ∧ c = wd (ofW a b c d) 2 ∧ d = wd (ofW a b c d) 3 := by
  refine ⟨?_, ?_, ?_, ?_⟩
  · have e : wd (ofW a b c d) 0 = wd (fun x => a.toNat.testBit (x % 64)) 0 := wd_ext fun j hj => by simp only [ofW]; rw [if_pos (by omega)]
    rw [e]; unfold wd; rw [wdN_of _ _ (by omega)]; omega
  · have e : wd (ofW a b c d) 1 = wd (fun x => b.toNat.testBit (x % 64)) 1 := wd_ext fun j hj => by simp only [ofW]; rw [if_neg (by omega), if_pos (by omega)]
    rw [e]; unfold wd; rw [wdN_of _ _ (by omega)]; omega
  · have e : wd (ofW a b c d) 2 = wd (fun x => c.toNat.testBit (x % 64)) 2 := wd_ext fun j hj => by simp only [ofW]; rw [if_neg (by omega), if_neg (by omega), if_pos (by omega)]
    rw [e]; unfold wd; rw [wdN_of _ _ (by omega)]; omega
  · have e : wd (ofW a b c d) 3 = wd (fun x => d.toNat.testBit (x % 64)) 3 := wd_ext fun j hj => by simp only [ofW]; rw [if_neg (by omega), if_neg (by omega), if_neg (by omega)]
    rw [e]; unfold wd; rw [wdN_of _ _ (by omega)]; omega

/-- Word-wise operations. -/
theorem wd_or (f g : Nat → Bool) (i : Nat) : bits .or .u64 (wd f i) (wd g i) = wd (fun x => f x || g x) i := by
  unfold wd
  rw [u64_or_nat _ _ (wdN_lt _ _) (wdN_lt _ _)]
  congr 1
  apply Nat.eq_of_testBit_eq; intro j
  rw [Nat.testBit_or, wdN_testBit, wdN_testBit, wdN_testBit]
  by_cases hj : j < 64 <;> simp [hj]
theorem wd_and (f g : Nat → Bool) (i : Nat) : bits .and .u64 (wd f i) (wd g i) = wd (fun x => f x && g x) i := by
  unfold wd
  rw [u64_and_nat _ _ (wdN_lt _ _) (wdN_lt _ _)]
  congr 1
  apply Nat.eq_of_testBit_eq; intro j
  rw [Nat.testBit_and, wdN_testBit, wdN_testBit, wdN_testBit]
  by_cases hj : j < 64 <;> simp [hj]
theorem wd_not (f : Nat → Bool) (i : Nat) : 18446744073709551615 - wd f i = wd (fun x => !f x) i := by
  have h := wdN_lt f i
  have e : 18446744073709551615 - wdN f i = wdN (fun x => !f x) i := by
    apply Nat.eq_of_testBit_eq; intro j
    have h2 := Nat.testBit_two_pow_sub_succ (n := 64) (x := wdN f i) (by simpa using h) j
    have e2 : 2 ^ 64 - (wdN f i + 1) = 18446744073709551615 - wdN f i := by
      have : (2 : Nat) ^ 64 = 18446744073709551616 := by decide
      omega
    rw [e2] at h2
    rw [h2, wdN_testBit, wdN_testBit]
    by_cases hj : j < 64 <;> simp [hj]
  unfold wd
  omega

theorem wd_xor_max (f : Nat → Bool) (i : Nat) : bits .xor .u64 IntKind.u64.max (wd f i) = wd (fun x => !f x) i := by
  have e : IntKind.u64.max = ((18446744073709551615 : Nat) : Int) := by decide
  rw [e]
  unfold wd
  rw [u64_xor_nat _ _ (by omega) (wdN_lt _ _)]
  congr 1
  apply Nat.eq_of_testBit_eq; intro j
  have h64 : (18446744073709551615 : Nat) = 2 ^ 64 - 1 := by decide
  rw [Nat.testBit_xor, h64, Nat.testBit_two_pow_sub_one, wdN_testBit, wdN_testBit]
  by_cases hj : j < 64 <;> simp [hj]

/-- 1 << (b % 64), and the word that has this bit alone. -/
theorem shl_wd (b : Int) (i : Nat) (h0 : 0 ≤ b) : IntKind.u64.wrap (2 ^ (b % 64).toNat) = wd (fun x => x % 64 == b.toNat % 64) i := by
  have hlt : (b % 64).toNat < 64 := by omega
  have e : (2 : Int) ^ (b % 64).toNat = ((2 ^ (b % 64).toNat : Nat) : Int) := by simp
  have hp : 2 ^ (b % 64).toNat < 2 ^ 64 := Nat.pow_lt_pow_right (by decide) hlt
  have e64 : (2 : Nat) ^ 64 = 18446744073709551616 := by decide
  have ew : IntKind.u64.wrap ((2 ^ (b % 64).toNat : Nat) : Int) = ((2 ^ (b % 64).toNat : Nat) : Int) := by
    rw [IntKind.wrap_u64]
    generalize 2 ^ (b % 64).toNat = z at hp
    omega
  rw [e, ew]
  unfold wd
  congr 1
  apply Nat.eq_of_testBit_eq; intro j
  rw [wdN_testBit, Nat.testBit_two_pow]
  have eb : (b % 64).toNat = b.toNat % 64 := by omega
  rw [eb]
  by_cases hj : j < 64
  · simp only [hj, decide_true, Bool.true_and]
    have : (64 * i + j) % 64 = j := by omega
    rw [this, Bool.eq_iff_iff, beq_iff_eq, decide_eq_true_iff]; exact eq_comm
  · simp only [hj, decide_false, Bool.false_and, decide_eq_false_iff_not]
    omega

theorem bit_of (f : Nat → Bool) (b : Int) (h0 : 0 ≤ b) (i : Nat) (hi : b.toNat / 64 = i) :
    (bits .and .u64 (wd f i) (IntKind.u64.wrap (2 ^ (b % 64).toNat)) != 0) = f b.toNat := by
  rw [shl_wd b i h0, wd_and]
  cases hf : f b.toNat with
  | true =>
    rw [bne_iff_ne]
    intro h
    have h2 : wd (fun x => f x && x % 64 == b.toNat % 64) i = wd (fun _ => false) i := by
      rw [h]; unfold wd
      have : wdN (fun _ => false) i = 0 := by
        apply Nat.eq_of_testBit_eq; intro j; rw [wdN_testBit]; simp
      rw [this]; rfl
    have h3 := wd_inj h2 (b.toNat % 64) (by omega)
    have e : 64 * i + b.toNat % 64 = b.toNat := by omega
    rw [e, hf] at h3
    simp at h3
  | false =>
    rw [bne_eq_false_iff_eq]
    have h2 : wd (fun x => f x && x % 64 == b.toNat % 64) i = wd (fun _ => false) i := wd_ext fun j hj => by
      by_cases e : (64 * i + j) % 64 = b.toNat % 64
      · have : 64 * i + j = b.toNat := by omega
        rw [this, hf]; rfl
      · have e' : ((64 * i + j) % 64 == b.toNat % 64) = false := beq_eq_false_iff_ne.2 e
        simp only [e', Bool.and_false]
    rw [h2]; unfold wd
    have : wdN (fun _ => false) i = 0 := by
      apply Nat.eq_of_testBit_eq; intro j; rw [wdN_testBit]; simp
    rw [this]; rfl

theorem bit_shr (f : Nat → Bool) (b : Int) (h0 : 0 ≤ b) : (bits .and .u64 (wd f (b.toNat / 64) / 2 ^ (b % 64).toNat) 1 == 1) = f b.toNat := by
  have hj : (b % 64).toNat < 64 := by omega
  have e : wd f (b.toNat / 64) / 2 ^ (b % 64).toNat = ((wdN f (b.toNat / 64) / 2 ^ (b % 64).toNat : Nat) : Int) := by
    unfold wd; simp
  have hle : wdN f (b.toNat / 64) / 2 ^ (b % 64).toNat < 18446744073709551616 := Nat.lt_of_le_of_lt (Nat.div_le_self _ _) (wdN_lt _ _)
  have h := wdN_testBit f (b.toNat / 64) (b % 64).toNat
  rw [Nat.testBit_eq_decide_div_mod_eq] at h
  have e2 : 64 * (b.toNat / 64) + (b % 64).toNat = b.toNat := by omega
  rw [e2] at h
  simp only [hj, decide_true, Bool.true_and] at h
  rw [e, show (1 : Int) = ((1 : Nat) : Int) from rfl, u64_and_nat _ _ hle (by omega), Nat.and_one_is_mod, ← h]
  rw [Bool.eq_iff_iff, beq_iff_eq, decide_eq_true_iff]
  omega

theorem wd_zero (i : Nat) : wd (fun _ => false) i = 0 := by
  unfold wd
  have : wdN (fun _ => false) i = 0 := by
    apply Nat.eq_of_testBit_eq; intro j; rw [wdN_testBit]; simp
  rw [this]; rfl

/-- A byte is put in. -/
def addB (f : Nat → Bool) (b : Nat) : Nat → Bool := fun x => f x || x == b
theorem wd_add (f : Nat → Bool) (b : Int) (h0 : 0 ≤ b) (i : Nat) (hi : b.toNat / 64 = i) :
    bits .or .u64 (wd f i) (IntKind.u64.wrap (2 ^ (b % 64).toNat)) = wd (addB f b.toNat) i := by
  rw [shl_wd b i h0, wd_or]
  apply wd_ext
  intro j hj
  simp only [addB]
  congr 1
  rw [Bool.eq_iff_iff]; simp; omega
theorem wd_add_other (f : Nat → Bool) (b : Nat) (i : Nat) (hi : b / 64 ≠ i) : wd (addB f b) i = wd f i := by
  apply wd_ext
  intro j hj
  simp only [addB]
  have : (64 * i + j == b) = false := by simp; omega
  simp [this]

/-- Two sets are the same just if their words are. -/
def same (f g : Nat → Bool) : Bool := (List.range 256).all fun x => f x == g x
theorem same_iff {f g : Nat → Bool} : same f g = true ↔ ∀ x, x < 256 → f x = g x := by
  unfold same; rw [List.all_eq_true]
  exact ⟨fun h x hx => beq_iff_eq.1 (h x (List.mem_range.2 hx)), fun h x hx => beq_iff_eq.2 (h x (List.mem_range.1 hx))⟩
theorem same_words (f g : Nat → Bool) : (wd f 0 == wd g 0 && (wd f 1 == wd g 1 && (wd f 2 == wd g 2 && wd f 3 == wd g 3))) = same f g := by
  rw [Bool.eq_iff_iff, same_iff]
  simp only [Bool.and_eq_true, beq_iff_eq]
  constructor
  · rintro ⟨h0, h1, h2, h3⟩ x hx
    have hx4 : x / 64 = 0 ∨ x / 64 = 1 ∨ x / 64 = 2 ∨ x / 64 = 3 := by omega
    have e : x = 64 * (x / 64) + x % 64 := by omega
    rcases hx4 with h | h | h | h
    · have := wd_inj h0 (x % 64) (by omega); rw [e, h]; exact this
    · have := wd_inj h1 (x % 64) (by omega); rw [e, h]; exact this
    · have := wd_inj h2 (x % 64) (by omega); rw [e, h]; exact this
    · have := wd_inj h3 (x % 64) (by omega); rw [e, h]; exact this
  · intro h
    exact ⟨wd_ext fun j hj => h _ (by omega), wd_ext fun j hj => h _ (by omega), wd_ext fun j hj => h _ (by omega), wd_ext fun j hj => h _ (by omega)⟩

/-- The least byte of a set that is not below a number; -1, if there is none. -/
def nextF (f : Nat → Bool) (from_ : Int) : Int :=
  match (List.range 256).find? fun x : Nat => decide (from_ ≤ (x : Int)) && f x with
  | some n => n
  | none => -1
theorem range_find {p : Nat → Bool} {m n : Nat} (hn : n < m) (hp : p n = true) (h : ∀ x, x < n → p x = false) : (List.range m).find? p = some n := by
  rw [List.find?_range_eq_some]
  exact ⟨hp, List.mem_range.2 hn, fun j hj => by simp [h j hj]⟩
theorem nextF_some {f : Nat → Bool} {from_ : Int} {n : Nat} (h1 : from_ ≤ n) (h2 : n < 256) (h3 : f n = true) (h4 : ∀ x : Nat, from_ ≤ x → x < n → f x = false) : nextF f from_ = n := by
  unfold nextF
  rw [range_find h2 (by simp [h1, h3]) fun x hx => by
    by_cases e : from_ ≤ (x : Int)
    · simp [h4 x e hx]
    · simp [e]]
theorem nextF_none {f : Nat → Bool} {from_ : Int} (h : ∀ x : Nat, from_ ≤ x → x < 256 → f x = false) : nextF f from_ = -1 := by
  unfold nextF
  rw [List.find?_range_eq_none.2 fun x hx => by
    by_cases e : from_ ≤ (x : Int)
    · simp [h x e hx]
    · simp [e]]
theorem nextF_cases (f : Nat → Bool) (from_ : Int) : (nextF f from_ = -1 ∧ ∀ x : Nat, from_ ≤ x → x < 256 → f x = false) ∨ ∃ n : Nat, nextF f from_ = n ∧ from_ ≤ n ∧ n < 256 ∧ f n = true ∧ ∀ x : Nat, from_ ≤ x → x < n → f x = false := by
  unfold nextF
  cases h : (List.range 256).find? fun x : Nat => decide (from_ ≤ (x : Int)) && f x with
  | none =>
    left
    refine ⟨rfl, fun x h1 h2 => ?_⟩
    have := List.find?_range_eq_none.1 h x h2
    simpa [h1] using this
  | some n =>
    right
    obtain ⟨h1, h2, h3⟩ := List.find?_range_eq_some.1 h
    simp at h1 h2
    refine ⟨n, rfl, h1.1, h2, h1.2, fun x h4 h5 => ?_⟩
    have := h3 x h5
    simpa [h4] using this
theorem nextF_bounds (f : Nat → Bool) (from_ : Int) : -1 ≤ nextF f from_ ∧ nextF f from_ < 256 := by
  rcases nextF_cases f from_ with ⟨h, _⟩ | ⟨n, h, _, h2, _⟩ <;> rw [h] <;> omega
theorem nextF_congr {f g : Nat → Bool} (h : ∀ x, x < 256 → f x = g x) (from_ : Int) : nextF f from_ = nextF g from_ := by
  rcases nextF_cases g from_ with ⟨e, h1⟩ | ⟨n, e, h1, h2, h3, h4⟩
  · rw [e]; exact nextF_none fun x hx hx' => by rw [h x hx']; exact h1 x hx hx'
  · rw [e]; exact nextF_some h1 h2 (by rw [h n h2]; exact h3) fun x hx hx' => by rw [h x (by omega)]; exact h4 x hx hx'

/-- The bytes of a set below a number, ascending; all of them. -/
def upto (f : Nat → Bool) (k : Nat) : List Int := ((List.range k).filter f).map Int.ofNat
def bytesF (f : Nat → Bool) : List Int := upto f 256
theorem upto_zero (f : Nat → Bool) : upto f 0 = [] := rfl
theorem upto_succ (f : Nat → Bool) (k : Nat) : upto f (k + 1) = upto f k ++ if f k then [(k : Int)] else [] := by
  unfold upto
  rw [List.range_succ, List.filter_append, List.map_append]
  cases h : f k <;> simp [h]
theorem upto_gap (f : Nat → Bool) (k d : Nat) (h : ∀ x, k ≤ x → x < k + d → f x = false) : upto f (k + d) = upto f k := by
  induction d with
  | zero => rfl
  | succ d ih =>
    rw [← Nat.add_assoc, upto_succ, ih fun x h1 h2 => h x h1 (by omega), h (k + d) (by omega) (by omega)]
    simp
theorem upto_next {f : Nat → Bool} {k n : Nat} (_hk : k ≤ 256) (h : nextF f k = (n : Int)) : upto f (n + 1) = upto f k ++ [(n : Int)] ∧ k ≤ n ∧ n < 256 := by
  rcases nextF_cases f k with ⟨e, _⟩ | ⟨m, e, h1, h2, h3, h4⟩
  · omega
  · obtain rfl : m = n := by omega
    refine ⟨?_, by omega, h2⟩
    have hd : upto f (k + (m - k)) = upto f k := upto_gap f k (m - k) fun x hx hx' => h4 x (by omega) (by omega)
    rw [show k + (m - k) = m by omega] at hd
    rw [upto_succ, hd, h3, if_pos rfl]
theorem upto_end {f : Nat → Bool} {k : Nat} (hk : k ≤ 256) (h : nextF f k = -1) : upto f k = bytesF f := by
  rcases nextF_cases f k with ⟨_, h1⟩ | ⟨m, e, _⟩
  · have hd : upto f (k + (256 - k)) = upto f k := upto_gap f k (256 - k) fun x hx hx' => h1 x (by omega) (by omega)
    rw [show k + (256 - k) = 256 by omega] at hd
    exact hd.symm
  · omega
theorem upto_length (f : Nat → Bool) (k : Nat) : (upto f k).length ≤ k := by
  unfold upto
  rw [List.length_map]
  have := List.length_filter_le f (List.range k)
  simpa using this
theorem upto_prefix (f : Nat → Bool) {k m : Nat} (h : k ≤ m) : upto f k <+: upto f m := by
  obtain ⟨d, rfl⟩ := Nat.exists_eq_add_of_le h
  induction d with
  | zero => exact List.prefix_refl _
  | succ d ih => rw [← Nat.add_assoc, upto_succ]; exact (ih (by omega)).trans (List.prefix_append _ _)
theorem mem_upto (f : Nat → Bool) (k : Nat) (x : Int) : x ∈ upto f k ↔ 0 ≤ x ∧ x < k ∧ f x.toNat = true := by
  unfold upto
  simp only [List.mem_map, List.mem_filter, List.mem_range]
  constructor
  · rintro ⟨n, ⟨h1, h2⟩, rfl⟩
    exact ⟨Int.natCast_nonneg _, by simpa using h1, by simpa using h2⟩
  · rintro ⟨h1, h2, h3⟩
    exact ⟨x.toNat, ⟨by omega, h3⟩, by simp; omega⟩

/-- The runs of a set below a number. -/
def setLast (l : List (Int × Int)) (k : Int) : List (Int × Int) :=
  match l.getLast? with
  | some p => l.dropLast ++ [(p.1, k)]
  | none => l
def runsB (f : Nat → Bool) : Nat → List (Int × Int)
  | 0 => []
  | k + 1 => if f k then (if decide (0 < k) && f (k - 1) then setLast (runsB f k) k else runsB f k ++ [((k : Int), (k : Int))]) else runsB f k
def runsF (f : Nat → Bool) : List (Int × Int) := runsB f 256
theorem setLast_snoc (l : List (Int × Int)) (a b k : Int) : setLast (l ++ [(a, b)]) k = l ++ [(a, k)] := by simp [setLast]
theorem runsB_gap (f : Nat → Bool) (k d : Nat) (h : ∀ x, k ≤ x → x < k + d → f x = false) : runsB f (k + d) = runsB f k := by
  induction d with
  | zero => rfl
  | succ d ih =>
    rw [← Nat.add_assoc, runsB, h (k + d) (by omega) (by omega), ih fun x h1 h2 => h x h1 (by omega)]
    simp
theorem runsB_full (f : Nat → Bool) (b d : Nat) (h : ∀ x, b ≤ x → x < b + d + 1 → f x = true) (hb : b = 0 ∨ f (b - 1) = false) : runsB f (b + d + 1) = runsB f b ++ [((b : Int), ((b + d : Nat) : Int))] := by
  induction d with
  | zero =>
    rw [Nat.add_zero, runsB, h b (by omega) (by omega)]
    have : (decide (0 < b) && f (b - 1)) = false := by
      rcases hb with h0 | h0
      · simp [h0]
      · simp [h0]
    simp [this]
  | succ d ih =>
    rw [show b + (d + 1) + 1 = (b + d + 1) + 1 by omega, runsB, h (b + d + 1) (by omega) (by omega), ih fun x h1 h2 => h x h1 (by omega)]
    have h2 := h (b + d + 1 - 1) (by omega) (by omega)
    simp only [h2, Bool.and_true, if_true]
    rw [if_pos (by simp), setLast_snoc]
    rfl
/-- From one head of the loop to the next one. -/
theorem runsB_step {f : Nat → Bool} {k b e : Nat} (_hk : k ≤ 256) (hh : k = 0 ∨ f k = false) (hb : nextF f k = (b : Int)) (he : nextF (fun x => !f x) b = (e : Int)) :
    runsB f e = runsB f k ++ [((b : Int), (e : Int) - 1)] ∧ b < e ∧ e < 256 ∧ f e = false := by
  rcases nextF_cases f k with ⟨h, _⟩ | ⟨b', h, hb1, hb2, hb3, hb4⟩
  · omega
  obtain rfl : b' = b := by omega
  rcases nextF_cases (fun x => !f x) b' with ⟨h', _⟩ | ⟨e', h', he1, he2, he3, he4⟩
  · omega
  obtain rfl : e' = e := by omega
  have hbe : b' ≠ e' := by rintro rfl; simp [hb3] at he3
  obtain ⟨d, hd⟩ : ∃ d, e' = b' + d + 1 := ⟨e' - b' - 1, by omega⟩
  have hg : runsB f b' = runsB f k := by
    have := runsB_gap f k (b' - k) fun x h1 h2 => hb4 x (by omega) (by omega)
    rwa [show k + (b' - k) = b' by omega] at this
  have hpre : b' = 0 ∨ f (b' - 1) = false := by
    rcases hh with h0 | h0
    · by_cases hz : b' = 0
      · exact .inl hz
      · exact .inr (hb4 (b' - 1) (by omega) (by omega))
    · by_cases hz : b' = k
      · subst hz; rw [hb3] at h0; cases h0
      · exact .inr (hb4 (b' - 1) (by omega) (by omega))
  refine ⟨?_, by omega, he2, by simpa using he3⟩
  rw [hd, runsB_full f b' d (fun x h1 h2 => by simpa using he4 x (by omega) (by omega)) hpre, hg]
  congr 3
  omega
theorem runsB_last {f : Nat → Bool} {k b : Nat} (_hk : k ≤ 256) (hh : k = 0 ∨ f k = false) (hb : nextF f k = (b : Int)) (he : nextF (fun x => !f x) b = -1) :
    runsF f = runsB f k ++ [((b : Int), 255)] := by
  rcases nextF_cases f k with ⟨h, _⟩ | ⟨b', h, hb1, hb2, hb3, hb4⟩
  · omega
  obtain rfl : b' = b := by omega
  rcases nextF_cases (fun x => !f x) b' with ⟨h', he4⟩ | ⟨e', h', _⟩
  · obtain ⟨d, hd⟩ : ∃ d, 256 = b' + d + 1 := ⟨256 - b' - 1, by omega⟩
    have hg : runsB f b' = runsB f k := by
      have := runsB_gap f k (b' - k) fun x h1 h2 => hb4 x (by omega) (by omega)
      rwa [show k + (b' - k) = b' by omega] at this
    have hpre : b' = 0 ∨ f (b' - 1) = false := by
      rcases hh with h0 | h0
      · by_cases hz : b' = 0
        · exact .inl hz
        · exact .inr (hb4 (b' - 1) (by omega) (by omega))
      · by_cases hz : b' = k
        · subst hz; rw [hb3] at h0; cases h0
        · exact .inr (hb4 (b' - 1) (by omega) (by omega))
    unfold runsF
    rw [hd, runsB_full f b' d (fun x h1 h2 => by simpa using he4 x (by omega) (by omega)) hpre, hg]
    congr 3
    omega
  · omega
theorem runsB_end {f : Nat → Bool} {k : Nat} (hk : k ≤ 256) (hb : nextF f k = -1) : runsF f = runsB f k := by
  rcases nextF_cases f k with ⟨_, h1⟩ | ⟨b', h, _⟩
  · have := runsB_gap f k (256 - k) fun x h2 h3 => h1 x (by omega) (by omega)
    rwa [show k + (256 - k) = 256 by omega] at this
  · omega
theorem runsB_length (f : Nat → Bool) (k : Nat) : (runsB f k).length ≤ k := by
  induction k with
  | zero => simp [runsB]
  | succ k ih =>
    rw [runsB]
    split
    · split
      · have : (setLast (runsB f k) k).length ≤ (runsB f k).length := by
          unfold setLast
          split
          · rename_i p hp
            have : runsB f k ≠ [] := by rintro h; simp [h] at hp
            have := List.length_pos_iff.2 this
            simp; omega
          · exact Nat.le_refl _
        omega
      · simp; omega
    · omega
/-- Pairs of bytes as cells. -/
def pairCells (l : List (Int × Int)) : List Value := l.flatMap fun p => [.int .u8 p.1, .int .u8 p.2]
theorem pairCells_snoc (l : List (Int × Int)) (a b : Int) : pairCells (l ++ [(a, b)]) = pairCells l ++ [.int .u8 a, .int .u8 b] := by simp [pairCells]
theorem pairCells_length (l : List (Int × Int)) : (pairCells l).length = l.length * 2 := by
  induction l with
  | nil => rfl
  | cons p l ih => simp [pairCells] at ih ⊢; omega
theorem pairCells_at (l : List (Int × Int)) (i : Nat) (h : i < l.length) : (pairCells l)[i * 2]? = some (.int .u8 l[i].1) ∧ (pairCells l)[i * 2 + 1]? = some (.int .u8 l[i].2) := by
  induction l generalizing i with
  | nil => simp at h
  | cons p l ih =>
    cases i with
    | zero => simp [pairCells]
    | succ i =>
      have := ih i (by simpa using h)
      simpa [pairCells, Nat.succ_mul] using this

end SetP

/-- The value of a set. -/
abbrev setV (f : Nat → Bool) : Value := .agg #[.int .u64 (SetP.wd f 0), .int .u64 (SetP.wd f 1), .int .u64 (SetP.wd f 2), .int .u64 (SetP.wd f 3)]

theorem setV_ext {f g : Nat → Bool} (h : ∀ x, x < 256 → f x = g x) : setV f = setV g := by
  unfold setV
  rw [SetP.wd_ext (g := g) (k := 0) fun j hj => h _ (by omega), SetP.wd_ext (g := g) (k := 1) fun j hj => h _ (by omega), SetP.wd_ext (g := g) (k := 2) fun j hj => h _ (by omega), SetP.wd_ext (g := g) (k := 3) fun j hj => h _ (by omega)]

end Go.Proofs.Ytddokdjlmdoebaa

/- Words for memory: a block that is known whole; what a call leaves as it was; a slice that reads as a list. No program is in sight. -/
namespace Go.Proofs.Ytddokdjlmdoebaa
open Go.RowKit

theorem bcell {W w1 : World} (hb : Below W.heap.size W w1) : (∀ b o, b < W.heap.size → w1.cell? ⟨b, o, none⟩ = W.cell? ⟨b, o, none⟩) ∧ (∀ b o, b < W.heap.size → w1.frozen? ⟨b, o, none⟩ = W.frozen? ⟨b, o, none⟩) :=
  ⟨fun b o h => hb.cell (p := ⟨b, o, none⟩) h, fun b o h => hb.frozen (p := ⟨b, o, none⟩) h⟩

theorem below_call {B : Nat} {a W w1 : World} (h : Below B a W) (hB : B ≤ W.heap.size) (hb : Below W.heap.size W w1) : Below B a w1 := h.trans (hb.mono hB)
theorem below_set {B : Nat} {a w : World} (h : Below B a w) {b i : Nat} (hp : B ≤ b) (u : Value) : Below B a (w.setCell ⟨b, i, none⟩ u) := h.setCell (p := ⟨b, i, none⟩) hp u
theorem below_drewN {B : Nat} {a w : World} (h : Below B a w) (n : Nat) : Below B a (w.drewN n) := ⟨h.os, h.tape, h.output, h.size, h.block⟩

theorem below_grown {W W' : World} (h : Below W.heap.size W W') (row : Option Nat) : W.grownBy W' row := ⟨h.os, h.tape, h.output, h.size, fun k hk _ => h.block k hk⟩
theorem ret_v {a b : Value} (h : a = b) : Ending.returned a = .returned b := by rw [h]

/-- Block g is just the cells cs, of the element type t, none of them frozen. -/
def Slab (w : World) (g : Nat) (cs : Array Value) (t : TypeId) : Prop := w.heap[g]? = some (.cells cs t (0, 0))
section
variable {w w' : World} {g : Nat} {cs : Array Value} {t : TypeId}
theorem Slab.lt (h : Slab w g cs t) : g < w.heap.size := (Array.getElem?_eq_some_iff.1 h).1
theorem Slab.cell (h : Slab w g cs t) (i : Nat) : w.cell? ⟨g, i, none⟩ = cs[i]? := by
  unfold Slab at h
  simp [World.cell?, h]
theorem Slab.frozen (h : Slab w g cs t) (i : Nat) : w.frozen? ⟨g, i, none⟩ = false := by
  unfold Slab at h
  simp [World.frozen?, h]
theorem Slab.new (w : World) (cs : Array Value) (t : TypeId) : Slab (w.alloc (.cells cs t)) w.heap.size cs t := by
  unfold Slab
  show (w.heap.push _)[w.heap.size]? = _
  simp
theorem Slab.newAt (w : World) (cs : Array Value) (t : TypeId) {g : Nat} (hg : g = w.heap.size) : Slab (w.alloc (.cells cs t)) g cs t := hg ▸ Slab.new w cs t
theorem Slab.alloc (h : Slab w g cs t) (o : Obj) : Slab (w.alloc o) g cs t := (Below.heap_alloc w o g h.lt).trans h
theorem Slab.drew (h : Slab w g cs t) : Slab w.drew g cs t := h
theorem Slab.drewN (h : Slab w g cs t) (n : Nat) : Slab (w.drewN n) g cs t := h
theorem Slab.set (h : Slab w g cs t) (i : Nat) (u : Value) : Slab (w.setCell ⟨g, i, none⟩ u) g (cs.setIfInBounds i u) t := by
  unfold Slab at h ⊢
  simp [World.setCell, Array.getElem?_modify, h]
theorem Slab.far (h : Slab w g cs t) {b i : Nat} (hp : g ≠ b) (u : Value) : Slab (w.setCell ⟨b, i, none⟩ u) g cs t := (Below.heap_setCell w ⟨b, i, none⟩ u g hp).trans h
theorem Slab.below {B : Nat} (h : Slab w g cs t) (hb : Below B w w') (hg : g < B) : Slab w' g cs t := (hb.block g hg).trans h
theorem Slab.call (h : Slab w g cs t) (hb : Below w.heap.size w w') : Slab w' g cs t := h.below hb h.lt
theorem Slab.grown {row : Option Nat} (h : Slab w g cs t) (hb : w.grownBy w' row) (hg : some g ≠ row) : Slab w' g cs t := (hb.block g h.lt hg).trans h
/-- What the walk wants of a block: its cells, and that none is frozen. -/
theorem Slab.facts (h : Slab w g cs t) : (∀ i, w.cell? ⟨g, i, none⟩ = cs[i]?) ∧ (∀ i, w.frozen? ⟨g, i, none⟩ = false) := ⟨h.cell, h.frozen⟩
end

/-- The slice with n elements that begins at A holds vs, one cell each, in a block below B. -/
def Rd (w : World) (B : Nat) (A : Option Addr) (vs : List Value) : Prop :=
  vs = [] ∨ ∃ b off, A = some ⟨b, off, none⟩ ∧ b < B ∧ ∀ j u, vs[j]? = some u → w.cell? ⟨b, off + j, none⟩ = some u
section
variable {w w' : World} {B B' : Nat} {A : Option Addr} {vs : List Value}
theorem Rd.nil : Rd w B A [] := .inl rfl
theorem Rd.keep (h : Rd w B A vs) (hk : ∀ p : Addr, p.block < B → w'.cell? p = w.cell? p) : Rd w' B A vs := by
  rcases h with h | ⟨b, off, rfl, hb, hc⟩
  · exact .inl h
  · exact .inr ⟨b, off, rfl, hb, fun j u hu => (hk ⟨b, off + j, none⟩ hb).trans (hc j u hu)⟩
theorem Rd.more (h : Rd w B A vs) (hB : B ≤ B') : Rd w B' A vs := by
  rcases h with h | ⟨b, off, rfl, hb, hc⟩
  · exact .inl h
  · exact .inr ⟨b, off, rfl, Nat.lt_of_lt_of_le hb hB, hc⟩
theorem Rd.below (h : Rd w B A vs) (hb : Below B w w') : Rd w' B A vs := h.keep fun _ hp => hb.cell hp
theorem Rd.at_ (h : Rd w B A vs) {k : Nat} (hk : k < vs.length) : ∃ b off, A = some ⟨b, off, none⟩ ∧ b < B ∧ w.cell? ⟨b, off + k, none⟩ = some vs[k] := by
  rcases h with h | ⟨b, off, rfl, hb, hc⟩
  · subst h; simp at hk
  · exact ⟨b, off, rfl, hb, hc k _ (List.getElem?_eq_getElem hk)⟩
theorem Rd.some (h : Rd w B A vs) (hk : 0 < vs.length) : ∃ b off, A = some ⟨b, off, none⟩ ∧ b < B ∧ ∀ j u, vs[j]? = some u → w.cell? ⟨b, off + j, none⟩ = some u := by
  rcases h with h | h
  · subst h; simp at hk
  · exact h
end
section
variable {w w' : World} {base : Nat} {e : TypeId} {size : Nat} {v : Value} {n : Nat} {xs : List Value}
/-- A row of one's own stays so across a call that writes nothing that was there. -/
theorem row_call (h : w.ownsRow base e size v n xs) (hb : Below w.heap.size w w') : w'.ownsRow base e size v n xs :=
  h.kept (below_grown hb none) (by cases hv : v.ownBlock <;> simp)
theorem row_set (h : w.ownsRow base e size v n xs) {p : Addr} (hp : p.block < base) (u : Value) : (w.setCell p u).ownsRow base e size v n xs := ownsRow_setCell_below h hp u
theorem row_shape (h : w.ownsRow base e size v n xs) : ∃ A c, v = .slice A n c := by
  rcases h.2 with ⟨rfl, rfl⟩ | ⟨g, cap, cur, rfl, _⟩
  · exact ⟨_, _, rfl⟩
  · exact ⟨_, _, rfl⟩
theorem row_mono (h : w.ownsRow base e size v n xs) {base' : Nat} (hb : base' ≤ base) : w.ownsRow base' e size v n xs := by
  refine ⟨h.1, ?_⟩
  rcases h.2 with h2 | ⟨g, cap, cur, hv, hg, r⟩
  · exact .inl h2
  · exact .inr ⟨g, cap, cur, hv, Nat.le_trans hb hg, r⟩
/-- The row read: its block, where it has an element. -/
theorem row_at {A : Option Addr} {c : Nat} (h : w.ownsRow base e size (.slice A n c) n xs) (hn : 0 < n) : ∃ g cur, A = some ⟨g, 0, none⟩ ∧ base ≤ g ∧ n ≤ c ∧ Slab w g cur e ∧ cur.size = c * size ∧ cur.toList.take (n * size) = xs := by
  rcases h.2 with ⟨_, rfl⟩ | ⟨g, cap, cur, hv, hg, hh, hc, _, hs, ht⟩
  · omega
  · cases hv
    exact ⟨g, cur, rfl, hg, hc, hh, hs, ht⟩
theorem row_cell {A : Option Addr} {c : Nat} (h : w.ownsRow base e size (.slice A n c) n xs) (hn : 0 < n) : ∃ g, A = some ⟨g, 0, none⟩ ∧ base ≤ g ∧ g < w.heap.size ∧ n ≤ c ∧ ∀ j, j < n * size → w.cell? ⟨g, j, none⟩ = xs[j]? := by
  obtain ⟨g, cur, rfl, hg, hc, hs, hz, ht⟩ := row_at h hn
  refine ⟨g, rfl, hg, hs.lt, hc, fun j hj => ?_⟩
  rw [hs.cell, ← ht, List.getElem?_take_of_lt hj]
  simp
end

/-- append(s, x), s a row of one's own, x in the block that was laid last. -/
theorem wpList_append_elem {P : Program} (W : World) {ops : Array Oper} {rest : List Oper} {o : Oper} {a : Act} {Q : Exit → Act → World → Prop} (hgd : o.guard = none) (s x : Operand) (t : TypeId)
    (ho : o.op = .call { callee := .builtin .append, args := #[s, x], argTypes := #[t, t] })
    (base : Nat) (e : TypeId) (i : TypeInfo) (z : Value) (size bytes : Nat) (ht : P.underlying t = some (.slice e)) (hi : P.info? e = some i) (hz : i.zero = some z)
    (hsize : i.size = size) (hby : i.bytes = bytes) (hzs : z.cells.size = size) (hsz : 0 < size)
    (A : Option Addr) (n c : Nat) (xs : List Value) (hs : a.eval s = .slice A n c) (hown : W.ownsRow base e size (.slice A n c) n xs)
    (cs : Array Value) (g : Nat) (hx : a.eval x = .slice (some ⟨g, 0, none⟩) 1 1) (hg : g = W.heap.size) (hl : cs.size = size) (h1 : ∀ u ∈ cs.toList, u.oneCell' = true)
    (h63 : n + 1 ≤ maxLen) (hbytes : (n + 1) * bytes ≤ 140737488355328) (hbase : base ≤ W.heap.size)
    (h : ∀ A' c' w', w'.ownsRow base e size (.slice A' (n + 1) c') (n + 1) (xs ++ cs.toList) → Below base W w' → wpList P ops Q rest (a.put o.dst (.slice A' (n + 1) c')) w') :
    wpList P ops Q (o :: rest) a (W.alloc (.cells cs e)) := by
  subst hg
  refine wpList_append_own _ hgd s x t ho base e i z size bytes ht hi hz hsize hby hzs hsz _ n xs hs (hown.alloc _) ⟨W.heap.size, 0, none⟩ 1 1 cs.toList hx (by simp [hl]) ?_ h1 h63 hbytes (by simp; omega) ?_
  · intro j u hu
    have e1 : (⟨W.heap.size, 0, none⟩ : Addr).add j = ⟨W.heap.size, j, none⟩ := by unfold Addr.add; split <;> simp_all
    rw [e1, World.cell?_alloc_new, ← hu]
    simp
  · intro v' w' hown' hgr _
    obtain ⟨A', c', rfl⟩ := row_shape hown'
    refine h A' c' w' hown' ?_
    have h0 : Below base W (W.alloc (.cells cs e)) := (Below.refl _ _).alloc hbase _
    exact h0.grown hgr (by simp; omega) (fun k hk => (hown.lt k hk).1)

/-- What a call hands back that makes a row of its own. -/
def RetRow (T : TypeId) (size : Nat) (n : Nat) (xs : List Value) (w : World) (e : Ending) (w' : World) : Prop :=
  ∃ A c, e = .returned (.slice A n c) ∧ w'.ownsRow w.heap.size T size (.slice A n c) n xs ∧ Below w.heap.size w w'
end Go.Proofs.Ytddokdjlmdoebaa

/- More words for memory: across a draw and a call. -/
namespace Go.Proofs.Ytddokdjlmdoebaa
open Go.RowKit
theorem Slab.callD {w W w1 : World} {g : Nat} {cs : Array Value} {t : TypeId} (h : Slab w g cs t) (hb : Below W.heap.size W w1) (hh : W.heap = w.heap) : Slab w1 g cs t :=
  Slab.call (show W.heap[g]? = _ by rw [hh]; exact h) hb
theorem below_then {a W w1 : World} (h : Below a.heap.size a W) (hb : Below W.heap.size W w1) : Below a.heap.size a w1 := h.trans (hb.mono h.size)
theorem row_callD {w W w1 : World} {base : Nat} {e : TypeId} {size : Nat} {v : Value} {n : Nat} {xs : List Value} (h : w.ownsRow base e size v n xs) (hb : Below W.heap.size W w1) (hh : W.heap = w.heap) : w1.ownsRow base e size v n xs :=
  row_call (w := W) (by unfold World.ownsRow at h ⊢; rw [hh]; exact h) hb
end Go.Proofs.Ytddokdjlmdoebaa

/- More words for memory: append beside other blocks; a row cut short; a row that a literal begins. No program is in sight. -/
namespace Go.Proofs.Ytddokdjlmdoebaa
open Go.RowKit

/-- Every block but the row's own is as it was, and is not the new row's. -/
def Aside (w w' : World) (v v' : Value) : Prop := ∀ (k : Nat) (cs : Array Value) (t : TypeId), Slab w k cs t → v.ownBlock ≠ some k → Slab w' k cs t ∧ v'.ownBlock ≠ some k
theorem wpList_append_elem_at {P : Program} (W : World) {ops : Array Oper} {rest : List Oper} {o : Oper} {a : Act} {Q : Exit → Act → World → Prop} (hgd : o.guard = none) (s x : Operand) (t : TypeId)
    (ho : o.op = .call { callee := .builtin .append, args := #[s, x], argTypes := #[t, t] })
    (base : Nat) (e : TypeId) (i : TypeInfo) (z : Value) (size bytes : Nat) (ht : P.underlying t = some (.slice e)) (hi : P.info? e = some i) (hz : i.zero = some z)
    (hsize : i.size = size) (hby : i.bytes = bytes) (hzs : z.cells.size = size) (hsz : 0 < size)
    (A : Option Addr) (n c : Nat) (xs : List Value) (hs : a.eval s = .slice A n c) (hown : W.ownsRow base e size (.slice A n c) n xs)
    (cs : Array Value) (g : Nat) (hx : a.eval x = .slice (some ⟨g, 0, none⟩) 1 1) (hg : g = W.heap.size) (hl : cs.size = size) (h1 : ∀ u ∈ cs.toList, u.oneCell' = true)
    (h63 : n + 1 ≤ maxLen) (hbytes : (n + 1) * bytes ≤ 140737488355328) (hbase : base ≤ W.heap.size)
    (h : ∀ A' c' w', w'.ownsRow base e size (.slice A' (n + 1) c') (n + 1) (xs ++ cs.toList) → Below base W w' → Aside W w' (.slice A n c) (.slice A' (n + 1) c') →
      wpList P ops Q rest (a.put o.dst (.slice A' (n + 1) c')) w') :
    wpList P ops Q (o :: rest) a (W.alloc (.cells cs e)) := by
  subst hg
  refine wpList_append_own_at _ hgd s x t ho base e i z size bytes ht hi hz hsize hby hzs hsz _ n xs hs (hown.alloc _) ⟨W.heap.size, 0, none⟩ 1 1 cs.toList hx (by simp [hl]) ?_ h1 h63 hbytes (by simp; omega) ?_
  · intro j u hu
    have e1 : (⟨W.heap.size, 0, none⟩ : Addr).add j = ⟨W.heap.size, j, none⟩ := by unfold Addr.add; split <;> simp_all
    rw [e1, World.cell?_alloc_new, ← hu]
    simp
  · intro v' w' hown' hgr _ hat
    obtain ⟨A', c', rfl⟩ := row_shape hown'
    have h0 : Below base W (W.alloc (.cells cs e)) := (Below.refl _ _).alloc hbase _
    refine h A' c' w' hown' (h0.grown hgr (by simp; omega) (fun k hk => (hown.lt k hk).1)) fun k cs' t' hk hne => ⟨(hk.alloc _).grown hgr (fun e => hne e.symm), ?_⟩
    rcases hat with e | e
    · rw [e]; exact hne
    · rw [e]
      have := hk.lt
      simp; omega
section
variable {w : World} {base : Nat} {e : TypeId} {size : Nat} {n : Nat} {xs : List Value}
/-- A row cut short. -/
theorem row_cut {A : Option Addr} {c m : Nat} (h : w.ownsRow base e size (.slice A n c) n xs) (hm : m ≤ n) : w.ownsRow base e size (.slice A m c) m (xs.take (m * size)) := by
  have hle : m * size ≤ n * size := Nat.mul_le_mul_right _ hm
  refine ⟨by rw [List.length_take, h.1]; omega, ?_⟩
  rcases h.2 with ⟨hv, rfl⟩ | ⟨g, cap, cur, hv, hg, hh, hc, hx, hs, ht⟩
  · obtain rfl : m = 0 := by omega
    exact .inl ⟨hv, rfl⟩
  · cases hv
    exact .inr ⟨g, c, cur, rfl, hg, hh, by omega, hx, hs, by rw [← ht, List.take_take, Nat.min_eq_left hle]⟩
/-- The row that a literal is. -/
theorem row_lit {g : Nat} {cs : Array Value} (h : Slab w g cs e) (hb : base ≤ g) (hn : cs.size = n * size) (hx : n ≤ maxLen) : w.ownsRow base e size (.slice (some ⟨g, 0, none⟩) n n) n cs.toList :=
  ⟨by simpa using hn, .inr ⟨g, n, cs, rfl, hb, h, Nat.le_refl _, hx, hn, List.take_of_length_le (by simp [hn])⟩⟩
/-- A row's whole block. -/
theorem row_slab {g c : Nat} (h : w.ownsRow base e size (.slice (some ⟨g, 0, none⟩) n c) n xs) : ∃ cur, Slab w g cur e ∧ cur.toList.take (n * size) = xs ∧ base ≤ g ∧ cur.size = c * size ∧ n ≤ c := by
  rcases h.2 with ⟨hv, _⟩ | ⟨g', cap, cur, hv, hg, hh, hc, hx, hs, ht⟩
  · cases hv
  · cases hv
    exact ⟨cur, hh, ht, hg, hs, hc⟩
end
theorem slice_at {g g' : Nat} (h : g = g') : Value.slice (some ⟨g, 0, none⟩) 1 1 = Value.slice (some ⟨g', 0, none⟩) 1 1 := by rw [h]
/-- Two slices in two blocks. -/
def Apart (v u : Value) : Prop := ∀ k, v.ownBlock = some k → u.ownBlock ≠ some k
theorem Apart.symm {v u : Value} (h : Apart v u) : Apart u v := fun k hk hv => h k hv hk
/-- A row beside the one that is written. -/
theorem row_aside {w w' : World} {base n : Nat} {e : TypeId} {size : Nat} {xs : List Value} {v v' u : Value} (h : w.ownsRow base e size u n xs) (ha : Aside w w' v v') (hp : Apart v u) : w'.ownsRow base e size u n xs ∧ Apart v' u := by
  rcases h.2 with ⟨rfl, rfl⟩ | ⟨g, cap, cur, rfl, hg, hh, hc, hx, hs, ht⟩
  · exact ⟨⟨h.1, .inl ⟨rfl, rfl⟩⟩, fun k _ hk => by cases hk⟩
  · obtain ⟨h1, h2⟩ := ha g cur e hh (fun hv => hp g hv rfl)
    exact ⟨⟨h.1, .inr ⟨g, cap, cur, rfl, hg, h1, hc, hx, hs, ht⟩⟩, fun k hk hu => h2 (by cases hu; exact hk)⟩
end Go.Proofs.Ytddokdjlmdoebaa

/- Plain facts on the runs of a set: they lie apart, ascending, and are the set. -/
namespace Go.Proofs.Ytddokdjlmdoebaa
open SetP
namespace SetP
def rngF (lo hi : Int) : Nat → Bool := fun x => decide (lo ≤ (x : Int)) && decide ((x : Int) ≤ hi)
/-- What some ranges have together. -/
def coverF (R : List (Int × Int)) : Nat → Bool := fun x => R.any fun p => rngF p.1 p.2 x
theorem coverF_snoc (l : List (Int × Int)) (p : Int × Int) (x : Nat) : coverF (l ++ [p]) x = (coverF l x || rngF p.1 p.2 x) := by simp [coverF]

structure RunsOk (f : Nat → Bool) (k : Nat) (R : List (Int × Int)) : Prop where
  bd : ∀ p ∈ R, 0 ≤ p.1 ∧ p.1 ≤ p.2 ∧ p.2 < k
  gap : R.Pairwise fun p q => p.2 + 2 ≤ q.1
  cov : ∀ x, coverF R x = (decide (x < k) && f x)

theorem RunsOk.hit {f : Nat → Bool} {k : Nat} {R : List (Int × Int)} (h : RunsOk f k R) {p : Int × Int} (hp : p ∈ R) : f p.2.toNat = true := by
  obtain ⟨h1, h2, h3⟩ := h.bd p hp
  have hc := h.cov p.2.toNat
  have : coverF R p.2.toNat = true := by
    unfold coverF
    rw [List.any_eq_true]
    exact ⟨p, hp, by unfold rngF; simp; omega⟩
  rw [this] at hc
  have := hc.symm
  simp at this
  exact this.2

theorem runsOk (f : Nat → Bool) (k : Nat) : RunsOk f k (runsB f k) := by
  induction k with
  | zero => exact ⟨by simp [runsB], by simp [runsB], by simp [runsB, coverF]⟩
  | succ k ih =>
    rw [runsB]
    cases hk : f k with
    | false =>
      simp only [Bool.false_eq_true, if_false]
      refine ⟨fun p hp => ?_, ih.gap, fun x => ?_⟩
      · have := ih.bd p hp; omega
      · rw [ih.cov]
        by_cases e : x = k
        · subst e; simp [hk]
        · rw [Bool.eq_iff_iff]; simp; omega
    | true =>
      simp only [if_true]
      by_cases hp : decide (0 < k) && f (k - 1)
      · rw [if_pos hp]
        have hp0 := hp
        simp only [Bool.and_eq_true, decide_eq_true_iff] at hp
        obtain ⟨hp1, hp2⟩ := hp
        obtain ⟨l, a, hl⟩ : ∃ l a, runsB f k = l ++ [(a, ((k - 1 : Nat) : Int))] := by
          -- the last pair covers k - 1
          have hc := ih.cov (k - 1)
          rw [hp2] at hc
          have hc' : coverF (runsB f k) (k - 1) = true := by rw [hc]; simp; omega
          unfold coverF at hc'
          rw [List.any_eq_true] at hc'
          obtain ⟨p, hpm, hpr⟩ := hc'
          have hb := ih.bd p hpm
          unfold rngF at hpr
          simp at hpr
          have hp2 : p.2 = ((k - 1 : Nat) : Int) := by omega
          -- it is the last one
          obtain ⟨l1, l2, he⟩ := List.append_of_mem hpm
          have hl2 : l2 = [] := by
            cases l2 with
            | nil => rfl
            | cons q l2 =>
              have hg := ih.gap
              rw [he, List.pairwise_append] at hg
              have hq := (List.pairwise_cons.1 hg.2.1).1 q (by simp)
              have hbq := ih.bd q (by rw [he]; simp)
              omega
          subst hl2
          exact ⟨l1, p.1, by rw [he, ← hp2]⟩
        rw [hl, setLast_snoc]
        have hbd := ih.bd
        have hgap := ih.gap
        have hcov := ih.cov
        rw [hl] at hbd hgap hcov
        refine ⟨fun p hp => ?_, ?_, fun x => ?_⟩
        · rw [List.mem_append, List.mem_singleton] at hp
          rcases hp with hp | rfl
          · have := hbd p (by simp [hp]); omega
          · have := hbd (a, ((k - 1 : Nat) : Int)) (by simp)
            simp only at this ⊢; omega
        · rw [List.pairwise_append] at hgap ⊢
          refine ⟨hgap.1, by simp, fun p hp q hq => ?_⟩
          rw [List.mem_singleton] at hq
          subst hq
          exact hgap.2.2 p hp (a, ((k - 1 : Nat) : Int)) (by simp)
        · have hx := hcov x
          rw [coverF_snoc] at hx ⊢
          have hba := hbd (a, ((k - 1 : Nat) : Int)) (by simp)
          simp only at hba hx ⊢
          by_cases e : x = k
          · subst e
            have : rngF a (x : Int) x = true := by unfold rngF; simp; omega
            rw [this, hk]; simp
          · have e1 : rngF a (k : Int) x = rngF a ((k - 1 : Nat) : Int) x := by
              unfold rngF; rw [Bool.eq_iff_iff]; simp; omega
            rw [e1, hx, Bool.eq_iff_iff]; simp; omega
      · rw [if_neg hp]
        have hlast : ∀ p ∈ runsB f k, p.2 + 2 ≤ (k : Int) := by
          intro p hpm
          have hb := ih.bd p hpm
          have hh := ih.hit hpm
          by_cases e : p.2 = (k : Int) - 1
          · exfalso
            apply hp
            have : p.2.toNat = k - 1 := by omega
            rw [this] at hh
            simp [hh]; omega
          · omega
        refine ⟨fun p hp => ?_, ?_, fun x => ?_⟩
        · rw [List.mem_append, List.mem_singleton] at hp
          rcases hp with hp | rfl
          · have := ih.bd p hp; omega
          · simp only; omega
        · rw [List.pairwise_append]
          refine ⟨ih.gap, by simp, fun p hp q hq => ?_⟩
          rw [List.mem_singleton] at hq
          subst hq
          exact hlast p hp
        · rw [coverF_snoc, ih.cov]
          by_cases e : x = k
          · subst e
            have : rngF (x : Int) (x : Int) x = true := by unfold rngF; simp
            rw [this, hk]; simp
          · have : rngF (k : Int) (k : Int) x = false := by unfold rngF; simp; omega
            rw [this, Bool.eq_iff_iff]; simp; omega

theorem runsF_bd (f : Nat → Bool) (i : Nat) (h : i < (runsF f).length) : 0 ≤ (runsF f)[i].1 ∧ (runsF f)[i].1 ≤ (runsF f)[i].2 ∧ (runsF f)[i].2 < 256 :=
  (runsOk f 256).bd _ (List.getElem_mem h)
theorem runsF_gap (f : Nat → Bool) (i : Nat) (h : i + 1 < (runsF f).length) : (runsF f)[i].2 + 2 ≤ (runsF f)[i + 1].1 :=
  (List.pairwise_iff_getElem.1 (show (runsF f).Pairwise _ from (runsOk f 256).gap)) i (i + 1) (by omega) h (by omega)
theorem runsF_cover (f : Nat → Bool) : same (coverF (runsF f)) f = true := same_iff.2 fun x hx => by
  rw [show runsF f = runsB f 256 from rfl, (runsOk f 256).cov]; simp [hx]
theorem coverF_take (R : List (Int × Int)) (k : Nat) (h : k < R.length) (x : Nat) : coverF (R.take (k + 1)) x = (coverF (R.take k) x || rngF R[k].1 R[k].2 x) := by
  rw [List.take_succ_eq_append_getElem h, coverF_snoc]
end SetP
end Go.Proofs.Ytddokdjlmdoebaa
