/- Plain facts on brackets: what a text at a place is as a bracket; a block that alone may be written. -/
import Derived.Test.YtddokdjlmdoebaaMClt
import Derived.Test.YtddokdjlmdoebaaMMem
set_option linter.unusedVariables false
set_option linter.unusedSimpArgs false
namespace Go.Proofs.Ytddokdjlmdoebaa
open Go.RowKit SetP

/-- As it was, but for block g (and new blocks). -/
structure Only (g : Nat) (w w' : World) : Prop where
  os : w'.os = w.os
  tape : w'.tape = w.tape
  output : w'.output = w.output
  size : w.heap.size ≤ w'.heap.size
  block : ∀ k, k < w.heap.size → k ≠ g → w'.heap[k]? = w.heap[k]?
theorem Only.refl (g : Nat) (w : World) : Only g w w := ⟨rfl, rfl, rfl, Nat.le_refl _, fun _ _ _ => rfl⟩
theorem Only.trans {g : Nat} {a b c : World} (h : Only g a b) (k : Only g b c) : Only g a c :=
  ⟨k.os.trans h.os, k.tape.trans h.tape, k.output.trans h.output, Nat.le_trans h.size k.size, fun i hi hg => (k.block i (Nat.lt_of_lt_of_le hi h.size) hg).trans (h.block i hi hg)⟩
theorem Only.of (g : Nat) {w w' : World} (h : Below w.heap.size w w') : Only g w w' := ⟨h.os, h.tape, h.output, h.size, fun k hk _ => h.block k hk⟩
theorem Only.call {g : Nat} {a w w' : World} (h : Only g a w) (k : Below w.heap.size w w') : Only g a w' := h.trans (.of g k)
theorem Only.alloc {g : Nat} {a w : World} (h : Only g a w) (o : Obj) : Only g a (w.alloc o) := h.call ((Below.refl _ _).alloc (Nat.le_refl _) o)
theorem Only.set {g : Nat} {a w : World} (h : Only g a w) (i : Nat) (u : Value) : Only g a (w.setCell ⟨g, i, none⟩ u) :=
  h.trans ⟨rfl, rfl, rfl, by simp [World.setCell], fun k _ hg => Below.heap_setCell _ _ _ _ hg⟩
theorem Only.drewN {g : Nat} {a w : World} (h : Only g a w) (n : Nat) : Only g a (w.drewN n) := ⟨h.os, h.tape, h.output, h.size, h.block⟩
theorem Only.drew {g : Nat} {a w : World} (h : Only g a w) : Only g a w.drew := ⟨h.os, h.tape, h.output, h.size, h.block⟩
theorem Slab.only {g k : Nat} {w w' : World} {cs : Array Value} {t : TypeId} (h : Slab w k cs t) (ho : Only g w w') (hg : k ≠ g) : Slab w' k cs t := (ho.block k h.lt hg).trans h
theorem below_only {B g : Nat} {a w w' : World} (h : Below B a w) (ho : Only g w w') (hg : B ≤ g) (hB : B ≤ w.heap.size) : Below B a w' :=
  ⟨ho.os.trans h.os, ho.tape.trans h.tape, ho.output.trans h.output, Nat.le_trans h.size ho.size, fun k hk => (ho.block k (by omega) (by omega)).trans (h.block k hk)⟩

namespace BrkP
/-- The byte at a place; 0, where there is none. -/
def bt (s : ByteArray) (k : Nat) : UInt8 := s.data.toList.getD k 0
theorem bt_at (s : ByteArray) (k : Nat) (h : k < s.size) : bt s k = s[k] := by
  unfold bt
  have h' : k < s.data.toList.length := by simpa using h
  rw [List.getD_eq_getElem?_getD, List.getElem?_eq_getElem h']; rfl
/-- How far a bracket was read: on with a place and a set; or an error and its place. -/
inductive Res where
  | go (i : Nat) (f : Nat → Bool)
  | bad (e : Int) (p : Nat)
def marksB (b : UInt8) : Bool := b == 58 || (b == 46 || b == 61)
def closeF (s : ByteArray) (from_ j : Nat) (f : Nat → Bool) : Res :=
  match clsOf (s.extract from_ j) with
  | none => .bad 5 (j + 1)
  | some k => if s.size ≤ j + 1 then .bad 2 s.size else if bt s (j + 1) == 93 then .go (j + 2) (fun x => f x || cls k x) else .bad 3 (j + 2)
def classGo (s : ByteArray) (from_ : Nat) (f : Nat → Bool) (j : Nat) : Res :=
  if h : s.size ≤ j then .bad 2 s.size
  else if bt s j == 58 then closeF s from_ j f
  else if beginsF (s.extract from_ (j + 1)) then classGo s from_ f (j + 1) else .bad 5 (j + 1)
termination_by s.size - j
def spanF (s : ByteArray) (i : Nat) (f : Nat → Bool) (c : UInt8) : Res :=
  if s.size ≤ i + 1 then .bad 2 s.size
  else if bt s (i + 1) != 45 then .go (i + 1) (addB f c.toNat)
  else if s.size ≤ i + 2 then .bad 2 s.size
  else if bt s (i + 2) == 93 then .go (i + 1) (addB f c.toNat)
  else if (bt s (i + 2)).toNat < c.toNat then .bad 4 (i + 3)
  else if bt s (i + 2) == 91 && decide (s.size ≤ i + 3) then .bad 2 s.size
  else if bt s (i + 2) == 91 && marksB (bt s (i + 3)) then .bad 3 (i + 4)
  else .go (i + 3) (fun x => f x || rangeF c.toNat (bt s (i + 2)).toNat x)
def thingF (s : ByteArray) (i : Nat) (f : Nat → Bool) : Res :=
  if bt s i == 91 then
    if s.size ≤ i + 1 then .bad 2 s.size
    else if bt s (i + 1) == 58 then classGo s (i + 2) f (i + 2)
    else if marksB (bt s (i + 1)) then .bad 3 (i + 2)
    else spanF s i f 91
  else spanF s i f (bt s i)
/-- The things, one behind the other, up to the end. -/
def loopF (s : ByteArray) (first : Nat) (i : Nat) (f : Nat → Bool) : Res :=
  if _hi : s.size ≤ i then .bad 2 s.size
  else if bt s i == 93 && decide (first < i) then .go (i + 1) f
  else match thingF s i f with
    | .bad e p => .bad e p
    | .go i' f' => if _h : i < i' then loopF s first i' f' else .bad 0 0
termination_by s.size - i
/-- The set, where it ends, the error, its place. -/
structure Ans where
  set : Nat → Bool
  stop : Int
  err : Int
  place : Int
def ansOf (not : Bool) : Res → Ans
  | .bad e p => ⟨fun _ => false, 0, e, p⟩
  | .go i f => ⟨fun x => if not then !f x else f x, i, 0, 0⟩
def readB (s : ByteArray) (a : Int) : Ans :=
  if a < 0 ∨ (s.size : Int) ≤ a then ⟨fun _ => false, 0, 1, 0⟩
  else if bt s a.toNat != 91 then ⟨fun _ => false, 0, 1, 0⟩
  else if bt s (a.toNat + 1) == 94 then ansOf true (loopF s (a.toNat + 2) (a.toNat + 2) (fun _ => false))
  else ansOf false (loopF s (a.toNat + 1) (a.toNat + 1) (fun _ => false))

theorem closeF_go {s : ByteArray} {from_ j i : Nat} {f g : Nat → Bool} (h : closeF s from_ j f = .go i g) : i = j + 2 ∧ i ≤ s.size := by
  unfold closeF at h
  split at h
  · cases h
  · split at h
    · cases h
    · split at h
      · cases h; exact ⟨rfl, by omega⟩
      · cases h
theorem classGo_go {s : ByteArray} {from_ : Nat} {f g : Nat → Bool} (j i : Nat) (h : classGo s from_ f j = .go i g) : j < i ∧ i ≤ s.size := by
  induction hn : s.size - j using Nat.strongRecOn generalizing j with
  | _ n ih =>
    rw [classGo] at h
    split at h
    · cases h
    · split at h
      · have := closeF_go h; omega
      · split at h
        · have := ih (s.size - (j + 1)) (by omega) (j + 1) h rfl; omega
        · cases h
theorem spanF_go {s : ByteArray} {i i' : Nat} {f g : Nat → Bool} {c : UInt8} (h : spanF s i f c = .go i' g) : i < i' ∧ i' ≤ s.size := by
  unfold spanF at h
  split at h
  · cases h
  split at h
  · cases h; omega
  split at h
  · cases h
  split at h
  · cases h; omega
  split at h
  · cases h
  split at h
  · cases h
  split at h
  · cases h
  rename_i h3 _
  cases h
  constructor
  · omega
  · omega
theorem thingF_go {s : ByteArray} {i i' : Nat} {f g : Nat → Bool} (h : thingF s i f = .go i' g) : i < i' ∧ i' ≤ s.size := by
  unfold thingF at h
  split at h
  · split at h
    · cases h
    · split at h
      · have := classGo_go _ _ h; omega
      · split at h
        · cases h
        · exact spanF_go h
  · exact spanF_go h
theorem loopF_step {s : ByteArray} {first i : Nat} {f : Nat → Bool} (hi : i < s.size) (he : (bt s i == 93 && decide (first < i)) = false) :
    loopF s first i f = match thingF s i f with | .bad e p => .bad e p | .go i' f' => loopF s first i' f' := by
  rw [loopF, dif_neg (by omega), if_neg (by rw [he]; simp)]
  split
  · rfl
  · rename_i i' f' h
    rw [dif_pos (thingF_go h).1]
end BrkP
end Go.Proofs.Ytddokdjlmdoebaa

/- Plain facts on brackets: what is read of a bracket does not hang on what stands behind it. No program is in sight. -/
namespace Go.Proofs.Ytddokdjlmdoebaa
open Go.RowKit SetP
namespace BrkP
theorem cg_out {s : ByteArray} {a j : Nat} {f : Nat → Bool} (h : s.size ≤ j) : classGo s a f j = .bad 2 s.size := by rw [classGo, dif_pos h]
theorem cg_close {s : ByteArray} {a j : Nat} {f : Nat → Bool} (h : j < s.size) (hb : (bt s j == 58) = true) : classGo s a f j = closeF s a j f := by rw [classGo, dif_neg (by omega), if_pos hb]
theorem cg_on {s : ByteArray} {a j : Nat} {f : Nat → Bool} (h : j < s.size) (hb : (bt s j == 58) = false) (hg : beginsF (s.extract a (j + 1)) = true) : classGo s a f j = classGo s a f (j + 1) := by
  rw [classGo, dif_neg (by omega), if_neg (by rw [hb]; simp), if_pos hg]
theorem cg_bad {s : ByteArray} {a j : Nat} {f : Nat → Bool} (h : j < s.size) (hb : (bt s j == 58) = false) (hg : beginsF (s.extract a (j + 1)) = false) : classGo s a f j = .bad 5 (j + 1) := by
  rw [classGo, dif_neg (by omega), if_neg (by rw [hb]; simp), if_neg (by rw [hg]; simp)]
theorem lo_out {s : ByteArray} {first i : Nat} {f : Nat → Bool} (h : s.size ≤ i) : loopF s first i f = .bad 2 s.size := by rw [loopF, dif_pos h]
theorem lo_end {s : ByteArray} {first i : Nat} {f : Nat → Bool} (h : i < s.size) (hb : (bt s i == 93) = true) (hf : first < i) : loopF s first i f = .go (i + 1) f := by
  rw [loopF, dif_neg (by omega), if_pos (by rw [hb]; simpa using hf)]
theorem nobne {b k : UInt8} (h : (b == k) = true) : ¬ (b != k) = true := by unfold bne; rw [h]; simp
theorem isbne {b k : UInt8} (h : (b == k) = false) : (b != k) = true := by unfold bne; rw [h]; rfl

/-- An answer that was found within the first n bytes. -/
def Within (n : Nat) : Res → Prop
  | .go i _ => i ≤ n
  | .bad e p => e ≠ 2 ∧ p ≤ n
/-- What an answer at place i is: behind i, within the text, its error one of four. -/
def Fits (i n : Nat) : Res → Prop
  | .go j _ => i < j ∧ j ≤ n
  | .bad e p => (e = 2 ∧ p = n) ∨ ((e = 3 ∨ e = 4 ∨ e = 5) ∧ i < p ∧ p ≤ n)
theorem Fits.up {i i' n : Nat} {r : Res} (h : Fits i' n r) (hi : i ≤ i') : Fits i n r := by
  cases r with
  | go j f => exact ⟨by have := h.1; omega, h.2⟩
  | bad e p => rcases h with h | ⟨h, h1, h2⟩
               · exact .inl h
               · exact .inr ⟨h, by omega, h2⟩
theorem closeF_fits {s : ByteArray} {a j : Nat} {f : Nat → Bool} (hj : j < s.size) : Fits j s.size (closeF s a j f) := by
  unfold closeF
  split
  · exact .inr ⟨.inr (.inr rfl), by omega, by omega⟩
  · split
    · exact .inl ⟨rfl, rfl⟩
    · split
      · exact ⟨by omega, by omega⟩
      · exact .inr ⟨.inl rfl, by omega, by omega⟩
theorem classGo_fits {s : ByteArray} {a : Nat} {f : Nat → Bool} (j : Nat) : Fits j s.size (classGo s a f j) := by
  induction hn : s.size - j using Nat.strongRecOn generalizing j with
  | _ n ih =>
    by_cases hj : s.size ≤ j
    · rw [cg_out hj]; exact .inl ⟨rfl, rfl⟩
    have hj' : j < s.size := by omega
    cases hb : (bt s j == 58) with
    | true => rw [cg_close hj' hb]; exact closeF_fits hj'
    | false =>
    cases hg : beginsF (s.extract a (j + 1)) with
    | true => rw [cg_on hj' hb hg]; exact (ih (s.size - (j + 1)) (by omega) (j + 1) rfl).up (by omega)
    | false => rw [cg_bad hj' hb hg]; exact .inr ⟨.inr (.inr rfl), by omega, by omega⟩
theorem spanF_fits {s : ByteArray} {i : Nat} {f : Nat → Bool} {c : UInt8} : Fits i s.size (spanF s i f c) := by
  unfold spanF
  split
  · exact .inl ⟨rfl, rfl⟩
  split
  · exact ⟨by omega, by omega⟩
  split
  · exact .inl ⟨rfl, rfl⟩
  split
  · exact ⟨by omega, by omega⟩
  split
  · exact .inr ⟨.inr (.inl rfl), by omega, by omega⟩
  split
  · exact .inl ⟨rfl, rfl⟩
  split
  · rename_i h1 h2
    simp only [Bool.and_eq_true, decide_eq_true_eq] at h1 h2
    have : ¬ s.size ≤ i + 3 := fun h => h1 ⟨h2.1, h⟩
    exact .inr ⟨.inl rfl, by omega, by omega⟩
  · exact ⟨by omega, by omega⟩
theorem thingF_fits {s : ByteArray} {i : Nat} {f : Nat → Bool} : Fits i s.size (thingF s i f) := by
  unfold thingF
  split
  · split
    · exact .inl ⟨rfl, rfl⟩
    · split
      · exact (classGo_fits _).up (by omega)
      · split
        · exact .inr ⟨.inl rfl, by omega, by omega⟩
        · exact spanF_fits
  · exact spanF_fits
theorem loopF_fits {s : ByteArray} {first : Nat} (i : Nat) (f : Nat → Bool) : Fits i s.size (loopF s first i f) := by
  induction hn : s.size - i using Nat.strongRecOn generalizing i f with
  | _ n ih =>
    by_cases hi : s.size ≤ i
    · rw [lo_out hi]; exact .inl ⟨rfl, rfl⟩
    have hi' : i < s.size := by omega
    cases he : (bt s i == 93 && decide (first < i)) with
    | true => simp only [Bool.and_eq_true, decide_eq_true_eq] at he; rw [lo_end hi' he.1 he.2]; exact ⟨by omega, by omega⟩
    | false =>
    rw [loopF_step hi' he]
    have ht := thingF_fits (s := s) (i := i) (f := f)
    cases hq : thingF s i f with
    | bad e p => rw [hq] at ht; exact ht
    | go i' f' => rw [hq] at ht; exact (ih (s.size - i') (by have := ht.1; omega) i' f' rfl).up (by have := ht.1; omega)

/-- Two texts whose first n bytes are alike. -/
structure Alike (n : Nat) (s t : ByteArray) : Prop where
  hs : n ≤ s.size
  ht : n ≤ t.size
  at_ : ∀ k, k < n → bt t k = bt s k
  ex : ∀ a b, b ≤ n → t.extract a b = s.extract a b
theorem extract_list (s : ByteArray) (a b : Nat) : (s.extract a b).data.toList = (s.data.toList.take b).drop a := by
  rw [ByteArray.data_extract, Array.toList_extract, List.extract_eq_take_drop, List.drop_take]
theorem bytes_ext {s t : ByteArray} (h : s.data.toList = t.data.toList) : s = t := by
  cases s; cases t; congr 1; exact Array.toList_inj.1 h
theorem alike_list {n : Nat} {s t : ByteArray} (hs : n ≤ s.size) (ht : n ≤ t.size) (h : t.data.toList.take n = s.data.toList.take n) : Alike n s t where
  hs := hs
  ht := ht
  at_ := fun k hk => by
    unfold bt
    have e := congrArg (fun l : List UInt8 => l[k]?) h
    simp only [List.getElem?_take, if_pos hk] at e
    rw [List.getD_eq_getElem?_getD, List.getD_eq_getElem?_getD, e]
  ex := fun a b hb => by
    apply bytes_ext
    rw [extract_list, extract_list]
    have e := congrArg (List.take b) h
    rw [List.take_take, List.take_take, Nat.min_eq_left hb] at e
    rw [e]
theorem alike_cut (s more : ByteArray) (n : Nat) (h : n ≤ s.size) : Alike n s (s.extract 0 n ++ more) := by
  have e : (s.extract 0 n ++ more).data.toList = s.data.toList.take n ++ more.data.toList := by rw [ByteArray.data_append, Array.toList_append, extract_list]; rfl
  have hl : s.data.toList.length = s.size := by simp
  refine alike_list h (by rw [ByteArray.size_append]; simp; omega) ?_
  rw [e, List.take_append_of_le_length (by rw [List.length_take]; omega), List.take_take, Nat.min_self]
theorem alike_app (s more : ByteArray) : Alike s.size s (s ++ more) := by
  have e : (s ++ more).data.toList = s.data.toList ++ more.data.toList := by rw [ByteArray.data_append, Array.toList_append]
  have hl : s.data.toList.length = s.size := by simp
  refine alike_list (Nat.le_refl _) (by rw [ByteArray.size_append]; omega) ?_
  rw [e, List.take_append_of_le_length (by omega)]

theorem closeF_alike {n : Nat} {s t : ByteArray} (h : Alike n s t) {a j : Nat} {f : Nat → Bool} (hj : j < n) (hw : Within n (closeF s a j f)) : closeF t a j f = closeF s a j f := by
  have h1 := h.hs
  have h2 := h.ht
  unfold closeF at *
  rw [h.ex a j (by omega)]
  cases hc : clsOf (s.extract a j) with
  | none => rfl
  | some k =>
    rw [hc] at hw
    simp only at hw ⊢
    by_cases k1 : s.size ≤ j + 1
    · rw [if_pos k1] at hw; exact absurd rfl hw.1
    rw [if_neg k1] at hw ⊢
    have hj2 : j + 2 ≤ n := by
      split at hw
      · exact hw
      · exact hw.2
    rw [if_neg (by omega), h.at_ _ (by omega)]
theorem fits_within {i m n : Nat} {r : Res} (h : Fits i m r) (hw : Within n r) : i < n := by
  cases r with
  | go j f => have := h.1; have : j ≤ n := hw; omega
  | bad e p => rcases h with h | ⟨h, h1, h2⟩
               · exact absurd h.1 hw.1
               · have := hw.2; omega
theorem classGo_alike {n : Nat} {s t : ByteArray} (h : Alike n s t) {a : Nat} {f : Nat → Bool} (j : Nat) (hw : Within n (classGo s a f j)) : classGo t a f j = classGo s a f j := by
  have h1 := h.hs
  have h2 := h.ht
  induction hn : s.size - j using Nat.strongRecOn generalizing j with
  | _ m ih =>
    have hjn := fits_within (classGo_fits j) hw
    have hj' : j < s.size := by omega
    have hb' := h.at_ j hjn
    have hx := h.ex a (j + 1) (by omega)
    cases hb : (bt s j == 58) with
    | true =>
      rw [cg_close hj' hb] at hw ⊢
      rw [cg_close (by omega) (by rw [hb']; exact hb)]
      exact closeF_alike h hjn hw
    | false =>
    cases hg : beginsF (s.extract a (j + 1)) with
    | true =>
      rw [cg_on hj' hb hg] at hw ⊢
      rw [cg_on (by omega) (by rw [hb']; exact hb) (by rw [hx]; exact hg)]
      exact ih (s.size - (j + 1)) (by omega) (j + 1) hw rfl
    | false =>
      rw [cg_bad hj' hb hg]
      rw [cg_bad (by omega) (by rw [hb']; exact hb) (by rw [hx]; exact hg)]
/-- A thing's answer found within the first n bytes, the byte behind it among them; behind a byte, - and ], also that. -/
def Seen (n i : Nat) (s : ByteArray) : Res → Prop
  | .go j _ => j < n ∧ (j = i + 1 → bt s (i + 1) = 45 → i + 2 < n)
  | .bad e p => e ≠ 2 ∧ p ≤ n
theorem spanF_alike {n : Nat} {s t : ByteArray} (h : Alike n s t) {i : Nat} {f : Nat → Bool} {c : UInt8} (hw : Seen n i s (spanF s i f c)) : spanF t i f c = spanF s i f c := by
  have h1 := h.hs
  have h2 := h.ht
  unfold spanF at *
  by_cases k1 : s.size ≤ i + 1
  · rw [if_pos k1] at hw; exact absurd rfl hw.1
  rw [if_neg k1] at hw ⊢
  have kn : i + 1 < n := by
    split at hw
    · exact hw.1
    split at hw
    · exact absurd rfl hw.1
    split at hw
    · exact hw.1
    split at hw
    · have := hw.2; omega
    split at hw
    · exact absurd rfl hw.1
    split at hw
    · have := hw.2; omega
    · have := hw.1; omega
  rw [if_neg (by omega), h.at_ _ kn]
  by_cases k2 : (bt s (i + 1) != 45) = true
  · rw [if_pos k2, if_pos k2]
  rw [if_neg k2] at hw ⊢
  rw [if_neg k2]
  have e45 : bt s (i + 1) = 45 := by simpa using k2
  by_cases k3 : s.size ≤ i + 2
  · rw [if_pos k3] at hw; exact absurd rfl hw.1
  rw [if_neg k3] at hw ⊢
  have kn2 : i + 2 < n := by
    split at hw
    · exact hw.2 rfl e45
    split at hw
    · have := hw.2; omega
    split at hw
    · exact absurd rfl hw.1
    split at hw
    · have := hw.2; omega
    · have := hw.1; omega
  rw [if_neg (by omega), h.at_ _ kn2]
  by_cases k4 : (bt s (i + 2) == 93) = true
  · rw [if_pos k4, if_pos k4]
  rw [if_neg k4] at hw ⊢
  rw [if_neg k4]
  by_cases k5 : (bt s (i + 2)).toNat < c.toNat
  · rw [if_pos k5, if_pos k5]
  rw [if_neg k5] at hw ⊢
  rw [if_neg k5]
  by_cases k6 : (bt s (i + 2) == 91 && decide (s.size ≤ i + 3)) = true
  · rw [if_pos k6] at hw; exact absurd rfl hw.1
  rw [if_neg k6] at hw ⊢
  have kn3 : i + 3 < n := by
    split at hw
    · have := hw.2; omega
    · have := hw.1; omega
  rw [if_neg (by simp; intro _; omega), h.at_ _ kn3]
theorem thingF_alike {n : Nat} {s t : ByteArray} (h : Alike n s t) {i : Nat} {f : Nat → Bool} (hin : i < n) (hw : Seen n i s (thingF s i f)) : thingF t i f = thingF s i f := by
  have h1 := h.hs
  have h2 := h.ht
  unfold thingF at *
  rw [h.at_ _ hin]
  by_cases k0 : (bt s i == 91) = true
  · rw [if_pos k0] at hw ⊢
    rw [if_pos k0]
    by_cases k1 : s.size ≤ i + 1
    · rw [if_pos k1] at hw; exact absurd rfl hw.1
    rw [if_neg k1] at hw ⊢
    have hlt : ∀ {r : Res}, Fits i s.size r → Seen n i s r → Within n r := by
      intro r _ hs
      cases r with
      | go j g => exact Nat.le_of_lt hs.1
      | bad e p => exact hs
    have kn : i + 1 < n := by
      split at hw
      · have := fits_within (classGo_fits _) (hlt ((classGo_fits _).up (by omega)) hw); omega
      split at hw
      · have := hw.2; omega
      · have e := hlt spanF_fits hw
        cases hq : spanF s i f 91 with
        | go j g =>
          rw [hq] at hw
          have := (spanF_fits (s := s) (i := i) (f := f) (c := 91)); rw [hq] at this
          have := this.1; have := hw.1; omega
        | bad ee p =>
          rw [hq] at hw
          have h0 := hq
          unfold spanF at h0
          rw [if_neg k1] at h0
          split at h0
          · cases h0
          split at h0
          · cases h0; exact absurd rfl hw.1
          split at h0
          · cases h0
          split at h0
          · cases h0; have := hw.2; omega
          split at h0
          · cases h0; exact absurd rfl hw.1
          split at h0
          · cases h0; have := hw.2; omega
          · cases h0
    rw [if_neg (by omega), h.at_ _ kn]
    by_cases k2 : (bt s (i + 1) == 58) = true
    · rw [if_pos k2] at hw ⊢
      rw [if_pos k2]
      exact classGo_alike h _ (hlt ((classGo_fits _).up (by omega)) hw)
    rw [if_neg k2] at hw ⊢
    rw [if_neg k2]
    by_cases k3 : marksB (bt s (i + 1)) = true
    · rw [if_pos k3, if_pos k3]
    rw [if_neg k3] at hw ⊢
    rw [if_neg k3]
    exact spanF_alike h hw
  · rw [if_neg k0] at hw ⊢
    rw [if_neg k0]
    exact spanF_alike h hw
theorem spanF_dash {s : ByteArray} {i : Nat} {f : Nat → Bool} {c : UInt8} {g : Nat → Bool} (h : spanF s i f c = .go (i + 1) g) (hb : bt s (i + 1) = 45) : i + 2 < s.size ∧ (bt s (i + 2) == 93) = true := by
  unfold spanF at h
  split at h
  · cases h
  split at h
  · rename_i k; rw [hb] at k; exact absurd k (by decide)
  split at h
  · cases h
  split at h
  · rename_i k3 k4; exact ⟨by omega, k4⟩
  split at h
  · cases h
  split at h
  · cases h
  split at h
  · cases h
  · injection h with h h'; omega
theorem thingF_dash {s : ByteArray} {i : Nat} {f g : Nat → Bool} (h : thingF s i f = .go (i + 1) g) (hb : bt s (i + 1) = 45) : i + 2 < s.size ∧ (bt s (i + 2) == 93) = true := by
  unfold thingF at h
  split at h
  · split at h
    · cases h
    · split at h
      · have := classGo_fits (s := s) (a := i + 2) (f := f) (i + 2); rw [h] at this; have := this.1; omega
      · split at h
        · cases h
        · exact spanF_dash h hb
  · exact spanF_dash h hb
theorem loopF_alike {n : Nat} {s t : ByteArray} (h : Alike n s t) {first : Nat} (i : Nat) (hf : first ≤ i) (f : Nat → Bool) (hw : Within n (loopF s first i f)) : loopF t first i f = loopF s first i f := by
  have h1 := h.hs
  have h2 := h.ht
  induction hn : s.size - i using Nat.strongRecOn generalizing i f with
  | _ m ih =>
    have hin := fits_within (loopF_fits i f) hw
    have hi' : i < s.size := by omega
    have hi2 : i < t.size := by omega
    have hb' := h.at_ i hin
    cases he : (bt s i == 93 && decide (first < i)) with
    | true =>
      simp only [Bool.and_eq_true, decide_eq_true_eq] at he
      rw [lo_end hi' he.1 he.2, lo_end hi2 (by rw [hb']; exact he.1) he.2]
    | false =>
    rw [loopF_step hi' he] at hw ⊢
    rw [loopF_step hi2 (by rw [hb']; exact he)]
    have hft := thingF_fits (s := s) (i := i) (f := f)
    cases hq : thingF s i f with
    | bad e p =>
      rw [hq] at hw
      have : thingF t i f = thingF s i f := thingF_alike h hin (by rw [hq]; exact hw)
      rw [this, hq]
    | go i' f' =>
      rw [hq] at hw hft
      have hw' : Within n (loopF s first i' f') := hw
      have hin' := fits_within (loopF_fits i' f') hw'
      have hs : Seen n i s (thingF s i f) := by
        rw [hq]
        refine ⟨hin', fun hj hb => ?_⟩
        subst hj
        obtain ⟨d1, d2⟩ := thingF_dash hq hb
        have hnot : (bt s (i + 1) == 93 && decide (first < i + 1)) = false := by rw [hb]; rfl
        have hth : thingF s (i + 1) f' = .go (i + 2) (addB f' (45 : UInt8).toNat) := by
          have hb2 : bt s (i + 1 + 1) = 93 := by simpa using d2
          unfold thingF
          rw [if_neg (by rw [hb]; decide)]
          unfold spanF
          rw [if_neg (by omega), if_pos (by rw [hb2]; decide), hb]
        rw [loopF_step (by omega) hnot, hth] at hw'
        have e2 : loopF s first (i + 2) (addB f' (45 : UInt8).toNat) = .go (i + 3) (addB f' (45 : UInt8).toNat) := lo_end (by omega) d2 (by omega)
        simp only [e2] at hw'
        have : i + 3 ≤ n := hw'
        omega
      rw [thingF_alike h hin hs, hq]
      exact ih (s.size - i') (by have := hft.1; omega) i' (by have := hft.1; omega) f' hw' rfl

/-- What a text at a place may be as a bracket. -/
theorem readB_cases (s : ByteArray) (a : Int) :
    (∃ (f : Nat → Bool) (t : Nat), readB s a = ⟨f, (t : Int), 0, 0⟩ ∧ a < t ∧ t ≤ s.size ∧ 0 ≤ a) ∨ (readB s a = ⟨fun _ => false, 0, 2, (s.size : Int)⟩ ∧ 0 < s.size) ∨
    (∃ (er : Int) (k : Nat), (er = 3 ∨ er = 4 ∨ er = 5) ∧ readB s a = ⟨fun _ => false, 0, er, (k : Int)⟩ ∧ a < k ∧ k ≤ s.size ∧ 0 ≤ a) ∨ readB s a = ⟨fun _ => false, 0, 1, 0⟩ := by
  have key : ∀ (b : Bool) (i : Nat) (R : Res), 0 ≤ a → a < i → a < s.size → Fits i s.size R → readB s a = ansOf b R →
      (∃ (f : Nat → Bool) (t : Nat), readB s a = ⟨f, (t : Int), 0, 0⟩ ∧ a < t ∧ t ≤ s.size ∧ 0 ≤ a) ∨ (readB s a = ⟨fun _ => false, 0, 2, (s.size : Int)⟩ ∧ 0 < s.size) ∨
      (∃ (er : Int) (k : Nat), (er = 3 ∨ er = 4 ∨ er = 5) ∧ readB s a = ⟨fun _ => false, 0, er, (k : Int)⟩ ∧ a < k ∧ k ≤ s.size ∧ 0 ≤ a) ∨ readB s a = ⟨fun _ => false, 0, 1, 0⟩ := by
    intro b i R h0 hi ha hfit he
    cases R with
    | go j f => exact .inl ⟨_, j, he, by have := hfit.1; omega, hfit.2, h0⟩
    | bad e p =>
      rcases hfit with ⟨rfl, rfl⟩ | ⟨h, h1, h2⟩
      · exact .inr (.inl ⟨he, by omega⟩)
      · exact .inr (.inr (.inl ⟨e, p, h, he, by omega, h2, h0⟩))
  by_cases h0 : a < 0 ∨ (s.size : Int) ≤ a
  · exact .inr (.inr (.inr (by unfold readB; rw [if_pos h0])))
  by_cases h1 : (bt s a.toNat != 91) = true
  · exact .inr (.inr (.inr (by unfold readB; rw [if_neg h0, if_pos h1])))
  have hb0 : 0 ≤ a := by omega
  have hb1 : a < s.size := by omega
  by_cases h2 : (bt s (a.toNat + 1) == 94) = true
  · exact key true (a.toNat + 2) _ hb0 (by omega) hb1 (loopF_fits _ _) (by unfold readB; rw [if_neg h0, if_neg h1, if_pos h2])
  · exact key false (a.toNat + 1) _ hb0 (by omega) hb1 (loopF_fits _ _) (by unfold readB; rw [if_neg h0, if_neg h1, if_neg h2])
theorem readB_alike {n : Nat} {s t : ByteArray} (h : Alike n s t) (a : Int) (h0 : 0 ≤ a) (ha : a < n)
    (hw : ((readB s a).err = 0 ∧ (readB s a).stop ≤ n) ∨ ((readB s a).err = 3 ∨ (readB s a).err = 4 ∨ (readB s a).err = 5) ∧ (readB s a).place ≤ n) : readB t a = readB s a := by
  have g1 := h.hs
  have g2 := h.ht
  have key : ∀ (b : Bool) (i : Nat) (R : Res), Fits i s.size R → readB s a = ansOf b R → Within n R := by
    intro b i R hfit he
    rw [he] at hw
    cases R with
    | go j f => rcases hw with hw | hw
                · have : (j : Int) ≤ n := hw.2
                  exact (by omega : j ≤ n)
                · have : (0 : Int) = 3 ∨ (0 : Int) = 4 ∨ (0 : Int) = 5 := hw.1
                  omega
    | bad e p =>
      rcases hfit with ⟨rfl, rfl⟩ | ⟨hh, k1, k2⟩
      · have : ((2 : Int) = 0 ∧ (0 : Int) ≤ n) ∨ ((2 : Int) = 3 ∨ (2 : Int) = 4 ∨ (2 : Int) = 5) ∧ (s.size : Int) ≤ n := hw
        omega
      · have : (e = 0 ∧ (0 : Int) ≤ n) ∨ (e = 3 ∨ e = 4 ∨ e = 5) ∧ (p : Int) ≤ n := hw
        exact ⟨by omega, by omega⟩
  have hk : a.toNat < n := by omega
  by_cases h1 : (bt s a.toNat != 91) = true
  · have e : readB s a = ⟨fun _ => false, 0, 1, 0⟩ := by unfold readB; rw [if_neg (by omega), if_pos h1]
    rw [e] at hw
    have : ((1 : Int) = 0 ∧ (0 : Int) ≤ n) ∨ ((1 : Int) = 3 ∨ (1 : Int) = 4 ∨ (1 : Int) = 5) ∧ (0 : Int) ≤ n := hw
    omega
  by_cases h2 : (bt s (a.toNat + 1) == 94) = true
  · have e : readB s a = ansOf true (loopF s (a.toNat + 2) (a.toNat + 2) (fun _ => false)) := by unfold readB; rw [if_neg (by omega), if_neg h1, if_pos h2]
    have hR := key _ _ _ (loopF_fits _ _) e
    have := fits_within (loopF_fits _ _) hR
    rw [e]
    unfold readB
    rw [if_neg (by omega), h.at_ _ hk, if_neg h1, h.at_ _ (by omega), if_pos h2, loopF_alike h _ (Nat.le_refl _) _ hR]
  · have e : readB s a = ansOf false (loopF s (a.toNat + 1) (a.toNat + 1) (fun _ => false)) := by unfold readB; rw [if_neg (by omega), if_neg h1, if_neg h2]
    have hR := key _ _ _ (loopF_fits _ _) e
    have := fits_within (loopF_fits _ _) hR
    rw [e]
    unfold readB
    rw [if_neg (by omega), h.at_ _ hk, if_neg h1, h.at_ _ (by omega), if_neg h2, loopF_alike h _ (Nat.le_refl _) _ hR]
end BrkP
end Go.Proofs.Ytddokdjlmdoebaa

/- Plain facts on brackets: a range alone in a bracket; what lacks to a bracket that ends too early. No program is in sight. -/
namespace Go.Proofs.Ytddokdjlmdoebaa
open Go.RowKit SetP
namespace BrkP
theorem bt_app (s c : ByteArray) (k : Nat) : bt (s ++ c) (s.size + k) = bt c k := by
  have e : (s ++ c).data.toList = s.data.toList ++ c.data.toList := by rw [ByteArray.data_append, Array.toList_append]
  have hl : s.data.toList.length = s.size := by simp
  unfold bt
  rw [e, List.getD_eq_getElem?_getD, List.getD_eq_getElem?_getD, List.getElem?_append_right (by omega)]
  congr 2; omega
theorem bt_left (s c : ByteArray) (k : Nat) (h : k < s.size) : bt (s ++ c) k = bt s k := (alike_app s c).at_ k h
/-- A range that ends where all ends. -/
theorem loop_range {s : ByteArray} {i : Nat} {f : Nat → Bool} {lo hi : UInt8} (h4 : i + 4 = s.size) (b0 : bt s i = lo) (b1 : bt s (i + 1) = 45) (b2 : bt s (i + 2) = hi) (b3 : bt s (i + 3) = 93)
    (hl : (lo == 91) = false) (hh1 : (hi == 91) = false) (hh2 : (hi == 93) = false) :
    loopF s i i f = if hi.toNat < lo.toNat then .bad 4 (i + 3) else .go (i + 4) (fun x => f x || rangeF lo.toNat hi.toNat x) := by
  rw [loopF_step (by omega) (by simp)]
  unfold thingF
  rw [b0, if_neg (by rw [hl]; simp)]
  unfold spanF
  rw [if_neg (by omega), b1, if_neg (by decide), if_neg (by omega), b2, if_neg (by rw [hh2]; simp)]
  by_cases h : hi.toNat < lo.toNat
  · rw [if_pos h, if_pos h]
  · rw [if_neg h, if_neg h, if_neg (by rw [hh1]; simp), if_neg (by rw [hh1]; simp)]
    show loopF s i (i + 3) _ = _
    rw [lo_end (by omega) (by rw [b3]; rfl) (by omega)]
theorem place_one (A : ByteArray) (lo hi : UInt8) (hl : (lo == 91) = false) (hl2 : (lo == 94) = false) (hh1 : (hi == 91) = false) (hh2 : (hi == 93) = false) :
    readB (A ++ ⟨#[91, lo, 45, hi, 93]⟩) A.size = if hi.toNat < lo.toNat then ⟨fun _ => false, 0, 4, (A.size : Int) + 4⟩ else ⟨fun x => false || rangeF lo.toNat hi.toNat x, (A.size : Int) + 5, 0, 0⟩ := by
  have hz : (A ++ (⟨#[91, lo, 45, hi, 93]⟩ : ByteArray)).size = A.size + 5 := by rw [ByteArray.size_append]; rfl
  have b : ∀ k, bt (A ++ ⟨#[91, lo, 45, hi, 93]⟩) (A.size + k) = bt ⟨#[91, lo, 45, hi, 93]⟩ k := fun k => bt_app _ _ k
  unfold readB
  rw [if_neg (by rw [hz]; omega), Int.toNat_natCast]
  rw [show bt (A ++ ⟨#[91, lo, 45, hi, 93]⟩) A.size = 91 from b 0, if_neg (by decide), b 1, if_neg (by show ¬ (lo == 94) = true; rw [hl2]; simp)]
  rw [loop_range (lo := lo) (hi := hi) (by rw [hz]) (b 1) (b 2) (b 3) (b 4) hl hh1 hh2]
  split
  · rfl
  · rfl
theorem place_two (A : ByteArray) (lo hi : UInt8) (hl : (lo == 91) = false) (hh1 : (hi == 91) = false) (hh2 : (hi == 93) = false) :
    readB (A ++ ⟨#[91, 94, lo, 45, hi, 93]⟩) A.size = if hi.toNat < lo.toNat then ⟨fun _ => false, 0, 4, (A.size : Int) + 5⟩ else ⟨fun x => !(false || rangeF lo.toNat hi.toNat x), (A.size : Int) + 6, 0, 0⟩ := by
  have hz : (A ++ (⟨#[91, 94, lo, 45, hi, 93]⟩ : ByteArray)).size = A.size + 6 := by rw [ByteArray.size_append]; rfl
  have b : ∀ k, bt (A ++ ⟨#[91, 94, lo, 45, hi, 93]⟩) (A.size + k) = bt ⟨#[91, 94, lo, 45, hi, 93]⟩ k := fun k => bt_app _ _ k
  unfold readB
  rw [if_neg (by rw [hz]; omega), Int.toNat_natCast]
  rw [show bt (A ++ ⟨#[91, 94, lo, 45, hi, 93]⟩) A.size = 91 from b 0, if_neg (by decide), b 1, if_pos (by show ((94 : UInt8) == 94) = true; decide)]
  rw [loop_range (lo := lo) (hi := hi) (by rw [hz]) (b 2) (b 3) (b 4) (b 5) hl hh1 hh2]
  split
  · rfl
  · rfl

/-- All that may lack. -/
def endsL : List ByteArray := [⟨#[93]⟩, ⟨#[97, 93]⟩, ⟨#[93, 93]⟩, ⟨#[58, 93, 93]⟩] ++ (List.range 12).flatMap fun k => (List.range (nm k).size).map fun i => (nm k).extract i (nm k).size ++ ⟨#[58, 93, 93]⟩
theorem closeF_ext {s t : ByteArray} (h : Alike s.size s t) {a j : Nat} {f g : Nat → Bool} {i : Nat} (hw : closeF s a j f = .go i g) : closeF t a j f = .go i g := by
  have hj := closeF_go hw
  rw [closeF_alike h (by omega) (by rw [hw]; exact hj.2)]
  exact hw
theorem spanF_ext {s t : ByteArray} (h : Alike s.size s t) {i : Nat} {c : UInt8} {f g : Nat → Bool} {j : Nat} (hw : spanF s i f c = .go j g) : spanF t i f c = .go j g := by
  have h2 := h.ht
  unfold spanF at *
  by_cases k1 : s.size ≤ i + 1
  · rw [if_pos k1] at hw; cases hw
  rw [if_neg k1] at hw
  rw [if_neg (by omega), h.at_ _ (by omega)]
  by_cases k2 : (bt s (i + 1) != 45) = true
  · rw [if_pos k2] at hw ⊢; exact hw
  rw [if_neg k2] at hw ⊢
  by_cases k3 : s.size ≤ i + 2
  · rw [if_pos k3] at hw; cases hw
  rw [if_neg k3] at hw
  rw [if_neg (by omega), h.at_ _ (by omega)]
  by_cases k4 : (bt s (i + 2) == 93) = true
  · rw [if_pos k4] at hw ⊢; exact hw
  rw [if_neg k4] at hw ⊢
  by_cases k5 : (bt s (i + 2)).toNat < c.toNat
  · rw [if_pos k5] at hw; cases hw
  rw [if_neg k5] at hw ⊢
  by_cases k6 : (bt s (i + 2) == 91 && decide (s.size ≤ i + 3)) = true
  · rw [if_pos k6] at hw; cases hw
  rw [if_neg k6] at hw
  cases k7 : (bt s (i + 2) == 91) with
  | false =>
    rw [k7] at hw
    rw [if_neg (by simp), if_neg (by simp)]
    rw [if_neg (by simp)] at hw
    exact hw
  | true =>
    have k8 : i + 3 < s.size := by rw [k7] at k6; simp at k6; exact k6
    rw [k7] at hw
    rw [if_neg (by simp; omega), h.at_ _ k8]
    exact hw
theorem thingF_ext {s t : ByteArray} (h : Alike s.size s t) {i : Nat} {f g : Nat → Bool} {j : Nat} (hi : i < s.size) (hw : thingF s i f = .go j g) : thingF t i f = .go j g := by
  have h2 := h.ht
  unfold thingF at *
  rw [h.at_ _ hi]
  by_cases k0 : (bt s i == 91) = true
  · rw [if_pos k0] at hw ⊢
    by_cases k1 : s.size ≤ i + 1
    · rw [if_pos k1] at hw; cases hw
    rw [if_neg k1] at hw
    rw [if_neg (by omega), h.at_ _ (by omega)]
    by_cases k2 : (bt s (i + 1) == 58) = true
    · rw [if_pos k2] at hw ⊢
      rw [classGo_alike h _ (by rw [hw]; exact (classGo_go _ _ hw).2)]
      exact hw
    rw [if_neg k2] at hw ⊢
    by_cases k3 : marksB (bt s (i + 1)) = true
    · rw [if_pos k3] at hw; cases hw
    rw [if_neg k3] at hw ⊢
    exact spanF_ext h hw
  · rw [if_neg k0] at hw ⊢
    exact spanF_ext h hw

theorem nm_all : ((List.range 12).all fun k => (List.range ((nm k).size + 1)).all fun m => beginsF ((nm k).extract 0 m)) = true := by decide +kernel
theorem nm_colon : ((List.range 12).all fun k => (List.range (nm k).size).all fun m => !(bt (nm k) m == 58)) = true := by decide +kernel
theorem nm_cls : ((List.range 12).all fun k => clsOf (nm k) == some k) = true := by decide +kernel
theorem nm_begins {k m : Nat} (hk : k < 12) (hm : m ≤ (nm k).size) : beginsF ((nm k).extract 0 m) = true := by
  have := List.all_eq_true.1 nm_all k (by simpa using hk)
  exact List.all_eq_true.1 this m (by simp; omega)
theorem nm_nocolon {k m : Nat} (hk : k < 12) (hm : m < (nm k).size) : (bt (nm k) m == 58) = false := by
  have := List.all_eq_true.1 nm_colon k (by simpa using hk)
  have := List.all_eq_true.1 this m (by simpa using hm)
  simpa using this
theorem nm_clsOf {k : Nat} (hk : k < 12) : clsOf (nm k) = some k := by
  have := List.all_eq_true.1 nm_cls k (by simpa using hk)
  simpa using this
theorem extract_at {s : ByteArray} {a b : Nat} {m : ByteArray} (h : s.extract a b = m) (k : Nat) (hk : k < m.size) : bt s (a + k) = bt m k := by
  subst h
  have hz : (s.extract a b).size = min b s.size - a := by simp
  unfold bt
  rw [extract_list, List.getD_eq_getElem?_getD, List.getD_eq_getElem?_getD, List.getElem?_drop, List.getElem?_take, if_pos (by omega)]
/-- Where a class's name stands, with a colon and an end behind it, it is read. -/
theorem classGo_name {t : ByteArray} {a k : Nat} {f : Nat → Bool} (hk : k < 12) (he : t.extract a (a + (nm k).size) = nm k) (hz : a + (nm k).size + 2 ≤ t.size)
    (h1 : bt t (a + (nm k).size) = 58) (h2 : bt t (a + (nm k).size + 1) = 93) (d : Nat) (hd : d ≤ (nm k).size) : classGo t a f (a + ((nm k).size - d)) = .go (a + (nm k).size + 2) (fun x => f x || cls k x) := by
  induction d with
  | zero =>
    rw [Nat.sub_zero, cg_close (by omega) (by rw [h1]; rfl)]
    unfold closeF
    rw [he, nm_clsOf hk]
    simp only
    rw [if_neg (by omega), h2, if_pos (by rfl)]
  | succ d ih =>
    have hb : bt t (a + ((nm k).size - (d + 1))) = bt (nm k) ((nm k).size - (d + 1)) := extract_at he _ (by omega)
    have hx : t.extract a (a + ((nm k).size - (d + 1)) + 1) = (nm k).extract 0 ((nm k).size - d) := by
      apply bytes_ext
      have e := congrArg (fun b : ByteArray => b.data.toList.take ((nm k).size - d)) he
      simp only [extract_list] at e
      rw [extract_list, extract_list, List.drop_zero, ← e, List.take_drop, List.take_take]
      congr 2; omega
    rw [cg_on (by omega) (by rw [hb]; exact nm_nocolon hk (by omega)) (by rw [hx]; exact nm_begins hk (by omega))]
    have := ih (by omega)
    rwa [show a + ((nm k).size - (d + 1)) + 1 = a + ((nm k).size - d) by omega]
theorem mem_ends {k m : Nat} (hk : k < 12) (hm : m ≤ (nm k).size) : (nm k).extract m (nm k).size ++ ⟨#[58, 93, 93]⟩ ∈ endsL := by
  unfold endsL
  by_cases h : m < (nm k).size
  · refine List.mem_append_right _ (List.mem_flatMap.2 ⟨k, by simpa using hk, List.mem_map.2 ⟨m, by simpa using h, rfl⟩⟩)
  · have hm' : m = (nm k).size := by omega
    have e : (nm k).extract m (nm k).size ++ ⟨#[58, 93, 93]⟩ = (⟨#[58, 93, 93]⟩ : ByteArray) := by
      apply bytes_ext
      rw [ByteArray.data_append, Array.toList_append, extract_list, hm', List.drop_eq_nil_of_le (by rw [List.length_take]; omega)]; rfl
    rw [e]
    simp
theorem prefix_of {P : ByteArray} (h : beginsF P = true) : ∃ k, k < 12 ∧ P.size ≤ (nm k).size ∧ (nm k).extract 0 P.size = P := by
  unfold beginsF at h
  obtain ⟨k, hk, hh⟩ := List.any_eq_true.1 h
  unfold hpF at hh
  simp only [Bool.and_eq_true, decide_eq_true_eq, beq_iff_eq] at hh
  refine ⟨k, by simpa using hk, hh.1, ?_⟩
  have e := hh.2
  rw [ByteArray.toList_eq, ByteArray.toList_eq] at e
  exact bytes_ext e
theorem classGo_lack {s : ByteArray} {a : Nat} {f : Nat → Bool} (ha : a ≤ s.size) (j : Nat) (haj : a ≤ j) (hj : j ≤ s.size) (hp : j = a ∨ beginsF (s.extract a j) = true) (hs : classGo s a f j = .bad 2 s.size) :
    ∃ c ∈ endsL, ∃ g, classGo (s ++ c) a f j = .go (s.size + c.size - 1) g ∧ bt (s ++ c) (s.size + c.size - 1) = 93 ∧ 1 ≤ c.size := by
  induction hn : s.size - j using Nat.strongRecOn generalizing j with
  | _ n ih =>
    by_cases hj' : s.size ≤ j
    · have hjs : j = s.size := by omega
      subst hjs
      obtain ⟨k, hk, hle, hex⟩ : ∃ k, k < 12 ∧ s.size - a ≤ (nm k).size ∧ (nm k).extract 0 (s.size - a) = s.extract a s.size := by
        rcases hp with hp | hp
        · refine ⟨0, by decide, by omega, ?_⟩
          apply bytes_ext
          rw [extract_list, extract_list, show s.size - a = 0 by omega, ← hp]
          have e : (List.take s.size s.data.toList).drop s.size = [] := List.drop_eq_nil_of_le (by rw [List.length_take]; omega)
          rw [e]; rfl
        · obtain ⟨k, hk, h1, h2⟩ := prefix_of hp
          have hz : (s.extract a s.size).size = s.size - a := by simp
          rw [hz] at h1 h2
          exact ⟨k, hk, h1, h2⟩
      let c : ByteArray := (nm k).extract (s.size - a) (nm k).size ++ ⟨#[58, 93, 93]⟩
      have hc : c = (nm k).extract (s.size - a) (nm k).size ++ ⟨#[58, 93, 93]⟩ := rfl
      have hx : ((nm k).extract (s.size - a) (nm k).size).size = (nm k).size - (s.size - a) := by simp
      have hcz : c.size = (nm k).size - (s.size - a) + 3 := by rw [hc, ByteArray.size_append, hx]; rfl
      refine ⟨c, mem_ends hk hle, ?_⟩
      have htz : (s ++ c).size = s.size + c.size := ByteArray.size_append
      have hnm : (s ++ c).extract a (a + (nm k).size) = nm k := by
        apply bytes_ext
        have e1 : (s ++ c).data.toList = s.data.toList ++ ((nm k).data.toList.drop (s.size - a) ++ [58, 93, 93]) := by
          rw [ByteArray.data_append, Array.toList_append, hc, ByteArray.data_append, Array.toList_append, extract_list, List.take_of_length_le (l := (nm k).data.toList) (by simp)]
        have e2 := congrArg (fun b : ByteArray => b.data.toList) hex
        simp only [extract_list, List.drop_zero] at e2
        have hl : s.data.toList.length = s.size := by simp
        have hln : (nm k).data.toList.length = (nm k).size := by simp
        rw [List.take_of_length_le (l := s.data.toList) (by omega)] at e2
        rw [extract_list, e1, List.take_append, List.drop_append, List.take_of_length_le (l := s.data.toList) (by omega), ← e2, hl]
        rw [show a - s.size = 0 by omega, List.drop_zero, List.take_append, List.length_drop, hln]
        rw [List.take_of_length_le (l := List.drop (s.size - a) (nm k).data.toList) (by rw [List.length_drop]; omega)]
        rw [show a + (nm k).size - s.size - ((nm k).size - (s.size - a)) = 0 by omega, List.take_zero, List.append_nil, List.take_append_drop]
      have b : ∀ m, bt (s ++ c) (s.size + ((nm k).size - (s.size - a)) + m) = bt ⟨#[58, 93, 93]⟩ m := by
        intro m
        rw [Nat.add_assoc, bt_app, hc, ← hx, bt_app]
      have g1 : s.size + ((nm k).size - (s.size - a)) = a + (nm k).size := by omega
      rw [g1] at b
      have := classGo_name (t := s ++ c) (a := a) (f := f) hk hnm (by rw [htz, hcz]; omega) (b 0) (b 1) ((nm k).size - (s.size - a)) (by omega)
      rw [show a + ((nm k).size - ((nm k).size - (s.size - a))) = s.size by omega] at this
      refine ⟨_, by rw [this, hcz]; congr 1; omega, ?_, by omega⟩
      rw [show s.size + c.size - 1 = a + (nm k).size + 2 by rw [hcz]; omega]
      exact b 2
    · have hj2 : j < s.size := by omega
      cases hb : (bt s j == 58) with
      | true =>
        rw [cg_close hj2 hb] at hs
        unfold closeF at hs
        cases hc : clsOf (s.extract a j) with
        | none => rw [hc] at hs; cases hs
        | some k =>
          rw [hc] at hs
          simp only at hs
          by_cases k1 : s.size ≤ j + 1
          · refine ⟨⟨#[93, 93]⟩, by unfold endsL; simp, fun x => f x || cls k x, ?_, ?_, by decide⟩
            · have hA := alike_app s ⟨#[93, 93]⟩
              have hz : (s ++ (⟨#[93, 93]⟩ : ByteArray)).size = s.size + 2 := ByteArray.size_append
              rw [cg_close (by omega) (by rw [hA.at_ j hj2]; exact hb)]
              unfold closeF
              rw [hA.ex a j (by omega), hc]
              simp only
              rw [if_neg (by omega), show j + 1 = s.size + 0 by omega, bt_app, if_pos (by rfl)]
              congr 1; show j + 2 = s.size + 2 - 1; omega
            · exact bt_app s ⟨#[93, 93]⟩ 1
          · rw [if_neg k1] at hs
            split at hs
            · cases hs
            · cases hs
      | false =>
      cases hg : beginsF (s.extract a (j + 1)) with
      | true =>
        rw [cg_on hj2 hb hg] at hs
        obtain ⟨c, hc, g, h1, h2, h3⟩ := ih (s.size - (j + 1)) (by omega) (j + 1) (by omega) (by omega) (.inr hg) hs rfl
        have hA := alike_app s c
        have := hA.ht
        exact ⟨c, hc, g, by rw [cg_on (by omega) (by rw [hA.at_ j hj2]; exact hb) (by rw [hA.ex a (j + 1) (by omega)]; exact hg)]; exact h1, h2, h3⟩
      | false => rw [cg_bad hj2 hb hg] at hs; cases hs
theorem thingF_one {t : ByteArray} {i : Nat} {f : Nat → Bool} (h1 : i + 1 < t.size) (hb : bt t (i + 1) = 93) : thingF t i f = .go (i + 1) (addB f (bt t i).toNat) := by
  have hs : ∀ c, spanF t i f c = .go (i + 1) (addB f c.toNat) := fun c => by unfold spanF; rw [if_neg (by omega), hb, if_pos (by decide)]
  unfold thingF
  by_cases k0 : (bt t i == 91) = true
  · have e : bt t i = 91 := by simpa using k0
    rw [if_pos k0, if_neg (by omega), hb, if_neg (by decide), if_neg (by decide), hs, e]
  · rw [if_neg k0, hs]
theorem loopF_lack {s : ByteArray} {first : Nat} (i : Nat) (hf : first ≤ i) (hi : i ≤ s.size) (hne : first < s.size) (f : Nat → Bool) (hs : loopF s first i f = .bad 2 s.size) :
    ∃ c ∈ endsL, ∃ g, loopF (s ++ c) first i f = .go (s.size + c.size) g := by
  induction hn : s.size - i using Nat.strongRecOn generalizing i f with
  | _ n ih =>
    have close : ∀ (c : ByteArray), Alike s.size s (s ++ c) := alike_app s
    have hz1 : (s ++ (⟨#[93]⟩ : ByteArray)).size = s.size + 1 := ByteArray.size_append
    have b1 : bt (s ++ (⟨#[93]⟩ : ByteArray)) s.size = 93 := bt_app s ⟨#[93]⟩ 0
    have m1 : (⟨#[93]⟩ : ByteArray) ∈ endsL := by unfold endsL; simp
    have A1 := close ⟨#[93]⟩
    by_cases hi' : s.size ≤ i
    · have hje : i = s.size := by omega
      subst hje
      exact ⟨⟨#[93]⟩, m1, f, by rw [lo_end (by omega) (by rw [b1]; rfl) hne]; rfl⟩
    have hi2 : i < s.size := by omega
    cases he : (bt s i == 93 && decide (first < i)) with
    | true =>
      simp only [Bool.and_eq_true, decide_eq_true_eq] at he
      rw [lo_end hi2 he.1 he.2] at hs; cases hs
    | false =>
    rw [loopF_step hi2 he] at hs
    have stepT : ∀ c, loopF (s ++ c) first i f = match thingF (s ++ c) i f with | .bad e p => .bad e p | .go i' f' => loopF (s ++ c) first i' f' := fun c =>
      loopF_step (by have := (close c).ht; omega) (by rw [(close c).at_ i hi2]; exact he)
    cases hq : thingF s i f with
    | go i' f' =>
      rw [hq] at hs
      obtain ⟨g1, g2⟩ := thingF_go hq
      obtain ⟨c, hc, g, h⟩ := ih (s.size - i') (by omega) i' (by omega) g2 f' hs rfl
      exact ⟨c, hc, g, by rw [stepT, thingF_ext (close c) hi2 hq]; exact h⟩
    | bad e p =>
      rw [hq] at hs
      simp only [Res.bad.injEq] at hs
      obtain ⟨rfl, rfl⟩ := hs
      -- the byte is the last one
      have last : s.size = i + 1 → ∃ c ∈ endsL, ∃ g, loopF (s ++ c) first i f = .go (s.size + c.size) g := fun h => by
        refine ⟨⟨#[93]⟩, m1, addB f (bt (s ++ (⟨#[93]⟩ : ByteArray)) i).toNat, ?_⟩
        rw [stepT, thingF_one (by omega) (by rw [← h]; exact b1)]
        show loopF _ first (i + 1) _ = _
        rw [lo_end (by omega) (by rw [← h, b1]; rfl) (by omega), h]; rfl
      have span : ∀ c, (∀ k, k < s.size → bt (s ++ (⟨#[93]⟩ : ByteArray)) k = bt s k) → spanF s i f c = .bad 2 s.size → i + 1 < s.size →
          (thingF (s ++ (⟨#[93]⟩ : ByteArray)) i f = spanF (s ++ (⟨#[93]⟩ : ByteArray)) i f c) → ∃ c ∈ endsL, ∃ g, loopF (s ++ c) first i f = .go (s.size + c.size) g := by
        intro c hb hsp k1 hth
        unfold spanF at hsp
        rw [if_neg (by omega)] at hsp
        by_cases k2 : (bt s (i + 1) != 45) = true
        · rw [if_pos k2] at hsp; cases hsp
        rw [if_neg k2] at hsp
        have e45 : bt s (i + 1) = 45 := by simpa using k2
        by_cases k3 : s.size ≤ i + 2
        · have h : s.size = i + 2 := by omega
          have e1 : spanF (s ++ (⟨#[93]⟩ : ByteArray)) i f c = .go (i + 1) (addB f c.toNat) := by
            unfold spanF
            rw [if_neg (by omega), hb _ k1, if_neg k2, if_neg (by omega), ← h, b1, if_pos (by rfl)]
          refine ⟨⟨#[93]⟩, m1, addB (addB f c.toNat) (bt (s ++ (⟨#[93]⟩ : ByteArray)) (i + 1)).toNat, ?_⟩
          rw [stepT, hth, e1]
          show loopF _ first (i + 1) _ = _
          rw [loopF_step (by omega) (by rw [hb _ k1, e45]; rfl), thingF_one (by omega) (by rw [← h]; exact b1)]
          show loopF _ first (i + 2) _ = _
          rw [lo_end (by omega) (by rw [← h, b1]; rfl) (by omega), h]; rfl
        rw [if_neg k3] at hsp
        by_cases k4 : (bt s (i + 2) == 93) = true
        · rw [if_pos k4] at hsp; cases hsp
        rw [if_neg k4] at hsp
        by_cases k5 : (bt s (i + 2)).toNat < c.toNat
        · rw [if_pos k5] at hsp; cases hsp
        rw [if_neg k5] at hsp
        by_cases k6 : (bt s (i + 2) == 91 && decide (s.size ≤ i + 3)) = true
        · simp only [Bool.and_eq_true, decide_eq_true_eq] at k6
          have h : s.size = i + 3 := by omega
          refine ⟨⟨#[93]⟩, m1, fun x => f x || rangeF c.toNat (bt s (i + 2)).toNat x, ?_⟩
          have e1 : spanF (s ++ (⟨#[93]⟩ : ByteArray)) i f c = .go (i + 3) (fun x => f x || rangeF c.toNat (bt s (i + 2)).toNat x) := by
            unfold spanF
            rw [if_neg (by omega), hb _ k1, if_neg k2, if_neg (by omega), hb _ (by omega), if_neg k4, if_neg k5, if_neg (by rw [decide_eq_false (by omega)]; simp), ← h, b1, if_neg (by rw [show marksB 93 = false from rfl]; simp)]
          rw [stepT, hth, e1]
          show loopF _ first (i + 3) _ = _
          rw [lo_end (by omega) (by rw [← h, b1]; rfl) (by omega), h]; rfl
        rw [if_neg k6] at hsp
        split at hsp
        · cases hsp
        · cases hsp
      by_cases k1 : s.size ≤ i + 1
      · exact last (by omega)
      have k1' : i + 1 < s.size := by omega
      have hb : ∀ k, k < s.size → bt (s ++ (⟨#[93]⟩ : ByteArray)) k = bt s k := A1.at_
      unfold thingF at hq
      by_cases k0 : (bt s i == 91) = true
      · rw [if_pos k0, if_neg k1] at hq
        by_cases k2 : (bt s (i + 1) == 58) = true
        · rw [if_pos k2] at hq
          obtain ⟨c, hc, g, h1, h2, h3⟩ := classGo_lack (by omega) (i + 2) (Nat.le_refl _) (by omega) (.inl rfl) hq
          refine ⟨c, hc, g, ?_⟩
          have hA := close c
          have hz := ByteArray.size_append (a := s) (b := c)
          rw [stepT]
          have : thingF (s ++ c) i f = .go (s.size + c.size - 1) g := by
            unfold thingF
            rw [hA.at_ i hi2, if_pos k0, if_neg (by omega), hA.at_ _ k1', if_pos k2]
            exact h1
          rw [this]
          show loopF _ first (s.size + c.size - 1) _ = _
          rw [lo_end (by omega) (by rw [h2]; rfl) (by omega)]
          congr 1; omega
        rw [if_neg k2] at hq
        by_cases k3 : marksB (bt s (i + 1)) = true
        · rw [if_pos k3] at hq; cases hq
        rw [if_neg k3] at hq
        refine span 91 hb hq k1' ?_
        unfold thingF
        rw [hb i hi2, if_pos k0, if_neg (by omega), hb _ k1', if_neg k2, if_neg k3]
      · rw [if_neg k0] at hq
        refine span _ hb hq k1' ?_
        unfold thingF
        rw [hb i hi2, if_neg k0]
/-- To a bracket that ends too early one of the endings lacks. -/
theorem readB_lack (s : ByteArray) (a : Int) (hs : (readB s a).err = 2) : ∃ c ∈ endsL, (readB (s ++ c) a).err = 0 ∧ (readB (s ++ c) a).stop = ((s.size + c.size : Nat) : Int) := by
  by_cases h0 : a < 0 ∨ (s.size : Int) ≤ a
  · unfold readB at hs; rw [if_pos h0] at hs; cases hs
  by_cases h1 : (bt s a.toNat != 91) = true
  · unfold readB at hs; rw [if_neg h0, if_pos h1] at hs; cases hs
  have hk : a.toNat < s.size := by omega
  have key : ∀ (b : Bool) (R : Res) (i : Nat), Fits i s.size R → (ansOf b R).err = 2 → R = .bad 2 s.size := by
    intro b R i hfit he
    cases R with
    | go j f => cases he
    | bad e p =>
      rcases hfit with ⟨rfl, rfl⟩ | ⟨hh, k1, k2⟩
      · rfl
      · have : e = 2 := he
        omega
  have app : ∀ c : ByteArray, readB (s ++ c) a = if bt (s ++ c) (a.toNat + 1) == 94 then ansOf true (loopF (s ++ c) (a.toNat + 2) (a.toNat + 2) (fun _ => false)) else ansOf false (loopF (s ++ c) (a.toNat + 1) (a.toNat + 1) (fun _ => false)) := by
    intro c
    have hA := alike_app s c
    have := hA.ht
    unfold readB
    rw [if_neg (by omega), hA.at_ _ hk, if_neg h1]
  -- nothing behind the begin: a byte and an end lack
  have fresh : ∀ (t : ByteArray) (k : Nat), t.size = k + 2 → bt t k = 97 → bt t (k + 1) = 93 → loopF t k k (fun _ => false) = .go (k + 2) (addB (fun _ => false) 97) := by
    intro t k hz hb0 hb1
    rw [loopF_step (by omega) (by simp), thingF_one (by omega) hb1, hb0]
    show loopF t k (k + 1) _ = _
    rw [lo_end (by omega) (by rw [hb1]; rfl) (by omega)]; rfl
  have m2 : (⟨#[97, 93]⟩ : ByteArray) ∈ endsL := by unfold endsL; simp
  have hz2 : (s ++ (⟨#[97, 93]⟩ : ByteArray)).size = s.size + 2 := ByteArray.size_append
  by_cases hl : s.size = a.toNat + 1
  · refine ⟨⟨#[97, 93]⟩, m2, ?_⟩
    have c0 : bt (s ++ (⟨#[97, 93]⟩ : ByteArray)) (a.toNat + 1) = 97 := by rw [← hl]; exact bt_app s ⟨#[97, 93]⟩ 0
    have c1 : bt (s ++ (⟨#[97, 93]⟩ : ByteArray)) (a.toNat + 1 + 1) = 93 := by rw [← hl]; exact bt_app s ⟨#[97, 93]⟩ 1
    rw [app, c0, if_neg (by decide), fresh _ _ (by omega) c0 c1]
    exact ⟨rfl, by show ((a.toNat + 1 + 2 : Nat) : Int) = ((s.size + 2 : Nat) : Int); omega⟩
  by_cases h2 : (bt s (a.toNat + 1) == 94) = true
  · have e : readB s a = ansOf true (loopF s (a.toNat + 2) (a.toNat + 2) (fun _ => false)) := by unfold readB; rw [if_neg h0, if_neg h1, if_pos h2]
    rw [e] at hs
    have hR := key _ _ _ (loopF_fits _ _) hs
    by_cases hl2 : s.size = a.toNat + 2
    · refine ⟨⟨#[97, 93]⟩, m2, ?_⟩
      have c0 : bt (s ++ (⟨#[97, 93]⟩ : ByteArray)) (a.toNat + 2) = 97 := by rw [← hl2]; exact bt_app s ⟨#[97, 93]⟩ 0
      have c1 : bt (s ++ (⟨#[97, 93]⟩ : ByteArray)) (a.toNat + 2 + 1) = 93 := by rw [← hl2]; exact bt_app s ⟨#[97, 93]⟩ 1
      rw [app, bt_left _ _ _ (by omega), if_pos h2, fresh _ _ (by omega) c0 c1]
      exact ⟨rfl, by show ((a.toNat + 2 + 2 : Nat) : Int) = ((s.size + 2 : Nat) : Int); omega⟩
    · obtain ⟨c, hc, g, h⟩ := loopF_lack (a.toNat + 2) (Nat.le_refl _) (by omega) (by omega) _ hR
      refine ⟨c, hc, ?_⟩
      rw [app, bt_left _ _ _ (by omega), if_pos h2, h]
      exact ⟨rfl, rfl⟩
  · have e : readB s a = ansOf false (loopF s (a.toNat + 1) (a.toNat + 1) (fun _ => false)) := by unfold readB; rw [if_neg h0, if_neg h1, if_neg h2]
    rw [e] at hs
    have hR := key _ _ _ (loopF_fits _ _) hs
    obtain ⟨c, hc, g, h⟩ := loopF_lack (a.toNat + 1) (Nat.le_refl _) (by omega) (by omega) _ hR
    refine ⟨c, hc, ?_⟩
    rw [app, bt_left _ _ _ (by omega), if_neg h2, h]
    exact ⟨rfl, rfl⟩
end BrkP
end Go.Proofs.Ytddokdjlmdoebaa

/- Plain facts on brackets: the bracket of a set, and that it is read as the set. No program is in sight. -/
namespace Go.Proofs.Ytddokdjlmdoebaa
open Go.RowKit SetP
namespace BrkP
def four (x : Nat) : Bool := x == 93 || (x == 91 || (x == 94 || x == 45))
def restF (f : Nat → Bool) : Nat → Bool := fun x => f x && !four x
def chB (z : Int) : UInt8 := UInt8.ofNat z.toNat
def runT (p : Int × Int) : List UInt8 := if p.1 == p.2 then [chB p.1] else if p.2 == p.1 + 1 then [chB p.1, chB p.2] else [chB p.1, 45, chB p.2]
def runsT (R : List (Int × Int)) : List UInt8 := R.flatMap runT
def optB (b : Bool) (c : UInt8) : List UInt8 := if b then [c] else []
def outB (f : Nat → Bool) : List UInt8 := optB (f 93) 93 ++ runsT (runsF (restF f)) ++ optB (f 91) 91
def lastB (f : Nat → Bool) : List UInt8 := if f 45 && (outB f).isEmpty then 45 :: optB (f 94) 94 else optB (f 94) 94 ++ optB (f 45) 45
def textB (f : Nat → Bool) : List UInt8 := if same f (fun _ => false) then [91, 94, 0, 45, 255, 93] else if (outB f).isEmpty && lastB f == [94] then [] else 91 :: (outB f ++ lastB f ++ [93])

/-- What stands in a text from a place to its end. -/
structure At (s : ByteArray) (i : Nat) (l : List UInt8) : Prop where
  size : s.size = i + l.length
  bt : ∀ k, k < l.length → BrkP.bt s (i + k) = l.getD k 0
theorem At.next {s : ByteArray} {i : Nat} {m l : List UInt8} (h : At s i (m ++ l)) : At s (i + m.length) l := by
  refine ⟨by rw [h.size, List.length_append]; omega, fun k hk => ?_⟩
  have := h.bt (m.length + k) (by rw [List.length_append]; omega)
  rw [← Nat.add_assoc] at this
  rw [this, List.getD_eq_getElem?_getD, List.getElem?_append_right (by omega), Nat.add_sub_cancel_left, List.getD_eq_getElem?_getD]
theorem at_app (A : ByteArray) (l : List UInt8) : At (A ++ ⟨l.toArray⟩) A.size l := by
  have hl : (⟨l.toArray⟩ : ByteArray).size = l.length := by show l.toArray.size = _; simp
  refine ⟨by rw [ByteArray.size_append, hl], fun k _ => ?_⟩
  rw [bt_app]; rfl
/-- What may stand behind a byte that is a thing. -/
def Safe (l : List UInt8) : Prop := (∃ c m, l = c :: m ∧ (c == 45) = false) ∨ ∃ m, l = 45 :: 93 :: m
theorem step_one {s : ByteArray} {first i : Nat} {f : Nat → Bool} {c : UInt8} {l : List UInt8} (h : At s i (c :: l)) (hs : Safe l) (hc : (c == 93) = false ∨ first = i)
    (hm : (c == 91) = true → marksB (l.getD 0 0) = false) : loopF s first i f = loopF s first (i + 1) (addB f c.toNat) := by
  have hz := h.size
  have b0 : bt s i = c := h.bt 0 (by simp)
  have hl : 0 < l.length := by rcases hs with ⟨_, _, rfl, _⟩ | ⟨_, rfl⟩ <;> simp
  have b1 : bt s (i + 1) = l.getD 0 0 := by have := h.bt 1 (by simp; omega); simpa using this
  simp only [List.length_cons] at hz
  have hth : thingF s i f = .go (i + 1) (addB f c.toNat) := by
    have hsp : ∀ d : UInt8, spanF s i f d = .go (i + 1) (addB f d.toNat) := by
      intro d
      unfold spanF
      rw [if_neg (by omega), b1]
      rcases hs with ⟨e, m, rfl, he⟩ | ⟨m, rfl⟩
      · rw [if_pos (show ((e :: m).getD 0 0 != 45) = true from isbne he)]
      · have b2 : bt s (i + 2) = 93 := by have := h.bt 2 (by simp); simpa using this
        simp only [List.length_cons] at hz
        rw [if_neg (by show ¬ ((45 : UInt8) != 45) = true; decide), if_neg (by omega), b2, if_pos (by rfl)]
    unfold thingF
    rw [b0]
    cases e : (c == 91) with
    | false => rw [if_neg (by simp), hsp]
    | true =>
      have hm' := hm e
      have e' : c = 91 := by simpa using e
      rw [if_pos rfl, if_neg (by omega), b1, if_neg (by
        intro h; unfold marksB at hm'; simp only [Bool.or_eq_false_iff] at hm'; rw [hm'.1] at h; cases h), if_neg (by rw [hm']; simp), hsp, e']
  rw [loopF_step (by omega) (by
    rw [b0]
    rcases hc with hc | hc
    · rw [hc]; rfl
    · rw [hc]; simp), hth]
theorem step_range {s : ByteArray} {first i : Nat} {f : Nat → Bool} {c d : UInt8} {l : List UInt8} (h : At s i (c :: 45 :: d :: l)) (hc : (c == 93) = false) (hc1 : (c == 91) = false) (hd : (d == 93) = false) (hd1 : (d == 91) = false)
    (hcd : ¬ d.toNat < c.toNat) : loopF s first i f = loopF s first (i + 3) (fun x => f x || rangeF c.toNat d.toNat x) := by
  have hz := h.size
  have b0 : bt s i = c := h.bt 0 (by simp)
  have b1 : bt s (i + 1) = 45 := by have := h.bt 1 (by simp); simpa using this
  have b2 : bt s (i + 2) = d := by have := h.bt 2 (by simp); simpa using this
  simp only [List.length_cons] at hz
  rw [loopF_step (by omega) (by rw [b0, hc]; rfl)]
  have hth : thingF s i f = .go (i + 3) (fun x => f x || rangeF c.toNat d.toNat x) := by
    unfold thingF
    rw [b0, if_neg (by rw [hc1]; simp)]
    unfold spanF
    rw [if_neg (by omega), b1, if_neg (by decide), if_neg (by omega), b2, if_neg (by rw [hd]; simp), if_neg hcd, if_neg (by rw [hd1]; simp), if_neg (by rw [hd1]; simp)]
  rw [hth]
theorem step_end {s : ByteArray} {first i : Nat} {f : Nat → Bool} (h : At s i [93]) (hf : first < i) : loopF s first i f = .go (i + 1) f :=
  lo_end (by have := h.size; simp at this; omega) (by have := h.bt 0 (by simp); rw [Nat.add_zero] at this; rw [this]; rfl) hf

theorem chB_nat {z : Int} (h0 : 0 ≤ z) (h1 : z < 256) : ((chB z).toNat : Int) = z := by
  unfold chB
  rw [UInt8.toNat_ofNat_of_lt' (by simp; omega)]; omega
/-- A run's ends are bytes that stand for themselves. -/
structure Good (p : Int × Int) : Prop where
  lo : 0 ≤ p.1
  le : p.1 ≤ p.2
  hi : p.2 < 256
  fa : four p.1.toNat = false
  fb : four p.2.toNat = false
theorem notFour {z : Int} (h0 : 0 ≤ z) (h1 : z < 256) (h : four z.toNat = false) : (chB z == 93) = false ∧ (chB z == 91) = false ∧ (chB z == 45) = false ∧ (chB z == 94) = false := by
  have hn := chB_nat h0 h1
  unfold four at h
  simp only [Bool.or_eq_false_iff, beq_eq_false_iff_ne] at h
  have key : ∀ k : UInt8, z.toNat ≠ k.toNat → (chB z == k) = false := fun k hk => by
    rw [beq_eq_false_iff_ne]; rintro rfl; exact hk (by omega)
  exact ⟨key 93 h.1, key 91 h.2.1, key 45 h.2.2.2, key 94 h.2.2.1⟩
theorem runT_head (p : Int × Int) : ∃ m, runT p = chB p.1 :: m := by
  unfold runT
  split
  · exact ⟨_, rfl⟩
  · split <;> exact ⟨_, rfl⟩
theorem add_range (f : Nat → Bool) (c : UInt8) {a b : Int} (ha : (c.toNat : Int) = a) (hb : b = a) : addB f c.toNat = fun x => f x || rangeF a b x := by
  funext x
  unfold addB rangeF
  congr 1
  rw [Bool.eq_iff_iff]; simp; omega
theorem step_run {s : ByteArray} {first i : Nat} {f : Nat → Bool} {p : Int × Int} {l : List UInt8} (g : Good p) (h : At s i (runT p ++ l)) (hs : Safe l) :
    loopF s first i f = loopF s first (i + (runT p).length) (fun x => f x || rangeF p.1 p.2 x) := by
  obtain ⟨a, b⟩ := p
  obtain ⟨g0, g1, g2, g3, g4⟩ := g
  simp only at g0 g1 g2 g3 g4
  obtain ⟨na, na1, na2, _⟩ := notFour g0 (by omega) g3
  obtain ⟨nb, nb1, nb2, _⟩ := notFour (by omega) g2 g4
  have ea := chB_nat g0 (by omega)
  have eb := chB_nat (z := b) (by omega) g2
  unfold runT at h ⊢
  simp only at h ⊢
  by_cases e1 : (a == b) = true
  · have e : a = b := by simpa using e1
    rw [if_pos e1] at h ⊢
    rw [step_one h hs (.inl na) (by rw [na1]; intro h; cases h), add_range f (chB a) ea e.symm]; rfl
  rw [if_neg e1] at h ⊢
  by_cases e2 : (b == a + 1) = true
  · have e : b = a + 1 := by simpa using e2
    rw [if_pos e2] at h ⊢
    have h2 : At s (i + 1) (chB b :: l) := At.next (m := [chB a]) (l := chB b :: l) h
    rw [step_one (l := chB b :: l) h (.inl ⟨_, _, rfl, nb2⟩) (.inl na) (by rw [na1]; intro h; cases h), step_one h2 hs (.inl nb) (by rw [nb1]; intro h; cases h)]
    congr 1
    funext x
    unfold addB rangeF
    rw [Bool.or_assoc]
    congr 1
    rw [Bool.eq_iff_iff]; simp; omega
  · rw [if_neg e2] at h ⊢
    have hle : a ≤ b := g1
    rw [step_range (l := l) h na na1 nb nb1 (by omega), ea, eb]; rfl
theorem safe_runs {R : List (Int × Int)} {l : List UInt8} (hR : ∀ p ∈ R, Good p) (hs : Safe l) : Safe (runsT R ++ l) := by
  cases R with
  | nil => exact hs
  | cons p R =>
    have g := hR p (List.mem_cons_self ..)
    obtain ⟨m, hm⟩ := runT_head p
    refine .inl ⟨chB p.1, m ++ runsT R ++ l, ?_, (notFour g.lo (by have := g.le; have := g.hi; omega) g.fa).2.2.1⟩
    show (runT p ++ runsT R) ++ l = _
    rw [hm]; simp
theorem step_runs {s : ByteArray} {first : Nat} (R : List (Int × Int)) {l : List UInt8} (hR : ∀ p ∈ R, Good p) (hs : Safe l) (i : Nat) (f : Nat → Bool) (h : At s i (runsT R ++ l)) :
    loopF s first i f = loopF s first (i + (runsT R).length) (fun x => f x || coverF R x) := by
  induction R generalizing i f with
  | nil => simp [runsT, coverF]
  | cons p R ih =>
    have e : runsT (p :: R) = runT p ++ runsT R := rfl
    rw [e, List.append_assoc] at h
    rw [step_run (hR p (List.mem_cons_self ..)) h (safe_runs (fun q hq => hR q (List.mem_cons_of_mem _ hq)) hs), ih (fun q hq => hR q (List.mem_cons_of_mem _ hq)) _ _ h.next, e, List.length_append, Nat.add_assoc]
    congr 1
    funext x
    rw [Bool.or_assoc]; rfl
theorem runs_good (f : Nat → Bool) : ∀ p ∈ runsF (restF f), Good p := by
  intro p hp
  have h := runsOk (restF f) 256
  obtain ⟨h1, h2, h3⟩ := h.bd p hp
  have hc : ∀ z : Int, p.1 ≤ z → z ≤ p.2 → restF f z.toNat = true := by
    intro z g1 g2
    have := h.cov z.toNat
    have ht : coverF (runsB (restF f) 256) z.toNat = true := by
      unfold coverF
      rw [List.any_eq_true]
      exact ⟨p, hp, by unfold rngF; simp; omega⟩
    rw [ht] at this
    have := this.symm
    simp only [Bool.and_eq_true] at this
    exact this.2
  have four_no : ∀ z : Int, p.1 ≤ z → z ≤ p.2 → four z.toNat = false := fun z g1 g2 => by
    have := hc z g1 g2
    unfold restF at this
    simp only [Bool.and_eq_true, Bool.not_eq_true'] at this
    exact this.2
  exact ⟨h1, h2, h3, four_no p.1 (Int.le_refl _) h2, four_no p.2 h2 (Int.le_refl _)⟩
theorem cover_rest (f : Nat → Bool) (x : Nat) (hx : x < 256) : coverF (runsF (restF f)) x = restF f x := by
  have := (runsOk (restF f) 256).cov x
  unfold runsF
  rw [this, decide_eq_true hx, Bool.true_and]
/-- What stands behind the runs. -/
def tailB (b91 b94 b45 : Bool) : List UInt8 := optB b91 91 ++ (optB b94 94 ++ optB b45 45) ++ [93]
theorem safe_tail (b91 b94 b45 : Bool) : Safe (tailB b91 b94 b45) := by
  cases b91 <;> cases b94 <;> cases b45
  all_goals first
    | exact .inl ⟨_, _, rfl, by decide⟩
    | exact .inr ⟨_, rfl⟩
theorem step_tail {s : ByteArray} {first i : Nat} {f : Nat → Bool} (b91 b94 b45 : Bool) (h : At s i (tailB b91 b94 b45)) (hf : first < i + (optB b91 91).length + (optB b94 94).length + (optB b45 45).length) :
    loopF s first i f = .go s.size (fun x => f x || (b91 && x == 91) || (b94 && x == 94) || (b45 && x == 45)) := by
  have hz := h.size
  have one : ∀ (b : Bool) (c : UInt8) (l : List UInt8) (i : Nat) (f : Nat → Bool), At s i (optB b c ++ l) → (b = true → Safe l ∧ (c == 93) = false ∧ ((c == 91) = true → marksB (l.getD 0 0) = false)) →
      loopF s first i f = loopF s first (i + (optB b c).length) (fun x => f x || (b && x == c.toNat)) := by
    intro b c l i f h hb
    cases b with
    | false => simp [optB]
    | true =>
      obtain ⟨h1, h2, h3⟩ := hb rfl
      rw [step_one (c := c) (l := l) h h1 (.inl h2) h3]
      congr 1
  have e1 : tailB b91 b94 b45 = optB b91 91 ++ (optB b94 94 ++ (optB b45 45 ++ [93])) := by unfold tailB; simp
  rw [e1] at h
  have s45 : Safe ([93] : List UInt8) := .inl ⟨_, _, rfl, by decide⟩
  have s94 : Safe (optB b45 45 ++ [93]) := by cases b45 <;> first | exact .inl ⟨_, _, rfl, by decide⟩ | exact .inr ⟨_, rfl⟩
  have s91 : Safe (optB b94 94 ++ (optB b45 45 ++ [93])) := by cases b94 <;> cases b45 <;> first | exact .inl ⟨_, _, rfl, by decide⟩ | exact .inr ⟨_, rfl⟩
  rw [one b91 91 _ i f h (fun _ => ⟨s91, by decide, fun _ => by cases b94 <;> cases b45 <;> decide⟩)]
  have h2 := h.next
  rw [one b94 94 _ _ _ h2 (fun _ => ⟨s94, by decide, fun h => absurd h (by decide)⟩)]
  have h3 := h2.next
  rw [one b45 45 _ _ _ h3 (fun _ => ⟨s45, by decide, fun h => absurd h (by decide)⟩)]
  have h4 := h3.next
  rw [step_end h4 (by omega)]
  have h5 := h4.size
  rw [h5]; rfl
theorem readB_of {A : ByteArray} {l : List UInt8} {g : Nat → Bool} (hl : (l.getD 0 0 == 94) = false) (h : loopF (A ++ ⟨(91 :: l).toArray⟩) (A.size + 1) (A.size + 1) (fun _ => false) = .go (A ++ (⟨(91 :: l).toArray⟩ : ByteArray)).size g) :
    readB (A ++ ⟨(91 :: l).toArray⟩) A.size = ⟨g, ((A.size + (91 :: l).length : Nat) : Int), 0, 0⟩ := by
  have hA := at_app A (91 :: l)
  have hz := hA.size
  have b0 : bt (A ++ ⟨(91 :: l).toArray⟩) A.size = 91 := hA.bt 0 (by simp)
  unfold readB
  rw [if_neg (by rw [hz]; simp; omega), Int.toNat_natCast, b0, if_neg (by decide)]
  have b1 : (bt (A ++ ⟨(91 :: l).toArray⟩) (A.size + 1) == 94) = false := by
    have : bt (A ++ ⟨(91 :: l).toArray⟩) (A.size + 1) = l.getD 0 0 := by
      have := bt_app A ⟨(91 :: l).toArray⟩ 1
      rw [this]; unfold bt; simp
    rw [this]; exact hl
  rw [b1, if_neg (by simp), h, hz]
  rfl
theorem text_read (f : Nat → Bool) (A : ByteArray) (ht : textB f ≠ []) : ∃ g, readB (A ++ ⟨(textB f).toArray⟩) A.size = ⟨g, ((A.size + (textB f).length : Nat) : Int), 0, 0⟩ ∧ same g f = true := by
  unfold textB at ht ⊢
  by_cases h0 : same f (fun _ => false) = true
  · rw [if_pos h0] at ht ⊢
    have h1 := place_two A 0 255 (by decide) (by decide) (by decide)
    rw [if_neg (by decide)] at h1
    refine ⟨_, h1, same_iff.2 fun x hx => ?_⟩
    have h2 := same_iff.1 h0 x hx
    rw [h2]
    unfold rangeF
    have e1 : decide (((0 : UInt8).toNat : Int) ≤ (x : Int)) = true := by simp
    have e2 : decide ((x : Int) ≤ ((255 : UInt8).toNat : Int)) = true := by have : ((255 : UInt8).toNat : Int) = 255 := rfl; rw [this]; simp; omega
    rw [e1, e2]; rfl
  rw [if_neg h0] at ht ⊢
  by_cases h2 : ((outB f).isEmpty && lastB f == [94]) = true
  · rw [if_pos h2] at ht; exact absurd rfl ht
  rw [if_neg h2] at ht ⊢
  have hgood := runs_good f
  have hrest : ∀ x, x < 256 → coverF (runsF (restF f)) x = restF f x := cover_rest f
  cases ho : (outB f).isEmpty with
  | true =>
    -- no run, no bracket: a dash first
    have ho' : outB f = [] := by simpa using ho
    have hparts := ho'
    unfold outB at hparts
    rw [List.append_eq_nil_iff, List.append_eq_nil_iff] at hparts
    obtain ⟨⟨p1, p2⟩, p3⟩ := hparts
    have f93 : f 93 = false := by cases h : f 93 with | false => rfl | true => rw [h] at p1; cases p1
    have f91 : f 91 = false := by cases h : f 91 with | false => rfl | true => rw [h] at p3; cases p3
    have hR : runsF (restF f) = [] := by
      cases hr : runsF (restF f) with
      | nil => rfl
      | cons p R =>
        rw [hr] at p2
        obtain ⟨m, hm⟩ := runT_head p
        have : runsT (p :: R) = runT p ++ runsT R := rfl
        rw [this, hm] at p2; cases p2
    have hno : ∀ x, x < 256 → restF f x = false := fun x hx => by rw [← hrest x hx, hR]; rfl
    have hx : ∀ x, x < 256 → f x = (f 94 && x == 94 || f 45 && x == 45) := by
      intro x hx
      have h := hno x hx
      unfold restF four at h
      by_cases e1 : x = 93
      · subst e1; rw [f93]; simp
      by_cases e2 : x = 91
      · subst e2; rw [f91]; simp
      by_cases e3 : x = 94
      · subst e3; simp
      by_cases e4 : x = 45
      · subst e4; simp
      have : f x = false := by simpa [e1, e2, e3, e4] using h
      rw [this]; simp [e3, e4]
    cases f45 : f 45 with
    | false =>
      exfalso
      cases f94 : f 94 with
      | false =>
        apply h0
        exact same_iff.2 fun x h => by rw [hx x h, f94, f45]; rfl
      | true =>
        apply h2
        unfold lastB
        rw [ho, f45, f94]; rfl
    | true =>
      have hl : lastB f = 45 :: optB (f 94) 94 := by unfold lastB; rw [f45, ho]; rfl
      rw [ho', hl, List.nil_append]
      cases f94 : f 94 with
      | false =>
        have e : (45 :: optB false 94 ++ [93] : List UInt8) = [45, 93] := rfl
        rw [e]
        have hA := at_app A [91, 45, 93]
        have h3 : At (A ++ ⟨[91, 45, 93].toArray⟩) (A.size + 1) [45, 93] := At.next (m := [91]) (l := [45, 93]) hA
        refine ⟨fun x => false || x == 45, readB_of (l := [45, 93]) (by decide) ?_, ?_⟩
        · rw [step_one h3 (.inl ⟨_, _, rfl, by decide⟩) (.inl (by decide)) (by decide)]
          have h4 : At (A ++ ⟨[91, 45, 93].toArray⟩) (A.size + 1 + 1) [93] := At.next (m := [45]) (l := [93]) h3
          rw [step_end h4 (by omega)]
          have := h4.size
          simp only [List.length_cons, List.length_nil] at this
          rw [this]; rfl
        · exact same_iff.2 fun x h => by rw [hx x h, f94, f45]; simp
      | true =>
        have e : (45 :: optB true 94 ++ [93] : List UInt8) = [45, 94, 93] := rfl
        rw [e]
        have hA := at_app A [91, 45, 94, 93]
        have h3 : At (A ++ ⟨[91, 45, 94, 93].toArray⟩) (A.size + 1) [45, 94, 93] := At.next (m := [91]) (l := [45, 94, 93]) hA
        refine ⟨fun x => (false || x == 45) || x == 94, readB_of (l := [45, 94, 93]) (by decide) ?_, ?_⟩
        · rw [step_one h3 (.inl ⟨_, _, rfl, by decide⟩) (.inl (by decide)) (by decide)]
          have h4 := At.next (m := [45]) (l := [94, 93]) h3
          have h4' : At (A ++ ⟨[91, 45, 94, 93].toArray⟩) (A.size + 1 + 1) [94, 93] := h4
          rw [step_one h4' (.inl ⟨_, _, rfl, by decide⟩) (.inl (by decide)) (by decide)]
          have h5 : At (A ++ ⟨[91, 45, 94, 93].toArray⟩) (A.size + 1 + 1 + 1) [93] := At.next (m := [94]) (l := [93]) h4'
          rw [step_end h5 (by omega)]
          have := h5.size
          simp only [List.length_cons, List.length_nil] at this
          rw [this]; rfl
        · exact same_iff.2 fun x h => by rw [hx x h, f94, f45]; simp [Bool.or_comm]
  | false =>
    have hl : lastB f = optB (f 94) 94 ++ optB (f 45) 45 := by unfold lastB; rw [ho, Bool.and_false, if_neg (by simp)]
    have hbody : outB f ++ lastB f ++ [93] = optB (f 93) 93 ++ (runsT (runsF (restF f)) ++ tailB (f 91) (f 94) (f 45)) := by
      rw [hl]; unfold outB tailB; simp
    have hne : outB f ≠ [] := by intro h; rw [h] at ho; cases ho
    have hlen : 0 < (optB (f 93) 93).length + (runsT (runsF (restF f))).length + (optB (f 91) 91).length := by
      rcases Nat.eq_zero_or_pos ((optB (f 93) 93).length + (runsT (runsF (restF f))).length + (optB (f 91) 91).length) with h | h
      · exfalso
        apply hne
        unfold outB
        apply List.eq_nil_of_length_eq_zero
        simp only [List.length_append]; omega
      · exact h
    have hhead : ((outB f ++ lastB f ++ [93]).getD 0 0 == 94) = false := by
      rw [hbody]
      cases f93 : f 93 with
      | true => rfl
      | false =>
        cases hr : runsF (restF f) with
        | nil =>
          cases f91 : f 91 with
          | true => rfl
          | false => rw [f93, hr, f91] at hlen; simp [optB, runsT] at hlen
        | cons p R =>
          have g := hgood p (by rw [hr]; exact List.mem_cons_self ..)
          obtain ⟨m, hm⟩ := runT_head p
          have e : runsT (p :: R) = runT p ++ runsT R := rfl
          rw [e, hm]
          exact (notFour g.lo (by have := g.le; have := g.hi; omega) g.fa).2.2.2
    have hA := at_app A (91 :: (outB f ++ lastB f ++ [93]))
    have h3 := At.next (m := [91]) (l := outB f ++ lastB f ++ [93]) hA
    refine ⟨fun x => ((f 93 && x == 93) || coverF (runsF (restF f)) x) || (f 91 && x == 91) || (f 94 && x == 94) || (f 45 && x == 45), readB_of hhead ?_, ?_⟩
    · generalize (A ++ (⟨(91 :: (outB f ++ lastB f ++ [93])).toArray⟩ : ByteArray)) = s at *
      rw [hbody] at h3
      have h3' : At s (A.size + 1) (optB (f 93) 93 ++ (runsT (runsF (restF f)) ++ tailB (f 91) (f 94) (f 45))) := h3
      have hs := safe_runs hgood (safe_tail (f 91) (f 94) (f 45))
      have e93 : loopF s (A.size + 1) (A.size + 1) (fun _ => false) = loopF s (A.size + 1) (A.size + 1 + (optB (f 93) 93).length) (fun x => f 93 && x == 93) := by
        cases f93 : f 93 with
        | false => simp [optB]
        | true =>
          rw [f93] at h3'
          rw [step_one (c := 93) h3' hs (.inr rfl) (fun h => absurd h (by decide))]
          congr 1
      rw [e93, step_runs _ hgood (safe_tail _ _ _) _ _ h3'.next, step_tail _ _ _ h3'.next.next (by omega)]
    · refine same_iff.2 fun x hx => ?_
      rw [hrest x hx]
      unfold restF four
      by_cases e1 : x = 93
      · subst e1; simp
      by_cases e2 : x = 91
      · subst e2; simp
      by_cases e3 : x = 94
      · subst e3; simp
      by_cases e4 : x = 45
      · subst e4; simp
      have b1 : (x == 93) = false := beq_eq_false_iff_ne.2 e1
      have b2 : (x == 91) = false := beq_eq_false_iff_ne.2 e2
      have b3 : (x == 94) = false := beq_eq_false_iff_ne.2 e3
      have b4 : (x == 45) = false := beq_eq_false_iff_ne.2 e4
      rw [b1, b2, b3, b4]; simp
end BrkP
end Go.Proofs.Ytddokdjlmdoebaa
