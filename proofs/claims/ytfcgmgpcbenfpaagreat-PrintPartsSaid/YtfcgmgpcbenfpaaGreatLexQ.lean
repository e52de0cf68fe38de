/- Plain facts on words of a pattern: all words of a text; the text of a word, and that it is read as the word. No program is in sight. -/
import Derived.Test.YtfcgmgpcbenfpaaGreatLexP
import Derived.Test.YtfcgmgpcbenfpaaGreatMBkp
import Derived.Test.YtfcgmgpcbenfpaaGreatMBrc
set_option linter.unusedVariables false
set_option linter.unusedSimpArgs false
namespace Go.Proofs.YtfcgmgpcbenfpaaGreat
open Go.RowKit SetP BrkP
namespace LexP
/-- The words L stand from a to b. -/
inductive Reads (s : ByteArray) : Nat → List Wd → Nat → Prop where
  | nil (a : Nat) : Reads s a [] a
  | cons {a e b : Nat} {w : Wd} {L : List Wd} (ha : a < s.size) (hw : nextW s a = ⟨w, 0, 0⟩) (he : w.stop = (e : Int)) (h : Reads s e L b) : Reads s a (w :: L) b
theorem fit_ok {s : ByteArray} {a : Nat} (h : a < s.size) (h0 : (nextW s a).err = 0) : ∃ w e, nextW s a = ⟨w, 0, 0⟩ ∧ w.stop = ((e : Nat) : Int) ∧ a < e ∧ e ≤ s.size ∧ w.at_ = a := by
  have hf := nextW_fit h
  generalize nextW s a = r at *
  cases hf with
  | ok k e f x y hk g1 g2 hc hn hf => exact ⟨_, e, rfl, rfl, g1, g2, rfl⟩
  | short => exact absurd h0 (by show ¬ (2 : Int) = 0; decide)
  | bad e p he g1 g2 => have : e = 0 := h0; omega
/-- The text of a byte, of a set, of a word. -/
def byteT (b : UInt8) : List UInt8 := if escB b && !(b == 93 || b == 125) then [92, b] else [b]
def textW (f : Nat → Bool) : List UInt8 := if (bytesF f).length = 256 then [46] else if (bytesF f).length = 1 then byteT (chB (SetP.nextF f 0)) else textB f
def printW (w : Wd) : List UInt8 :=
  if w.kind == 1 then textW w.set else if w.kind == 2 then [40] else if w.kind == 3 then [41] else if w.kind == 4 then [124] else if w.kind == 5 then textF w.n w.m else []
theorem count_all {f : Nat → Bool} (h : (bytesF f).length = 256) (x : Nat) (hx : x < 256) : f x = true := by
  unfold bytesF upto at h
  rw [List.length_map] at h
  have h1 : ((List.range 256).filter f).length = (List.range 256).length := by rw [h]; simp
  exact (List.length_filter_eq_length_iff.1 h1) x (by simpa using hx)
theorem count_one {f : Nat → Bool} (h : (bytesF f).length = 1) : ∃ b : Nat, b < 256 ∧ SetP.nextF f 0 = (b : Int) ∧ ∀ x, x < 256 → (f x = true ↔ x = b) := by
  unfold bytesF upto at h
  rw [List.length_map] at h
  obtain ⟨b, hb⟩ := List.length_eq_one_iff.1 h
  have key : ∀ x, x < 256 → (f x = true ↔ x = b) := fun x hx => by
    have : x ∈ (List.range 256).filter f ↔ x ∈ [b] := by rw [hb]
    simpa [hx] using this
  have hbm : b ∈ (List.range 256).filter f := by rw [hb]; simp
  have hb2 : b < 256 ∧ f b = true := by simpa using hbm
  refine ⟨b, hb2.1, ?_, key⟩
  rcases nextF_cases f 0 with ⟨_, hn⟩ | ⟨n, he, _, h1, h2, _⟩
  · exact absurd (hn b (by omega) hb2.1) (by rw [hb2.2]; simp)
  · rw [he, (key n h1).1 h2]
theorem one_count {f : Nat → Bool} {b : Nat} (hb : b < 256) (h : ∀ x, x < 256 → (f x = true ↔ x = b)) : (bytesF f).length = 1 := by
  unfold bytesF upto
  rw [List.length_map]
  have e : (List.range 256).filter f = [b] := by
    have h1 : (List.range 256).filter f = (List.range 256).filter (fun x => x == b) := List.filter_congr fun x hx => by
      have := h x (by simpa using hx)
      rw [Bool.eq_iff_iff, this]; simp
    rw [h1]
    have : ∀ b, b < 256 → (List.range 256).filter (fun x => x == b) = [b] := by decide +kernel
    exact this b hb
  rw [e]; rfl
theorem all_bytes {p : UInt8 → Bool} (h : ((List.range 256).all fun n => p (UInt8.ofNat n)) = true) (b : UInt8) : p b = true := by
  have := List.all_eq_true.1 h b.toNat (by have := b.toNat_lt; simpa using this)
  simpa using this
def plainB (b : UInt8) : Bool := !(b == 40) && !(b == 41) && !(b == 124) && !isCnt b && !(b == 91) && !(b == 46) && !(b == 92) && !(b == 94 || b == 36)
theorem plain_of (b : UInt8) : ((escB b && !(b == 93 || b == 125)) || plainB b) = true :=
  all_bytes (p := fun b => (escB b && !(b == 93 || b == 125)) || plainB b) (by decide +kernel) b
theorem wordB_plain {s : ByteArray} {a : Nat} {b : UInt8} (h : plainB b = true) : wordB s a b = oneA (addB noSet b.toNat) a (a + 1) := by
  unfold plainB at h
  simp only [Bool.and_eq_true, Bool.not_eq_true'] at h
  obtain ⟨⟨⟨⟨⟨⟨⟨h1, h2⟩, h3⟩, h4⟩, h5⟩, h6⟩, h7⟩, h8⟩ := h
  unfold wordB
  simp [h1, h2, h3, h4, h5, h6, h7, h8]
theorem bt_strB (A : ByteArray) (l : List UInt8) (k : Nat) : bt (A ++ ⟨l.toArray⟩) (A.size + k) = l.getD k 0 := by rw [bt_app]; rfl
theorem size_strB (A : ByteArray) (l : List UInt8) : (A ++ (⟨l.toArray⟩ : ByteArray)).size = A.size + l.length := by
  rw [ByteArray.size_append]; show _ + l.toArray.size = _; simp
theorem read_byteT (A : ByteArray) (b : UInt8) : nextW (A ++ ⟨(byteT b).toArray⟩) A.size = oneA (addB noSet b.toNat) A.size ((A.size + (byteT b).length : Nat) : Int) := by
  have hl : 0 < (byteT b).length := by unfold byteT; split <;> simp
  rw [nextW_in (by rw [size_strB]; omega)]
  have h0 := bt_strB A (byteT b) 0
  rw [Nat.add_zero] at h0
  rw [h0]
  cases he : (escB b && !(b == 93 || b == 125)) with
  | true =>
    have e : byteT b = [92, b] := by unfold byteT; rw [he, if_pos rfl]
    rw [e]
    have h1 := bt_strB A [92, b] 1
    have hz := size_strB A [92, b]
    simp only [Bool.and_eq_true] at he
    show escA _ _ = _
    unfold escA
    rw [if_neg (by rw [hz]; simp), h1]
    show (if escB b = true then oneA (addB noSet b.toNat) (A.size : Int) ((A.size : Int) + 2) else _) = _
    rw [if_pos he.1]; rfl
  | false =>
    have hp := plain_of b
    rw [he, Bool.false_or] at hp
    have e : byteT b = [b] := by unfold byteT; rw [he, if_neg (by simp)]
    rw [e]
    show wordB _ _ b = _
    rw [wordB_plain hp]; rfl
theorem wordB_brk {s : ByteArray} {a : Nat} : wordB s a 91 = brkA a (readB s a) := rfl
theorem textB_head {f : Nat → Bool} (h : textB f ≠ []) : (textB f).getD 0 0 = 91 := by
  unfold textB at h ⊢
  split
  · rfl
  · rename_i h0
    rw [if_neg h0] at h
    split at h
    · exact absurd rfl h
    · rename_i h1; rw [if_neg h1]; rfl
end LexP
end Go.Proofs.YtfcgmgpcbenfpaaGreat
