/- Walks of the package gimletref04: counts as the document says. -/
import Derived.Test.YtfcgmgpcbenfpaaProg
import Derived.WalkKit
import Derived.WalkSpells
import Derived.WalkLawsBesides
import Derived.Handy
import Derived.Lib.Hide
import Derived.Test.YtfcgmgpcbenfpaaMBra
import Derived.ChangeKeysEq
set_option linter.unusedVariables false
set_option linter.unusedSimpArgs false
namespace Go.Proofs.Ytfcgmgpcbenfpaa
open Go.RowKit BraceP

/-- An answer of the document's Read. -/
abbrev resR (r : R) : Value := .tuple #[.int .i64 r.1, .int .i64 r.2.1, .int .i64 r.2.2.1, .int .i64 r.2.2.2.1, .int .i64 r.2.2.2.2]

theorem full_cases {v d : Int} (hn : Num v d) : (full v d = true ∧ (d = 2 ∨ (d = 1 ∧ v = 0))) ∨ (full v d = false ∧ ((d = 0 ∧ v = 0) ∨ (d = 1 ∧ 0 < v))) := by
  unfold Num at hn; unfold full
  rcases hn with ⟨rfl, rfl⟩ | ⟨rfl, h1, h2⟩ | ⟨rfl, h1, h2⟩
  · right; decide
  · by_cases h : v = 0
    · left; simp [h]
    · right; simp [h]; omega
  · left; simp

end Go.Proofs.Ytfcgmgpcbenfpaa

/- Walks: the document's Read, numbers as text. -/
namespace Go.Proofs.Ytfcgmgpcbenfpaa
open Go.RowKit BraceP

/-- A number of at most two digits as text. -/
def digF (n : Int) : List UInt8 := if n < 10 then [UInt8.ofNat (48 + n.toNat)] else [UInt8.ofNat (48 + n.toNat / 10), UInt8.ofNat (48 + n.toNat % 10)]
abbrev strV (l : List UInt8) : Value := .string ⟨l.toArray⟩
set_option maxRecDepth 100000 in
theorem conv_text (w : World) (a : Addr) (k cap : Nat) (l : List UInt8) (hk : l.length = k) (hc : ∀ j (hj : j < l.length), w.cell? (a.add j) = some (.int .u8 (l[j].toNat : Int))) :
    (convert 70 9 (.slice (some a) k cap)).run Try.prog w = .ok (.string ⟨l.toArray⟩) w := by
  subst hk
  exact run_convert_bytes_back w 70 9 5 a cap l Try.underlying70 Try.underlying5 Try.underlying9 hc
theorem of_nat_cell {x : Nat} {c : UInt8} (hc : UInt8.ofNat x = c) (hx : x < 256) (y : Int) (hy : y = x) : (some (Value.int .u8 y) : Option Value) = some (.int .u8 c.toNat) := by
  rw [hy, ← hc, UInt8.toNat_ofNat_of_lt' (by simpa using hx)]
def rightB (n m : Int) : Bool := decide (0 ≤ n) && (decide (n ≤ 99) && (m == -1 || (decide (n ≤ m) && decide (m ≤ 99))))
def textF (n m : Int) : List UInt8 :=
  if rightB n m then
    if n == 0 && m == -1 then [42] else if n == 1 && m == -1 then [43] else if n == 0 && m == 1 then [63]
    else if n == m then 123 :: (digF n ++ [125]) else if m == -1 then 123 :: (digF n ++ [44, 125]) else 123 :: (digF n ++ (44 :: (digF m ++ [125])))
  else []
end Go.Proofs.Ytfcgmgpcbenfpaa

/- Walks: the text of counts, the document's and the program's; what must come whatever the input is. -/
namespace Go.Proofs.Ytfcgmgpcbenfpaa
open Go.RowKit BraceP

set_option maxRecDepth 100000 in
theorem run_eq_span (w : World) (a b a' b' : Int) :
    (Op.equalIn 10000 112 (.agg #[.int .i64 a, .int .i64 b]) (.agg #[.int .i64 a', .int .i64 b'])).run Try.prog w = .ok (a == a' && b == b') w := by
  have hp : Try.prog.stoodInHeld 112 = false := by kernel_rfl
  rw [show (10000 : Nat) = 9999 + 1 from rfl, run_equalIn_struct w 9999 112 _ _ (by rw [Program.fieldsOf, Try.underlying112]) hp]
  rw [Program.fieldsOf, Try.underlying112]
  have hq : ∀ x y, (Op.equalIn 9999 3 (.int .i64 x) (.int .i64 y)).run Try.prog w = .ok (x == y) w := fun x y => run_equalIn_int w 9998 _ _ .i64 x y Try.underlying3
  simp [Op.eqFields, part, isAgg, run_underlying Try.underlying3, hq]
  by_cases e1 : a = a' <;> by_cases e2 : b = b' <;> simp [e1, e2]
theorem mk_toArray (l : List UInt8) : (ByteArray.mk l.toArray).size = l.length := by simp [ByteArray.size]
theorem digF_len (n : Int) : 0 < (digF n).length ∧ (digF n).length ≤ 2 := by unfold digF; split <;> simp

theorem right_iff (n m : Int) : rightB n m = true ↔ 0 ≤ n ∧ n ≤ 99 ∧ (m = -1 ∨ (n ≤ m ∧ m ≤ 99)) := by
  unfold rightB; simp
theorem text_cases {n m : Int} {T : List UInt8} (hT : textF n m = T) :
    (rightB n m = false ∧ T = []) ∨ (rightB n m = true ∧ 0 ≤ n ∧ n ≤ 99 ∧ ((n = 0 ∧ m = -1 ∧ T = [42]) ∨ (n = 1 ∧ m = -1 ∧ T = [43]) ∨ (n = 0 ∧ m = 1 ∧ T = [63]) ∨
      (m = n ∧ T = 123 :: (digF n ++ [125])) ∨ (m = -1 ∧ 1 < n ∧ T = 123 :: (digF n ++ [44, 125])) ∨
      (n < m ∧ m ≤ 99 ∧ ¬ (n = 0 ∧ m = 1) ∧ T = 123 :: (digF n ++ (44 :: (digF m ++ [125])))))) := by
  unfold textF at hT
  cases hr : rightB n m with
  | false => rw [hr] at hT; exact .inl ⟨rfl, hT.symm⟩
  | true =>
    rw [hr, if_pos rfl] at hT
    obtain ⟨h0, h1, h2⟩ := (right_iff n m).1 hr
    refine .inr ⟨rfl, h0, h1, ?_⟩
    by_cases c1 : (n == 0 && m == -1) = true
    · rw [if_pos c1] at hT; simp at c1; exact .inl ⟨c1.1, c1.2, hT.symm⟩
    rw [if_neg c1] at hT; simp at c1
    by_cases c2 : (n == 1 && m == -1) = true
    · rw [if_pos c2] at hT; simp at c2; exact .inr (.inl ⟨c2.1, c2.2, hT.symm⟩)
    rw [if_neg c2] at hT; simp at c2
    by_cases c3 : (n == 0 && m == 1) = true
    · rw [if_pos c3] at hT; simp at c3; exact .inr (.inr (.inl ⟨c3.1, c3.2, hT.symm⟩))
    rw [if_neg c3] at hT; simp at c3
    by_cases c4 : (n == m) = true
    · rw [if_pos c4] at hT; simp at c4; exact .inr (.inr (.inr (.inl ⟨c4.symm, hT.symm⟩)))
    rw [if_neg c4] at hT; simp at c4
    by_cases c5 : (m == -1) = true
    · rw [if_pos c5] at hT; simp at c5; exact .inr (.inr (.inr (.inr (.inl ⟨c5, by omega, hT.symm⟩))))
    rw [if_neg c5] at hT; simp at c5
    exact .inr (.inr (.inr (.inr (.inr ⟨by omega, by omega, by omega, hT.symm⟩))))

end Go.Proofs.Ytfcgmgpcbenfpaa

/- Walks: the text of counts; what must come whatever the input is. -/
namespace Go.Proofs.Ytfcgmgpcbenfpaa
open Go.RowKit BraceP
attribute [local go_sem] run_eq_span
end Go.Proofs.Ytfcgmgpcbenfpaa
