/- Plain facts on words of a pattern: words lie side by side; texts of words, one behind the other, are read as the words; what lacks makes a word. No program is in sight. -/
import Derived.Test.YtfcgmgpcbenfpaaGreatLexR
import Derived.Test.YtfcgmgpcbenfpaaGreatMBra
set_option linter.unusedVariables false
set_option linter.unusedSimpArgs false
namespace Go.Proofs.YtfcgmgpcbenfpaaGreat
open Go.RowKit SetP BrkP
namespace LexP
/-- Where word i of those that stand from a on begins. -/
def startAt (a : Nat) (L : List Wd) (i : Nat) : Int := if i = 0 then (a : Int) else (L.getD (i - 1) wd0).stop
theorem Reads.le {s : ByteArray} {a b : Nat} {L : List Wd} (h : Reads s a L b) : a ≤ b ∧ L.length ≤ b - a ∧ (a ≤ s.size → b ≤ s.size) := by
  induction h with
  | nil a => exact ⟨Nat.le_refl _, by simp, fun h => h⟩
  | cons ha hw he h ih =>
    obtain ⟨w', e', hw', he', g1, g2, _⟩ := fit_ok ha (by rw [hw])
    rw [hw] at hw'
    injection hw' with e1
    subst e1
    have : e' = _ := Int.ofNat.inj (he'.symm.trans he)
    subst this
    obtain ⟨i1, i2, i3⟩ := ih
    refine ⟨by omega, by simp; omega, fun _ => i3 g2⟩
theorem Reads.chain {s : ByteArray} {a b : Nat} {L : List Wd} (h : Reads s a L b) :
    (∀ i, i < L.length → ∃ p e : Nat, (L.getD i wd0).at_ = (p : Int) ∧ (L.getD i wd0).stop = (e : Int) ∧ p < e ∧ e ≤ s.size ∧ startAt a L i = (p : Int) ∧ WdOk (L.getD i wd0)) ∧ startAt a L L.length = (b : Int) := by
  induction h with
  | nil a => exact ⟨fun i hi => by simp at hi, by unfold startAt; rw [List.length_nil, if_pos rfl]⟩
  | @cons a e b w L ha hw he h ih =>
    obtain ⟨i1, i2⟩ := ih
    have hok : WdOk w := fit_wdOk (by have := nextW_fit ha; rwa [hw] at this)
    obtain ⟨w', e', hw', he', g1, g2, g3⟩ := fit_ok ha (by rw [hw])
    rw [hw] at hw'
    injection hw' with e1
    subst e1
    have e2 : e' = e := Int.ofNat.inj (he'.symm.trans he)
    subst e2
    have hst : ∀ i, i ≤ L.length → startAt a (w :: L) (i + 1) = startAt e' L i := by
      intro i hi
      unfold startAt
      rw [if_neg (by omega)]
      cases i with
      | zero => rw [if_pos rfl]; simpa using he
      | succ i => rw [if_neg (by omega)]; simp
    refine ⟨fun i hi => ?_, by rw [List.length_cons, hst _ (Nat.le_refl _)]; exact i2⟩
    cases i with
    | zero => exact ⟨a, e', g3, he, g1, g2, by unfold startAt; rw [if_pos rfl], hok⟩
    | succ i =>
      have hi' : i < L.length := by simpa using hi
      obtain ⟨p, q, h1, h2, h3, h4, h5, h6⟩ := i1 i hi'
      exact ⟨p, q, by simpa using h1, by simpa using h2, h3, h4, by rw [hst i (by omega)]; exact h5, by simpa using h6⟩
/-- Are two words alike but for their places? -/
structure SameW (v w : Wd) : Prop where
  kind : v.kind = w.kind
  set : same v.set w.set = true
  n : v.n = w.n
  m : v.m = w.m
def catT (L : List Wd) : List UInt8 := L.flatMap printW
theorem catT_cons (w : Wd) (L : List Wd) : catT (w :: L) = printW w ++ catT L := rfl
theorem bytes_app (A : ByteArray) (l m : List UInt8) : A ++ (⟨(l ++ m).toArray⟩ : ByteArray) = A ++ (⟨l.toArray⟩ : ByteArray) ++ ⟨m.toArray⟩ := by
  refine bytes_ext ?_
  simp [ByteArray.data_append]
theorem empty_app (b : ByteArray) : (⟨#[]⟩ : ByteArray) ++ b = b := by refine bytes_ext ?_; simp [ByteArray.data_append]
theorem Reads.ok {s : ByteArray} {a b : Nat} {L : List Wd} (h : Reads s a L b) : ∀ w ∈ L, WdOk w := by
  intro w hw
  obtain ⟨i, hi, rfl⟩ := List.getElem_of_mem hw
  obtain ⟨_, _, _, _, _, _, _, h6⟩ := h.chain.1 i hi
  rwa [List.getD_eq_getElem?_getD, List.getElem?_eq_getElem hi] at h6
end LexP
end Go.Proofs.YtfcgmgpcbenfpaaGreat
