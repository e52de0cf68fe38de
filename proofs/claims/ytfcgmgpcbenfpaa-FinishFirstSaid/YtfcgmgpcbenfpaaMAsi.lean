/- Walks of the package ast: is a list a pattern's tree? -/
import Derived.Test.YtfcgmgpcbenfpaaProg
import Derived.WalkKit
import Derived.WalkSpells
import Derived.WalkLawsBesides
import Derived.Handy
import Derived.Lib.Hide
import Derived.Test.YtfcgmgpcbenfpaaMAsg
import Derived.Lib.QuietBelow
set_option linter.unusedVariables false
set_option linter.unusedSimpArgs false
namespace Go.Proofs.Ytfcgmgpcbenfpaa
open Go.RowKit SetP AstP Go.Sort
def kindAt (L : List Nd) (k : Nat) : Int := (L.getD k ndEmpty).kind
def nodeOk (L : List Nd) (k : Nat) : Bool := aloneB (L.getD k ndEmpty) && (kidsF L (k : Int)).all fun j => holdsB (kindAt L k) (kindAt L j)
def rightF (L : List Nd) : Bool := formedF L && ((List.range L.length).all (nodeOk L) && decide (groupsF L L.length ≤ 9))
theorem right_bad {L : List Nd} {k : Nat} (hk : k < L.length) (h : nodeOk L k = false) : rightF L = false := by
  unfold rightF
  have : (List.range L.length).all (nodeOk L) = false := by
    rw [List.all_eq_false]; exact ⟨k, by simpa using hk, by rw [h]; simp⟩
  rw [this]; simp
theorem right_end {L : List Nd} (hF : formedF L = true) (h : ∀ j, j < L.length → nodeOk L j = true) : rightF L = decide (groupsF L L.length ≤ 9) := by
  unfold rightF
  have : (List.range L.length).all (nodeOk L) = true := by
    rw [List.all_eq_true]; intro j hj; exact h j (by simpa using hj)
  rw [this, hF]; simp
theorem alone_no {L : List Nd} {k : Nat} (h : aloneB (L.getD k ndEmpty) = false) : nodeOk L k = false := by unfold nodeOk; rw [h]; rfl
theorem holds_no {L : List Nd} {k j : Nat} (hj : j < (kidsF L (k : Int)).length) (h : holdsB (kindAt L k) (kindAt L ((kidsF L (k : Int)).getD j 0)) = false) : nodeOk L k = false := by
  unfold nodeOk
  have : ((kidsF L (k : Int)).all fun j => holdsB (kindAt L k) (kindAt L j)) = false := by
    rw [List.all_eq_false]
    refine ⟨(kidsF L (k : Int))[j], List.getElem_mem _, ?_⟩
    rw [List.getD_eq_getElem?_getD, List.getElem?_eq_getElem hj] at h
    have h' : holdsB (kindAt L k) (kindAt L (kidsF L (k : Int))[j]) = false := h
    rw [h']; simp
  rw [this]; simp
theorem node_yes {L : List Nd} {k : Nat} (h : aloneB (L.getD k ndEmpty) = true) (h2 : ∀ j, j < (kidsF L (k : Int)).length → holdsB (kindAt L k) (kindAt L ((kidsF L (k : Int)).getD j 0)) = true) : nodeOk L k = true := by
  unfold nodeOk
  rw [h, Bool.true_and, List.all_eq_true]
  intro x hx
  obtain ⟨j, hj, rfl⟩ := List.getElem_of_mem hx
  have := h2 j hj
  rwa [List.getD_eq_getElem?_getD, List.getElem?_eq_getElem hj] at this
theorem NodesAt.kind {w : World} {B : Nat} {A : Option Addr} {L : List Nd} (h : NodesAt w B A L) {k : Nat} (hk : k < L.length) {b off : Nat} (hA : A = some ⟨b, off, none⟩) : w.cell? ⟨b, off + k * 8, none⟩ = some (.int .i64 (kindAt L k)) := by
  obtain ⟨b', off', h1, _, h2⟩ := h.node hk
  rw [hA] at h1; cases h1
  exact h2.1
end Go.Proofs.Ytfcgmgpcbenfpaa

/- Walks of the package gimletref06: is a list a pattern's tree? -/
namespace Go.Proofs.Ytfcgmgpcbenfpaa
open Go.RowKit SetP AstP Go.Sort
theorem kid_holds {x : Nd} (ha : aloneB x = true) (h0 : 0 < x.kids) (j : Int) : kidB x.kind j = holdsB x.kind j := by
  unfold aloneB at ha
  unfold kidB holdsB
  cases k1 : (x.kind == 1) with
  | true => rw [k1, if_pos rfl] at ha; simp at ha; omega
  | false =>
  rw [k1, if_neg (by simp)] at ha
  cases k2 : (x.kind == 2) with
  | true => rw [k2, if_pos rfl] at ha; simp at ha; omega
  | false =>
  rw [k2, if_neg (by simp)] at ha
  cases k3 : (x.kind == 3) with
  | true =>
    have : x.kind = 3 := by simpa using k3
    rw [this]; rfl
  | false =>
  rw [k3, if_neg (by simp)] at ha
  cases k4 : (x.kind == 4) with
  | true => rfl
  | false =>
  rw [k4, if_neg (by simp)] at ha
  cases k5 : (x.kind == 5) with
  | true => rfl
  | false =>
  rw [k5] at ha
  cases k6 : (x.kind == 6) with
  | true => rfl
  | false => rw [k6] at ha; simp at ha
end Go.Proofs.Ytfcgmgpcbenfpaa
