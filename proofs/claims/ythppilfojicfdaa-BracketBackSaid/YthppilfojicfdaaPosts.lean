/- A region that draws its order, walked operation by operation: each one leaves a value of which a word of its own holds, and goes on holding whatever blocks are laid later. No program is in sight. -/
import Derived.Orders
import Derived.Below
import Derived.WalkKit
namespace Go.Proofs.Ythppilfojicfdaa
open Go.RowKit

def upd (vs : Nat → Value) (i : Nat) (v : Value) : Nat → Value := fun j => if j = i then v else vs j
theorem upd_same (vs : Nat → Value) (i : Nat) (v : Value) : upd vs i v i = v := by simp [upd]
theorem upd_other (vs : Nat → Value) {i j : Nat} (v : Value) (h : j ≠ i) : upd vs i v j = vs j := by simp [upd, h]

def Steps (S : Nat → Oper → Prop) : Nat → List Oper → Prop
  | _, [] => True
  | k, o :: r => S k o ∧ Steps S (k + 1) r
theorem Steps.get {S : Nat → Oper → Prop} {k : Nat} {l : List Oper} (h : Steps S k l) (i : Nat) (o : Oper) (hi : l[i]? = some o) : S (k + i) o := by
  induction l generalizing k i with
  | nil => simp at hi
  | cons x r ih =>
    cases i with
    | zero => simp at hi; subst hi; exact h.1
    | succ i =>
      have := ih h.2 i (by simpa using hi)
      rwa [Nat.add_assoc, Nat.add_comm 1 i] at this

/-- One operation goes through, from the words of those that it waits for. -/
def StepOk (P : Program) (Q : Exit → Act → World → Prop) (F : (Nat → Value) → Act) (Inv : World → Prop) (Post : Nat → Value → World → Prop) (Rel : Nat → World → World → Prop) (i : Nat) (o : Oper) : Prop :=
  (o.guard = none ∧ (o.after.all fun e => decide (e.on < i)) = true) ∧ ∀ vs W, Inv W → (∀ e ∈ o.after, Region.binds .any e = true → Post e.on (vs e.on) W) →
    ∀ K : Act → World → Prop, (∀ v W', Post i v W' → Rel i W W' → K (F (upd vs i v)) W') → o.wp P (F vs) W K Q

section
variable {P : Program} {Q : Exit → Act → World → Prop} {l : List Oper} {w : World} {F : (Nat → Value) → Act} {Inv : World → Prop} {Post : Nat → Value → World → Prop} {Rel : Nat → World → World → Prop}

theorem all_listed {listed : Array Bool} (hs : Steps (StepOk P Q F Inv Post Rel) 0 l) (hz : listed.size = l.length) (hr : Region.ready .any l.toArray listed = []) (i : Nat) (hi : i < l.length) : listed.getD i false = true := by
  induction i using Nat.strongRecOn with
  | _ i ih =>
    cases hc : listed.getD i false with
    | true => rfl
    | false =>
      exfalso
      have ho : l[i]? = some l[i] := List.getElem?_eq_getElem hi
      have h1 := (hs.get i _ ho).1.2
      rw [Nat.zero_add] at h1
      have : i ∈ Region.ready .any l.toArray listed := by
        refine mem_ready.2 ⟨?_, l[i], by simp, fun e he _ => ?_⟩
        · have hlt : i < listed.size := by omega
          simp [hlt] at hc ⊢
          exact hc
        · have := (Array.all_eq_true_iff_forall_mem.1 h1) e he
          have hlt : e.on < i := by simpa using this
          exact ih _ hlt (by omega)
      rw [hr] at this
      cases this

theorem wpAny_posts (hs : Steps (StepOk P Q F Inv Post Rel) 0 l) (hinv : ∀ i W W', Inv W → Rel i W W' → Inv W') (hkeep : ∀ i j v W W', j ≠ i → Post j v W → Rel i W W' → Post j v W')
    (hend : ∀ vs W, Inv W → (∀ i, i < l.length → Post i (vs i) W) → Q .normal (F vs) W) :
    ∀ (fuel : Nat) (listed : Array Bool) (vs : Nat → Value) (W : World), listed.size = l.length → listed.toList.count false ≤ fuel → Inv W →
      (∀ i, listed.getD i false = true → Post i (vs i) W) → wpAny P .any l.toArray Q fuel listed (F vs) W
  | 0, listed, vs, W, hz, hf, hB, hp => by
    have hall : ∀ i, i < l.length → listed.getD i false = true := fun i hi => by
      have hlt : i < listed.size := by omega
      cases hc : listed.getD i false with
      | true => rfl
      | false =>
        exfalso
        have h0 : listed.toList.count false = 0 := by omega
        rw [List.count_eq_zero] at h0
        apply h0
        simp [hlt] at hc
        rw [← hc]
        simp
    refine ⟨List.eq_nil_iff_forall_not_mem.2 fun j hj => ?_, hend vs W hB fun i hi => hp i (hall i hi)⟩
    obtain ⟨hju, o, ho, _⟩ := mem_ready.1 hj
    have hlt : j < l.length := by
      have := (Array.getElem?_eq_some_iff.1 ho).1
      simpa using this
    have h1 := hall j hlt
    have hlt' : j < listed.size := by omega
    simp [hlt'] at h1 hju
    rw [h1] at hju
    cases hju
  | fuel + 1, listed, vs, W, hz, hf, hB, hp => by
    refine ⟨fun hr => hend vs W hB fun i hi => hp i (all_listed hs hz hr i hi), fun i hi => ?_⟩
    obtain ⟨hju, o, ho, hdep⟩ := mem_ready.1 hi
    have ho' : l[i]? = some o := by simpa using ho
    have hlt : i < l.length := (List.getElem?_eq_some_iff.1 ho').1
    have hlt' : i < listed.size := by omega
    obtain ⟨⟨hg, _⟩, hst⟩ := hs.get i o ho'
    rw [Nat.zero_add] at hst
    unfold wpOp
    rw [ho]
    have hw : Region.wanted o (yielded l.toArray (F vs).tmps) = true := by unfold Region.wanted; rw [hg]
    simp only [hw, if_true]
    refine .inl (hst vs W hB (fun e he hb => hp _ (hdep e he hb)) _ fun v W' hv hb => ?_)
    have hfalse : listed[i] = false := by simpa [hlt'] using hju
    refine wpAny_posts hs hinv hkeep hend fuel _ _ W' (by simpa using hz) ?_ (hinv i W W' hB hb) fun j hj => ?_
    · have hpos : 0 < listed.toList.count false := List.count_pos_iff.2 (by rw [← hfalse]; simp)
      rw [Array.toList_setIfInBounds, List.count_set (by simpa using hlt')]
      rw [show (listed.toList[i]'(by simpa using hlt') == false) = true by simp [hfalse]]
      rw [if_pos rfl, if_neg (by decide)]
      omega
    · by_cases hji : j = i
      · subst hji; rw [upd_same]; exact hv
      · rw [upd_other vs v hji]
        rw [getD_set_ne false (Ne.symm hji)] at hj
        exact hkeep i j _ _ _ hji (hp j hj) hb

/-- A region that draws its order. -/
theorem wp_region_posts {id : Nat} (F : (Nat → Value) → Act) (v0 : Nat → Value) (Inv : World → Prop) (Post : Nat → Value → World → Prop) (Rel : Nat → World → World → Prop) (hm : P.follows .mixedOrders = true)
    (h0 : Inv { w with drawn := w.drawn + 1 }) (hinv : ∀ i W W', Inv W → Rel i W W' → Inv W') (hkeep : ∀ i j v W W', j ≠ i → Post j v W → Rel i W W' → Post j v W')
    (hs : Steps (StepOk P Q F Inv Post Rel) 0 l)
    (hend : ∀ vs W, Inv W → (∀ i, i < l.length → Post i (vs i) W) → Q .normal (F vs) W) : (Code.region id l.toArray true).wp P Q (F v0) w := by
  refine wp_region_any hm ?_
  have := wpAny_posts hs hinv hkeep hend l.length (Array.replicate l.length false) v0 _ (by simp) (by simp) h0 (fun i hi => by
    exfalso
    by_cases h : i < l.length <;> simp [h] at hi)
  simpa using this
end
end Go.Proofs.Ythppilfojicfdaa
