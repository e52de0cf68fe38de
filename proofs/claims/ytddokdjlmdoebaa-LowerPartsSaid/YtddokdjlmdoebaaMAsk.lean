/- Plain facts on lists of nodes: the groups' numbers. No program is in sight. -/
import Derived.Test.YtddokdjlmdoebaaMAsa
import Derived.Test.YtddokdjlmdoebaaProg
import Derived.WalkKit
import Derived.WalkSpells
import Derived.WalkLawsBesides
import Derived.Handy
import Derived.Lib.Hide
import Derived.Test.YtddokdjlmdoebaaMAsd
import Derived.Deep.QuietTactic
import Derived.BigQuiet
import Derived.IntWalk
set_option linter.unusedVariables false
set_option linter.unusedSimpArgs false
namespace Go.Proofs.Ytddokdjlmdoebaa
open SetP
namespace AstP
/-- How many of the n numbers from a on have a property. -/
def cnt (p : Nat → Bool) (a : Nat) : Nat → Nat
  | 0 => 0
  | n + 1 => cnt p a n + if p (a + n) then 1 else 0
theorem cnt_add (p : Nat → Bool) (a n m : Nat) : cnt p a (n + m) = cnt p a n + cnt p (a + n) m := by
  induction m with
  | zero => simp [cnt]
  | succ m ih => rw [← Nat.add_assoc, cnt, ih, cnt, Nat.add_assoc, Nat.add_assoc]
theorem cnt_congr {p q : Nat → Bool} {a n : Nat} (h : ∀ k, a ≤ k → k < a + n → p k = q k) : cnt p a n = cnt q a n := by
  induction n with
  | zero => rfl
  | succ n ih => rw [cnt, cnt, ih fun k h1 h2 => h k h1 (by omega), h (a + n) (by omega) (by omega)]
theorem cnt_none {p : Nat → Bool} {a n : Nat} (h : ∀ k, a ≤ k → k < a + n → p k = false) : cnt p a n = 0 := by
  induction n with
  | zero => rfl
  | succ n ih => rw [cnt, ih fun k h1 h2 => h k h1 (by omega), h (a + n) (by omega) (by omega)]; rfl
theorem cnt_le (p : Nat → Bool) (a n : Nat) : cnt p a n ≤ n := by
  induction n with
  | zero => exact Nat.le_refl _
  | succ n ih => rw [cnt]; split <;> omega
def grp (L : List Nd) (k : Nat) : Bool := (L.getD k ndEmpty).kind == 3
/-- The first node of the thing that node k is. -/
def fst (L : List Nd) (k : Nat) : Nat := k + 1 - sizeAt L k
def prec (L : List Nd) (j k : Nat) : Bool := decide (fst L k < fst L j) || (fst L k == fst L j && decide (j ≤ k))
def rankIn (L : List Nd) (a n j : Nat) : Nat := cnt (fun k => grp L k && prec L j k) a n
def visit (L : List Nd) (i : Nat) (s : Nat × List Nat) : Nat × List Nat := if grp L i then (s.1 + 1, s.2.set i (s.1 + 1)) else s
def walkN (L : List Nd) : Nat → Nat → Nat × List Nat → Nat × List Nat
  | 0, _, s => s
  | f + 1, i, s => (kidsF L (i : Int)).foldl (fun s k => walkN L f k s) (visit L i s)

theorem Sz_getD {L : List Nd} {k n : Nat} (hk : k < n) (hn : n ≤ L.length) : (Sz L n).getD k 0 = sizeAt L k := by
  induction n with
  | zero => omega
  | succ n ih =>
    rw [Sz_succ (by omega)]
    have hl := Sz_length (L := L) (k := n) (by omega)
    by_cases e : k = n
    · subst e
      rw [List.getD_eq_getElem?_getD, List.getElem?_append_right (by omega), hl, Nat.sub_self]; rfl
    · rw [List.getD_eq_getElem?_getD, List.getElem?_append_left (by omega), ← List.getD_eq_getElem?_getD]
      exact ih (by omega) (by omega)
/-- How far the first m kids, from the right, reach. -/
def reach (L : List Nd) (i m : Nat) : Nat := ((St L i).take m).sum
theorem reach_zero (L : List Nd) (i : Nat) : reach L i 0 = 0 := by simp [reach]
theorem sizeAt_reach (L : List Nd) (i : Nat) : sizeAt L i = 1 + reach L i (L.getD i ndEmpty).kids.toNat := rfl
section
variable {L : List Nd} {i m : Nat}
/-- A kid's place, size and first node. -/
theorem kid_seg (hF : formedF L = true) (hi : i < L.length) (hm : m < (L.getD i ndEmpty).kids.toNat) :
    kidAt L i m < i ∧ reach L i (m + 1) = reach L i m + sizeAt L (kidAt L i m) ∧ fst L (kidAt L i m) = i - reach L i (m + 1) ∧ reach L i (m + 1) ≤ i ∧ kidAt L i m + 1 = i - reach L i m ∧ reach L i m < i := by
  have hat := formed_at hF hi
  obtain ⟨h1, h2, h3, h4, h5⟩ := kid_at (L := L) hi (j := m) (by omega)
  have e : sizeAt L (kidAt L i m) = (St L i).getD m 0 := by rw [← h3, Sz_getD (by omega) (Nat.le_refl _)]
  have hk : kidAt L i m = i - reach L i m - 1 := rfl
  have hr : reach L i m = ((St L i).take m).sum := rfl
  have hr1 : reach L i (m + 1) = ((St L i).take (m + 1)).sum := rfl
  refine ⟨h4, by rw [hr1, hr, e]; exact h5, ?_, by omega, by omega, by omega⟩
  unfold fst
  rw [e]
  omega
theorem fst_reach (hF : formedF L = true) (hi : i < L.length) : fst L i = i - reach L i (L.getD i ndEmpty).kids.toNat ∧ reach L i (L.getD i ndEmpty).kids.toNat ≤ i := by
  have h := sizeAt_le (L := L) (k := i) (by omega)
  rw [sizeAt_reach] at h
  unfold fst
  rw [sizeAt_reach]
  omega
theorem reach_mono (hF : formedF L = true) (hi : i < L.length) {q : Nat} (hq : q ≤ m) (hm : m ≤ (L.getD i ndEmpty).kids.toNat) : reach L i q ≤ reach L i m := by
  induction m with
  | zero => obtain rfl : q = 0 := by omega
            exact Nat.le_refl _
  | succ m ih =>
    by_cases e : q = m + 1
    · subst e; exact Nat.le_refl _
    · have := ih (by omega) (by omega)
      have := (kid_seg hF hi (m := m) (by omega)).2.1
      omega
/-- What stands within a thing begins no earlier than it. -/
theorem nest (hF : formedF L = true) (i : Nat) (hi : i < L.length) (j : Nat) (h1 : fst L i ≤ j) (h2 : j ≤ i) : fst L i ≤ fst L j := by
  induction hn : i using Nat.strongRecOn generalizing i j with
  | _ n ih =>
    subst hn
    by_cases e : j = i
    · subst e; exact Nat.le_refl _
    have hf := fst_reach hF hi
    have key : ∀ m, m ≤ (L.getD i ndEmpty).kids.toNat → i - reach L i m ≤ j → i - reach L i m ≤ fst L j := by
      intro m
      induction m with
      | zero => intro _ h; rw [reach_zero] at h; omega
      | succ m ihm =>
        intro hm hj
        obtain ⟨k1, k2, k3, k4, k5, k6⟩ := kid_seg hF hi (m := m) (by omega)
        by_cases hj2 : i - reach L i m ≤ j
        · have := ihm (by omega) hj2; omega
        · have := ih (kidAt L i m) k1 (kidAt L i m) (by omega) j (by omega) (by omega) rfl
          omega
    rw [hf.1] at h1 ⊢
    exact key _ (Nat.le_refl _) h1
theorem nestK (hF : formedF L = true) (hi : i < L.length) (hm : m ≤ (L.getD i ndEmpty).kids.toNat) {j : Nat} (h1 : i - reach L i m ≤ j) (h2 : j < i) : i - reach L i m ≤ fst L j := by
  induction m with
  | zero => rw [reach_zero] at h1; omega
  | succ m ih =>
    obtain ⟨k1, k2, k3, k4, k5, k6⟩ := kid_seg hF hi (m := m) (by omega)
    by_cases hj2 : i - reach L i m ≤ j
    · have := ih (by omega) hj2; omega
    · have := nest hF (kidAt L i m) (by omega) j (by omega) (by omega)
      omega
theorem fst_le (L : List Nd) (j : Nat) : fst L j ≤ j := by unfold fst; have : 1 ≤ sizeAt L j := by { unfold sizeAt; omega }; omega
theorem prec_yes {j k : Nat} (h : fst L k < fst L j) : prec L j k = true := by unfold prec; rw [decide_eq_true h]; rfl
theorem prec_no {j k : Nat} (h : fst L j < fst L k) : prec L j k = false := by
  unfold prec
  rw [decide_eq_false (by omega), Bool.false_or]
  have : (fst L k == fst L j) = false := by rw [beq_eq_false_iff_ne]; omega
  rw [this]; rfl

/-- What the walk through the n nodes from a on makes. -/
structure Did (L : List Nd) (a n : Nat) (s s' : Nat × List Nat) : Prop where
  num : s'.1 = s.1 + cnt (grp L) a n
  len : s'.2.length = s.2.length
  out : ∀ j, s'.2.getD j 0 = if a ≤ j ∧ j < a + n ∧ grp L j = true then s.1 + rankIn L a n j else s.2.getD j 0
theorem Did.join {a n k : Nat} {s s1 s2 : Nat × List Nat} (h1 : Did L a n s s1) (h2 : Did L (a + n) k s1 s2)
    (hb : ∀ j, a + n ≤ j → j < a + n + k → a + n ≤ fst L j) : Did L a (n + k) s s2 := by
  refine ⟨?_, h2.len.trans h1.len, fun j => ?_⟩
  · rw [h2.num, h1.num, cnt_add]; omega
  · rw [h2.out]
    by_cases c1 : a + n ≤ j ∧ j < a + n + k ∧ grp L j = true
    · rw [if_pos c1, if_pos ⟨by omega, by omega, c1.2.2⟩, h1.num]
      have hj := hb j c1.1 c1.2.1
      have e1 : cnt (grp L) a n = cnt (fun k => grp L k && prec L j k) a n := cnt_congr fun q hq1 hq2 => by
        have := fst_le L q
        rw [prec_yes (by omega), Bool.and_true]
      unfold rankIn
      rw [cnt_add, e1]; omega
    · rw [if_neg c1, h1.out]
      by_cases c2 : a ≤ j ∧ j < a + n ∧ grp L j = true
      · rw [if_pos c2, if_pos ⟨c2.1, by omega, c2.2.2⟩]
        have e1 : cnt (fun k => grp L k && prec L j k) (a + n) k = 0 := cnt_none fun q hq1 hq2 => by
          have h3 := hb q hq1 hq2
          have h4 := fst_le L j
          rw [prec_no (by omega), Bool.and_false]
        unfold rankIn
        rw [cnt_add, e1]; omega
      · rw [if_neg c2, if_neg fun c3 => ?_]
        by_cases hj : j < a + n
        · exact c2 ⟨c3.1, hj, c3.2.2⟩
        · exact c1 ⟨by omega, by omega, c3.2.2⟩
theorem walk_did (hF : formedF L = true) (f i : Nat) (hi : i < L.length) (hf : i < f) (s : Nat × List Nat) (hs : s.2.length = L.length) : Did L (fst L i) (sizeAt L i) s (walkN L f i s) := by
  induction f generalizing i s with
  | zero => omega
  | succ f ih =>
    have hfr := fst_reach hF hi
    have hkids := kidsF_at hF hi
    -- the kids, from the left
    have kids : ∀ m, m ≤ (L.getD i ndEmpty).kids.toNat → ∀ s : Nat × List Nat, s.2.length = L.length →
        Did L (i - reach L i m) (reach L i m) s ((kidsRev L i m).reverse.foldl (fun s k => walkN L f k s) s) := by
      intro m
      induction m with
      | zero =>
        intro _ s _
        rw [reach_zero]
        refine ⟨by simp [kidsRev, cnt], by simp [kidsRev], fun j => ?_⟩
        rw [if_neg (by omega)]
        simp [kidsRev]
      | succ m ihm =>
        intro hm s hs
        obtain ⟨k1, k2, k3, k4, k5, k6⟩ := kid_seg hF hi (m := m) (by omega)
        rw [kidsRev_succ, List.reverse_append, List.reverse_singleton, List.singleton_append, List.foldl_cons]
        have d1 := ih (kidAt L i m) (by omega) (by omega) s hs
        rw [k3] at d1
        have d2 := ihm (by omega) _ (d1.len.trans hs)
        have e1 : i - reach L i m = i - reach L i (m + 1) + sizeAt L (kidAt L i m) := by omega
        have hb : ∀ j, i - reach L i m ≤ j → j < i → i - reach L i m ≤ fst L j := fun j h1 h2 => nestK hF hi (by omega) h1 h2
        rw [e1] at d2
        have := d1.join d2 (fun j h1 h2 => by rw [← e1] at h1 ⊢; exact hb j h1 (by omega))
        rw [k2, Nat.add_comm (reach L i m)]
        rw [k2, Nat.add_comm (reach L i m)] at this
        exact this
    rw [walkN, hkids]
    have d := kids _ (Nat.le_refl _) (visit L i s) (by unfold visit; split <;> simp [hs])
    rw [← hfr.1] at d
    generalize (kidsRev L i (L.getD i ndEmpty).kids.toNat).reverse.foldl (fun s k => walkN L f k s) (visit L i s) = s' at *
    rw [sizeAt_reach, Nat.add_comm]
    generalize hR : reach L i (L.getD i ndEmpty).kids.toNat = R at *
    have hiR : fst L i + R = i := by omega
    refine ⟨?_, d.len.trans (by unfold visit; split <;> simp), fun j => ?_⟩
    · rw [d.num, cnt, hiR]
      unfold visit
      cases hg : grp L i with
      | true => simp; omega
      | false => simp
    · rw [d.out]
      have hpi : ∀ j, fst L i ≤ j → j < i → prec L j i = true := fun j h1 h2 => by
        have := nest hF i hi j h1 (by omega)
        unfold prec
        by_cases h : fst L i < fst L j
        · rw [decide_eq_true h]; rfl
        · rw [decide_eq_false h, Bool.false_or]
          have : (fst L i == fst L j) = true := by rw [beq_iff_eq]; omega
          rw [this, Bool.true_and]; simp; omega
      have hii : prec L i i = true := by unfold prec; simp
      by_cases c1 : fst L i ≤ j ∧ j < fst L i + R ∧ grp L j = true
      · rw [if_pos c1, if_pos ⟨c1.1, by omega, c1.2.2⟩]
        have e : rankIn L (fst L i) (R + 1) j = rankIn L (fst L i) R j + if grp L i then 1 else 0 := by
          unfold rankIn
          rw [cnt, hiR, hpi j c1.1 (by omega), Bool.and_true]
        rw [e]
        unfold visit
        cases hg : grp L i with
        | true => simp; omega
        | false => simp
      · rw [if_neg c1]
        by_cases c2 : j = i
        · subst c2
          cases hg : grp L j with
          | false => rw [if_neg (by simp)]; unfold visit; rw [hg]; rfl
          | true =>
            rw [if_pos ⟨by omega, by omega, rfl⟩]
            have e : rankIn L (fst L j) (R + 1) j = 1 := by
              unfold rankIn
              rw [cnt, hiR, hii, hg, cnt_none fun q h1 h2 => ?_]
              · rfl
              · have := nest hF j hi q h1 (by omega)
                unfold prec
                rw [decide_eq_false (by omega), Bool.false_or, decide_eq_false (by omega), Bool.and_false, Bool.and_false]
            rw [e]
            unfold visit
            rw [hg]
            show (s.2.set j (s.1 + 1)).getD j 0 = s.1 + 1
            rw [List.getD_eq_getElem?_getD, List.getElem?_set_self (by omega)]; rfl
        · rw [if_neg fun c3 => ?_]
          · unfold visit
            cases hg : grp L i with
            | true =>
              show (s.2.set i (s.1 + 1)).getD j 0 = _
              rw [List.getD_eq_getElem?_getD, List.getElem?_set_ne (by omega), List.getD_eq_getElem?_getD]
            | false => rfl
          · exact c1 ⟨c3.1, by omega, c3.2.2⟩
end
theorem walk_mono (L : List Nd) (f i : Nat) (s : Nat × List Nat) : s.1 ≤ (walkN L f i s).1 := by
  induction f generalizing i s with
  | zero => exact Nat.le_refl _
  | succ f ih =>
    rw [walkN]
    have h0 : s.1 ≤ (visit L i s).1 := by unfold visit; split <;> simp
    have : ∀ (K : List Nat) (s : Nat × List Nat), s.1 ≤ (K.foldl (fun s k => walkN L f k s) s).1 := by
      intro K
      induction K with
      | nil => exact fun s => Nat.le_refl _
      | cons k K ihK => exact fun s => Nat.le_trans (ih k s) (ihK _)
    exact Nat.le_trans h0 (this _ _)
theorem fold_mono (L : List Nd) (f : Nat) (K : List Nat) (s : Nat × List Nat) : s.1 ≤ (K.foldl (fun s k => walkN L f k s) s).1 := by
  induction K generalizing s with
  | nil => exact Nat.le_refl _
  | cons k K ih => exact Nat.le_trans (walk_mono L f k s) (ih _)
theorem walk_len (L : List Nd) (f i : Nat) (s : Nat × List Nat) : (walkN L f i s).2.length = s.2.length := by
  induction f generalizing i s with
  | zero => rfl
  | succ f ih =>
    rw [walkN]
    have h0 : (visit L i s).2.length = s.2.length := by unfold visit; split <;> simp
    have : ∀ (K : List Nat) (s : Nat × List Nat), (K.foldl (fun s k => walkN L f k s) s).2.length = s.2.length := by
      intro K
      induction K with
      | nil => exact fun s => rfl
      | cons k K ihK => exact fun s => (ihK _).trans (ih k s)
    exact (this _ _).trans h0
/-- The whole is the last node's thing. -/
theorem root_size {L : List Nd} (hF : formedF L = true) : 0 < L.length ∧ sizeAt L (L.length - 1) = L.length := by
  have h1 : runF L 0 = some 1 := by unfold formedF at hF; simpa using hF
  have h0 : 0 < L.length := by
    cases L with
    | nil => simp [runF] at h1
    | cons x l => simp
  have hst := runF_st L [] 1 h1
  have e : St L L.length = stF L [] := by unfold St; rw [List.take_length]
  rw [← e] at hst
  have h2 := St_succ (L := L) (k := L.length - 1) (by omega)
  rw [show L.length - 1 + 1 = L.length by omega] at h2
  have h3 := St_sum (L := L) (k := L.length) (Nat.le_refl _)
  rw [h2] at hst h3
  have h4 : ((St L (L.length - 1)).drop (L.getD (L.length - 1) ndEmpty).kids.toNat) = [] := List.eq_nil_of_length_eq_zero (by simp at hst ⊢; omega)
  rw [h4] at h3
  refine ⟨h0, by simpa using h3⟩
/-- The groups' numbers. -/
def numsF (L : List Nd) : List Nat := if formedF L then (List.range L.length).map fun j => if grp L j then rankIn L 0 L.length j else 0 else []
theorem numsF_walk {L : List Nd} (hF : formedF L = true) : (walkN L L.length (L.length - 1) (0, List.replicate L.length 0)).2 = numsF L := by
  obtain ⟨h0, h1⟩ := root_size hF
  have d := walk_did hF L.length (L.length - 1) (by omega) (by omega) (0, List.replicate L.length 0) (by simp)
  have hf : fst L (L.length - 1) = 0 := by unfold fst; omega
  rw [h1, hf] at d
  have hl : (walkN L L.length (L.length - 1) (0, List.replicate L.length 0)).2.length = L.length := d.len.trans (by simp)
  unfold numsF
  rw [if_pos hF]
  apply List.ext_getElem (by rw [hl]; simp)
  intro j h2 h3
  have e := d.out j
  rw [List.getD_eq_getElem?_getD, List.getElem?_eq_getElem h2] at e
  have e' : (walkN L L.length (L.length - 1) (0, List.replicate L.length 0)).2[j] = _ := e
  rw [e', List.getElem_map, List.getElem_range]
  cases hg : grp L j with
  | true => rw [if_pos ⟨by omega, by omega, rfl⟩, if_pos rfl]; simp
  | false =>
    rw [if_neg (by simp), if_neg (by simp), List.getD_eq_getElem?_getD, List.getElem?_replicate]
    split <;> rfl
theorem numsF_not {L : List Nd} (hF : formedF L = false) : numsF L = [] := by unfold numsF; rw [if_neg (by rw [hF]; simp)]
theorem numsF_length {L : List Nd} (hF : formedF L = true) : (numsF L).length = L.length := by unfold numsF; rw [if_pos hF]; simp
end AstP
end Go.Proofs.Ytddokdjlmdoebaa

/- Walks of the package ast: the groups' numbers. -/
namespace Go.Proofs.Ytddokdjlmdoebaa
open Go.RowKit SetP AstP
/-- As it was, but for two blocks (and new blocks). -/
structure Only2 (a b : Nat) (w w' : World) : Prop where
  os : w'.os = w.os
  tape : w'.tape = w.tape
  output : w'.output = w.output
  size : w.heap.size ≤ w'.heap.size
  block : ∀ k, k < w.heap.size → k ≠ a → k ≠ b → w'.heap[k]? = w.heap[k]?
theorem Only2.refl (a b : Nat) (w : World) : Only2 a b w w := ⟨rfl, rfl, rfl, Nat.le_refl _, fun _ _ _ _ => rfl⟩
theorem Only2.trans {a b : Nat} {u v w : World} (h : Only2 a b u v) (k : Only2 a b v w) : Only2 a b u w :=
  ⟨k.os.trans h.os, k.tape.trans h.tape, k.output.trans h.output, Nat.le_trans h.size k.size, fun i hi ha hb => (k.block i (Nat.lt_of_lt_of_le hi h.size) ha hb).trans (h.block i hi ha hb)⟩
theorem Only2.of {w w' : World} (a b : Nat) (h : Below w.heap.size w w') : Only2 a b w w' := ⟨h.os, h.tape, h.output, h.size, fun k hk _ _ => h.block k hk⟩
theorem Only2.call {a b : Nat} {u w w' : World} (h : Only2 a b u w) (k : Below w.heap.size w w') : Only2 a b u w' := h.trans (.of a b k)
theorem Only2.seta {a b : Nat} {u w : World} (h : Only2 a b u w) (i : Nat) (x : Value) : Only2 a b u (w.setCell ⟨a, i, none⟩ x) :=
  h.trans ⟨rfl, rfl, rfl, by simp [World.setCell], fun k _ ha _ => Below.heap_setCell _ _ _ _ ha⟩
theorem Only2.setb {a b : Nat} {u w : World} (h : Only2 a b u w) (i : Nat) (x : Value) : Only2 a b u (w.setCell ⟨b, i, none⟩ x) :=
  h.trans ⟨rfl, rfl, rfl, by simp [World.setCell], fun k _ _ hb => Below.heap_setCell _ _ _ _ hb⟩
theorem Slab.only2 {a b k : Nat} {w w' : World} {cs : Array Value} {t : TypeId} (h : Slab w k cs t) (ho : Only2 a b w w') (ha : k ≠ a) (hb : k ≠ b) : Slab w' k cs t := (ho.block k h.lt ha hb).trans h
theorem Only2.cell {a b g i : Nat} {w w' : World} (h : Only2 a b w w') (hg : g < w.heap.size) (ha : g ≠ a) (hb : g ≠ b) : w'.cell? ⟨g, i, none⟩ = w.cell? ⟨g, i, none⟩ := by
  have := h.block g hg ha hb
  simp [World.cell?, this]
theorem NodesAt.only2 {a b B : Nat} {w w' : World} {A : Option Addr} {L : List Nd} (h : NodesAt w B A L) (ho : Only2 a b w w') (ha : B ≤ a) (hb : B ≤ b) (hB : B ≤ w.heap.size) : NodesAt w' B A L := by
  obtain ⟨h1, h2⟩ := h
  refine ⟨h1, ?_⟩
  rcases h2 with h2 | ⟨b', off, rfl, hB', hc⟩
  · exact .inl h2
  · exact .inr ⟨b', off, rfl, hB', fun j hj f hf => (ho.cell (by omega) (by omega) (by omega)).trans (hc j hj f hf)⟩
/-- The four variables that the walk holds, and the row. -/
abbrev wkV (gl gn go gw : Nat) : Value := .func (.func 89) #[] #[.pointer (some ⟨gl, 0, none⟩), .pointer (some ⟨gn, 0, none⟩), .pointer (some ⟨go, 0, none⟩), .pointer (some ⟨gw, 0, none⟩)]
structure Env (w : World) (B gl gn go gw g : Nat) (A : Option Addr) (c : Nat) (L : List Nd) (s : Nat × List Nat) : Prop where
  l : Slab w gl #[.slice A L.length c] 22
  n : Slab w gn #[.int .i64 (s.1 : Int)] 3
  o : Slab w go #[.slice (some ⟨g, 0, none⟩) L.length L.length] 76
  f : Slab w gw #[wkV gl gn go gw] 124
  row : Slab w g (intsA s.2) 3
  len : s.2.length = L.length
  nodes : NodesAt w B A L
  lo : B ≤ gl ∧ B ≤ gn ∧ B ≤ go ∧ B ≤ gw ∧ B ≤ g
  apart : gl ≠ gn ∧ gl ≠ g ∧ go ≠ gn ∧ go ≠ g ∧ gw ≠ gn ∧ gw ≠ g ∧ gn ≠ g
theorem Env.call {w w' : World} {B gl gn go gw g : Nat} {A : Option Addr} {c : Nat} {L : List Nd} {s : Nat × List Nat} (h : Env w B gl gn go gw g A c L s) (hb : Below w.heap.size w w') : Env w' B gl gn go gw g A c L s :=
  ⟨h.l.call hb, h.n.call hb, h.o.call hb, h.f.call hb, h.row.call hb, h.len, h.nodes.below (hb.mono (Nat.le_trans h.lo.1 (Nat.le_of_lt h.l.lt))), h.lo, h.apart⟩
theorem Env.next {w w' : World} {B gl gn go gw g : Nat} {A : Option Addr} {c : Nat} {L : List Nd} {s s' : Nat × List Nat} (h : Env w B gl gn go gw g A c L s) (ho : Only2 gn g w w')
    (hn : Slab w' gn #[.int .i64 (s'.1 : Int)] 3) (hr : Slab w' g (intsA s'.2) 3) (hl : s'.2.length = s.2.length) : Env w' B gl gn go gw g A c L s' := by
  obtain ⟨a1, a2, a3, a4, a5, a6, a7⟩ := h.apart
  obtain ⟨l1, l2, l3, l4, l5⟩ := h.lo
  exact ⟨h.l.only2 ho a1 a2, hn, h.o.only2 ho a3 a4, h.f.only2 ho a5 a6, hr, hl.trans h.len, h.nodes.only2 ho l2 l5 (Nat.le_trans l1 (Nat.le_of_lt h.l.lt)), h.lo, h.apart⟩
def wkArgs (gl gn go gw : Nat) (i : Int) : Array Value := #[.int .i64 i, .pointer (some ⟨gl, 0, none⟩), .pointer (some ⟨gn, 0, none⟩), .pointer (some ⟨go, 0, none⟩), .pointer (some ⟨gw, 0, none⟩)]
theorem fold_take {α : Type} (h : α → Nat → α) (K : List Nat) (s : α) {t : Nat} (ht : t < K.length) : (K.take (t + 1)).foldl h s = h ((K.take t).foldl h s) (K.getD t 0) := by
  rw [List.take_add_one, List.getElem?_eq_getElem ht, List.foldl_append, List.getD_eq_getElem?_getD, List.getElem?_eq_getElem ht]; rfl
theorem fold_final (L : List Nd) (f : Nat) (K : List Nat) (s : Nat × List Nat) (t : Nat) : ((K.take t).foldl (fun s k => walkN L f k s) s).1 ≤ (K.foldl (fun s k => walkN L f k s) s).1 := by
  conv => rhs; rw [← List.take_append_drop t K, List.foldl_append]
  exact fold_mono L f _ _
set_option maxRecDepth 100000 in
set_option maxHeartbeats 2000000 in
theorem num_any (f : Nat) : ∀ (i : Nat) (w : World) (B gl gn go gw g : Nat) (A : Option Addr) (c : Nat) (L : List Nd) (s : Nat × List Nat), Env w B gl gn go gw g A c L s → formedF L = true → i < L.length → i < f → (walkN L f i s).1 ≤ 2000000000000 →
    Calls Try.prog 89 (wkArgs gl gn go gw i) w fun e w' => e = .returned (.tuple #[]) ∧ Env w' B gl gn go gw g A c L (walkN L f i s) ∧ Only2 gn g w w' := by
  induction f with
  | zero => intro i w B gl gn go gw g A c L s _ _ _ h; omega
  | succ f ih =>
    intro i w B gl gn go gw g A c L s hE hF hi hif hbd
    have HF := Lib.hid hF; clear hF
    have IH := Lib.hid ih; clear ih
    have HBD := Lib.hid hbd; clear hbd
    obtain ⟨b, off, rfl, hb, hn8⟩ := hE.nodes.node hi
    unfold Node8 at hn8
    obtain ⟨x, hx⟩ : ∃ x, L.getD i ndEmpty = x := ⟨_, rfl⟩
    rw [hx] at hn8
    have HX := Lib.hid hx; clear hx
    obtain ⟨n0, n1, n2, n3, n4, n5, n6, n7⟩ := hn8
    obtain ⟨cl, fl⟩ := hE.l.facts
    obtain ⟨cn, fn⟩ := hE.n.facts
    obtain ⟨co, fo⟩ := hE.o.facts
    have HE := Lib.hid hE
    have hlen := hE.nodes.1
    obtain ⟨N, hN⟩ : ∃ N, L.length = N := ⟨_, rfl⟩
    rw [hN] at hlen cl co
    have hiN : i < N := by omega
    have HN := Lib.hid hN
    clear hE hN
    unfold wkArgs
    cases h3 : (x.kind == 3) with
    | false =>
      have hv : visit L i s = s := by unfold visit grp; rw [HX.out, h3]; rfl
      obtain ⟨s1, hs1⟩ : ∃ s1, visit L i s = s1 := ⟨_, rfl⟩
      have HV := Lib.hid hs1
      have HE0 : Hid (Env w B gl gn go gw g (some ⟨b, off, none⟩) c L s1) := Lib.hid (by rw [← hs1, hv]; exact HE.out)
      have HO0 := Lib.hid (Only2.refl gn g w)
      clear hv hs1
      go_enter Try.func89, Try.ntmps89
      go_wp2_with fail
      have hnd := (HE0.out.nodes).more (show B ≤ (w).heap.size from Nat.le_trans HE0.out.lo.1 (Nat.le_of_lt HE0.out.l.lt))
      have CK := kids_any (some ⟨b, off, none⟩) c L i (w) hnd
      rw [HN.out] at CK
      have hklt := fun j hj => kidsF_lt (L := L) (k := i) (j := j) HF.out hi hj
      have hwN : walkN L (f + 1) i s = (kidsF L (i : Int)).foldl (fun s k => walkN L f k s) s1 := by rw [← HV.out]; rfl
      have hkl := kidsF_length HF.out hi
      have hat := formed_at HF.out hi
      have hstl := St_len (L := L) (k := i) (by omega)
      have hKb : (kidsF L (i : Int)).length ≤ N := by omega
      have HKLT := Lib.hid hklt
      have HWN := Lib.hid hwN
      obtain ⟨K, hK⟩ : ∃ K, kidsF L (i : Int) = K := ⟨_, rfl⟩
      rw [hK] at CK hKb HKLT HWN
      obtain ⟨M, hM⟩ : ∃ M, K.length = M := ⟨_, rfl⟩
      rw [hM] at CK hKb
      have HM := Lib.hid hM
      have hgn : gn < (w).heap.size := HE0.out.n.lt
      have hgg : g < (w).heap.size := HE0.out.row.lt
      clear hnd hklt hwN hkl hat hstl hK hM n0 n1 n2 n3 n4 n5 n6 n7 cl fl cn fn co fo h3
      refine CK.mono ?_
      rintro e3 w3 ⟨A3, c3, rfl, hrow, hb3⟩
      have hsrc : M = 0 ∨ ∃ g3, A3 = some ⟨g3, 0, none⟩ ∧ (w).heap.size ≤ g3 ∧ g3 < w3.heap.size ∧ ∀ j, j < M → w3.cell? ⟨g3, j, none⟩ = some (.int .i64 ((K.getD j 0 : Nat) : Int)) := by
        rcases rowInts hrow with ⟨_, h, _⟩ | ⟨g3, rfl, h1, _, h2⟩
        · exact .inl h
        · by_cases h0 : M = 0
          · exact .inl h0
          · exact .inr ⟨g3, rfl, h1, block_lt_of_cell (h2 0 (by omega)), h2⟩
      have HSRC := Lib.hid hsrc
      have HE3 := Lib.hid (HE0.out.call hb3)
      have HO3 := Lib.hid (HO0.out.call hb3)
      clear CK hrow hb3 hsrc
      go_wp2
      go_loopw [24] (fun j wr => ∃ t : Nat, t ≤ M ∧ j = .int .i64 t ∧ Env wr B gl gn go gw g (some ⟨b, off, none⟩) c L ((K.take t).foldl (fun s k => walkN L f k s) s1) ∧ Only2 gn g w wr ∧ Only2 gn g w3 wr) (fun j _ => M - (intOf j).toNat)
      case atStart => exact ⟨0, by omega, rfl, HE3.out, HO3.out, Only2.refl _ _ _⟩
      case round =>
        obtain ⟨t, ht, rfl, hE4, hO4, hO5⟩ := hrel
        rename World => w4
        have HE4 := Lib.hid hE4
        have HO4 := Lib.hid hO4; clear hO4
        have HO5 := Lib.hid hO5; clear hO5
        by_cases hlt : t < M
        · obtain ⟨g3, rfl, g3a, g3b, hc3⟩ : ∃ g3, A3 = some ⟨g3, 0, none⟩ ∧ (w).heap.size ≤ g3 ∧ g3 < w3.heap.size ∧ ∀ j, j < M → w3.cell? ⟨g3, j, none⟩ = some (.int .i64 ((K.getD j 0 : Nat) : Int)) := by
            rcases HSRC.out with h | h
            · omega
            · exact h
          have hck := (HO5.out.cell (i := t) g3b (by omega) (by omega)).trans (hc3 t hlt)
          obtain ⟨q, hq⟩ : ∃ q, K.getD t 0 = q := ⟨_, rfl⟩
          have hqi : q < i := HKLT.out q (by rw [← hq, List.getD_eq_getElem?_getD, List.getElem?_eq_getElem (by rw [HM.out]; exact hlt)]; exact List.getElem_mem _)
          rw [hq] at hck
          have hft := fold_take (fun s k => walkN L f k s) K s1 (t := t) (by rw [HM.out]; exact hlt)
          rw [hq] at hft
          have hfin := fold_final L f K s1 (t + 1)
          rw [← HWN.out, hft] at hfin
          have C4 := IH.out q w4 B gl gn go gw g (some ⟨b, off, none⟩) c L _ hE4 HF.out (by omega) (by omega) (Nat.le_trans hfin HBD.out)
          unfold wkArgs at C4
          have HFT := Lib.hid hft
          obtain ⟨cf, ff⟩ := hE4.f.facts
          generalize (K.take t).foldl (fun s k => walkN L f k s) s1 = st at *
          clear hc3 hq hft hfin hE4
          go_wp2_with fail
          refine C4.mono ?_
          rintro e5 w5 ⟨rfl, hE5, hO6⟩
          have HE5 := Lib.hid hE5
          have HO6 := Lib.hid hO6
          clear hE5 hO6 C4 cf ff hck
          go_wp2
          go_roundw
          case rel =>
            refine ⟨t + 1, by omega, by go_num, ?_, HO4.out.trans HO6.out, HO5.out.trans HO6.out⟩
            rw [HFT.out]; exact HE5.out
          case measure => simp [intOf]; omega
        · have htM : t = M := by omega
          have e : (K.take t).foldl (fun s k => walkN L f k s) s1 = walkN L (f + 1) i s := by rw [HWN.out, List.take_of_length_le (by rw [HM.out]; omega)]
          have hE5 := HE4.out
          rw [e] at hE5
          have HE5 := Lib.hid hE5
          clear hE4 hE5 e
          go_wp2
          first | go_end0 | refine bodyPost_ret (results_none rfl _ _ _) rfl ?_
          exact ⟨rfl, HE5.out, HO4.out⟩
    | true =>
      have hv : visit L i s = (s.1 + 1, s.2.set i (s.1 + 1)) := by unfold visit grp; rw [HX.out, h3]; rfl
      have hnb : s.1 + 1 ≤ 2000000000000 := by
        have h := HBD.out
        have h2 := fold_mono L f (kidsF L (i : Int)) (visit L i s)
        rw [hv] at h2
        rw [walkN, hv] at h
        simp at h2; omega
      obtain ⟨s1, hs1⟩ : ∃ s1, visit L i s = s1 := ⟨_, rfl⟩
      have HV := Lib.hid hs1
      have ap := HE.out.apart
      have hE0 : Env ((w.setCell ⟨gn, 0, none⟩ (.int .i64 ((s.1 : Int) + 1))).setCell ⟨g, i, none⟩ (.int .i64 ((s.1 : Int) + 1))) B gl gn go gw g (some ⟨b, off, none⟩) c L s1 := by
        refine HE.out.next (((Only2.refl gn g w).seta 0 _).setb i _) ?_ ?_ (by rw [← hs1, hv]; simp)
        · have := (HE.out.n.set 0 (.int .i64 ((s.1 : Int) + 1))).far (b := g) (i := i) ap.2.2.2.2.2.2 (.int .i64 ((s.1 : Int) + 1))
          rw [← hs1, hv]
          exact this
        · have := (HE.out.row.far (b := gn) (i := 0) (fun h => ap.2.2.2.2.2.2 h.symm) (.int .i64 ((s.1 : Int) + 1))).set i (.int .i64 ((s.1 : Int) + 1))
          rw [show ((s.1 : Int) + 1) = ((s.1 + 1 : Nat) : Int) from rfl, ints_put] at this
          rw [← hs1, hv]
          exact this
      have HE0 := Lib.hid hE0
      have HO0 := Lib.hid (((Only2.refl gn g w).seta 0 (.int .i64 ((s.1 : Int) + 1))).setb i (.int .i64 ((s.1 : Int) + 1)))
      have hlr : i < s.2.length := by rw [HE.out.len]; exact hi
      have hcr := (HE.out.row.cell i).trans (ints_get _ hlr)
      obtain ⟨cr, fr⟩ := HE.out.row.facts
      obtain ⟨a1, a2, a3, a4, a5, a6, a7⟩ := ap
      have b1 : ¬ g = gn := fun h => a7 h.symm
      have b2 : ¬ gn = go := fun h => a3 h.symm
      have b3 : ¬ gn = gl := fun h => a1 h.symm
      have b4 : ¬ g = gl := fun h => a2 h.symm
      have b5 : ¬ g = go := fun h => a4 h.symm
      generalize s.2.getD i 0 = z at *
      clear hv hs1 hE0 hlr cr
      go_enter Try.func89, Try.ntmps89
      go_wp2_with fail
      have hnd := (HE0.out.nodes).more (show B ≤ ((w.setCell ⟨gn, 0, none⟩ (.int .i64 ((s.1 : Int) + 1))).setCell ⟨g, i, none⟩ (.int .i64 ((s.1 : Int) + 1))).heap.size from Nat.le_trans HE0.out.lo.1 (Nat.le_of_lt HE0.out.l.lt))
      have CK := kids_any (some ⟨b, off, none⟩) c L i ((w.setCell ⟨gn, 0, none⟩ (.int .i64 ((s.1 : Int) + 1))).setCell ⟨g, i, none⟩ (.int .i64 ((s.1 : Int) + 1))) hnd
      rw [HN.out] at CK
      have hklt := fun j hj => kidsF_lt (L := L) (k := i) (j := j) HF.out hi hj
      have hwN : walkN L (f + 1) i s = (kidsF L (i : Int)).foldl (fun s k => walkN L f k s) s1 := by rw [← HV.out]; rfl
      have hkl := kidsF_length HF.out hi
      have hat := formed_at HF.out hi
      have hstl := St_len (L := L) (k := i) (by omega)
      have hKb : (kidsF L (i : Int)).length ≤ N := by omega
      have HKLT := Lib.hid hklt
      have HWN := Lib.hid hwN
      obtain ⟨K, hK⟩ : ∃ K, kidsF L (i : Int) = K := ⟨_, rfl⟩
      rw [hK] at CK hKb HKLT HWN
      obtain ⟨M, hM⟩ : ∃ M, K.length = M := ⟨_, rfl⟩
      rw [hM] at CK hKb
      have HM := Lib.hid hM
      have hgn : gn < ((w.setCell ⟨gn, 0, none⟩ (.int .i64 ((s.1 : Int) + 1))).setCell ⟨g, i, none⟩ (.int .i64 ((s.1 : Int) + 1))).heap.size := HE0.out.n.lt
      have hgg : g < ((w.setCell ⟨gn, 0, none⟩ (.int .i64 ((s.1 : Int) + 1))).setCell ⟨g, i, none⟩ (.int .i64 ((s.1 : Int) + 1))).heap.size := HE0.out.row.lt
      clear hnd hklt hwN hkl hat hstl hK hM n0 n1 n2 n3 n4 n5 n6 n7 cl fl cn fn co fo h3
      refine CK.mono ?_
      rintro e3 w3 ⟨A3, c3, rfl, hrow, hb3⟩
      have hsrc : M = 0 ∨ ∃ g3, A3 = some ⟨g3, 0, none⟩ ∧ ((w.setCell ⟨gn, 0, none⟩ (.int .i64 ((s.1 : Int) + 1))).setCell ⟨g, i, none⟩ (.int .i64 ((s.1 : Int) + 1))).heap.size ≤ g3 ∧ g3 < w3.heap.size ∧ ∀ j, j < M → w3.cell? ⟨g3, j, none⟩ = some (.int .i64 ((K.getD j 0 : Nat) : Int)) := by
        rcases rowInts hrow with ⟨_, h, _⟩ | ⟨g3, rfl, h1, _, h2⟩
        · exact .inl h
        · by_cases h0 : M = 0
          · exact .inl h0
          · exact .inr ⟨g3, rfl, h1, block_lt_of_cell (h2 0 (by omega)), h2⟩
      have HSRC := Lib.hid hsrc
      have HE3 := Lib.hid (HE0.out.call hb3)
      have HO3 := Lib.hid (HO0.out.call hb3)
      clear CK hrow hb3 hsrc
      go_wp2
      go_loopw [24] (fun j wr => ∃ t : Nat, t ≤ M ∧ j = .int .i64 t ∧ Env wr B gl gn go gw g (some ⟨b, off, none⟩) c L ((K.take t).foldl (fun s k => walkN L f k s) s1) ∧ Only2 gn g w wr ∧ Only2 gn g w3 wr) (fun j _ => M - (intOf j).toNat)
      case atStart => exact ⟨0, by omega, rfl, HE3.out, HO3.out, Only2.refl _ _ _⟩
      case round =>
        obtain ⟨t, ht, rfl, hE4, hO4, hO5⟩ := hrel
        rename World => w4
        have HE4 := Lib.hid hE4
        have HO4 := Lib.hid hO4; clear hO4
        have HO5 := Lib.hid hO5; clear hO5
        by_cases hlt : t < M
        · obtain ⟨g3, rfl, g3a, g3b, hc3⟩ : ∃ g3, A3 = some ⟨g3, 0, none⟩ ∧ ((w.setCell ⟨gn, 0, none⟩ (.int .i64 ((s.1 : Int) + 1))).setCell ⟨g, i, none⟩ (.int .i64 ((s.1 : Int) + 1))).heap.size ≤ g3 ∧ g3 < w3.heap.size ∧ ∀ j, j < M → w3.cell? ⟨g3, j, none⟩ = some (.int .i64 ((K.getD j 0 : Nat) : Int)) := by
            rcases HSRC.out with h | h
            · omega
            · exact h
          have hck := (HO5.out.cell (i := t) g3b (by omega) (by omega)).trans (hc3 t hlt)
          obtain ⟨q, hq⟩ : ∃ q, K.getD t 0 = q := ⟨_, rfl⟩
          have hqi : q < i := HKLT.out q (by rw [← hq, List.getD_eq_getElem?_getD, List.getElem?_eq_getElem (by rw [HM.out]; exact hlt)]; exact List.getElem_mem _)
          rw [hq] at hck
          have hft := fold_take (fun s k => walkN L f k s) K s1 (t := t) (by rw [HM.out]; exact hlt)
          rw [hq] at hft
          have hfin := fold_final L f K s1 (t + 1)
          rw [← HWN.out, hft] at hfin
          have C4 := IH.out q w4 B gl gn go gw g (some ⟨b, off, none⟩) c L _ hE4 HF.out (by omega) (by omega) (Nat.le_trans hfin HBD.out)
          unfold wkArgs at C4
          have HFT := Lib.hid hft
          obtain ⟨cf, ff⟩ := hE4.f.facts
          generalize (K.take t).foldl (fun s k => walkN L f k s) s1 = st at *
          clear hc3 hq hft hfin hE4
          go_wp2_with fail
          refine C4.mono ?_
          rintro e5 w5 ⟨rfl, hE5, hO6⟩
          have HE5 := Lib.hid hE5
          have HO6 := Lib.hid hO6
          clear hE5 hO6 C4 cf ff hck
          go_wp2
          go_roundw
          case rel =>
            refine ⟨t + 1, by omega, by go_num, ?_, HO4.out.trans HO6.out, HO5.out.trans HO6.out⟩
            rw [HFT.out]; exact HE5.out
          case measure => simp [intOf]; omega
        · have htM : t = M := by omega
          have e : (K.take t).foldl (fun s k => walkN L f k s) s1 = walkN L (f + 1) i s := by rw [HWN.out, List.take_of_length_le (by rw [HM.out]; omega)]
          have hE5 := HE4.out
          rw [e] at hE5
          have HE5 := Lib.hid hE5
          clear hE4 hE5 e
          go_wp2
          first | go_end0 | refine bodyPost_ret (results_none rfl _ _ _) rfl ?_
          exact ⟨rfl, HE5.out, HO4.out⟩
end Go.Proofs.Ytddokdjlmdoebaa

/- Walks of the packages ast and gimletref06: the groups' numbers of a list. -/
namespace Go.Proofs.Ytddokdjlmdoebaa
open Go.RowKit SetP AstP
theorem below_only2 {B a b : Nat} {u w w' : World} (h : Below B u w) (ho : Only2 a b w w') (ha : B ≤ a) (hb : B ≤ b) (hB : B ≤ w.heap.size) : Below B u w' :=
  ⟨ho.os.trans h.os, ho.tape.trans h.tape, ho.output.trans h.output, Nat.le_trans h.size ho.size, fun k hk => (ho.block k (by omega) (by omega) (by omega)).trans (h.block k hk)⟩
theorem below_al {a w : World} (h : Below a.heap.size a w) (o : Obj) : Below a.heap.size a (w.alloc o) := h.alloc h.size o
set_option maxRecDepth 100000 in
set_option maxHeartbeats 2000000 in
theorem numbers_any (A : Option Addr) (c : Nat) (L : List Nd) (w : World) (hL : NodesAt w w.heap.size A L) :
    Calls Try.prog 53 #[.slice A L.length c] w (RetRow 3 1 (numsF L).length (ints (numsF L)) w) := by
  have hmf : ∀ (fn : Fn) (first cap : Array Value) (w : World), (Instr.makeFunc fn first cap).run Try.prog w = .ok (.func fn first cap) w := fun _ _ _ _ => rfl
  have hsf := fun (a : Addr) (c : Array Value) (w : World) => run_store Try.prog w a (.func (.func 89) #[] c) .plain rfl
  have hlen := hL.1
  have HL0 := Lib.hid hL
  have hL1 : NodesAt (w.alloc (.cells #[.slice A L.length c] 22)) (w.alloc (.cells #[.slice A L.length c] 22)).heap.size A L :=
    (hL.below ((Below.refl w.heap.size w).alloc (Nat.le_refl _) _)).more (by simp)
  have CS := sizes_any A c L _ hL1
  have o0 : Slab (w.alloc (.cells #[.slice A L.length c] 22)) w.heap.size #[.slice A L.length c] 22 := Slab.new _ _ _
  have HB0 := Lib.hid ((Below.refl w.heap.size w).alloc (Nat.le_refl _) (.cells #[.slice A L.length c] 22))
  clear hL hL1
  cases hF : formedF L with
  | false =>
    rw [sizesF_not hF] at CS
    rw [numsF_not hF]
    have hmake := make_int 0 (by omega)
    go_enter Try.func53, Try.ntmps53
    go_wp2_with fail
    refine CS.mono ?_
    rintro e1 w1 ⟨A1, c1, rfl, hrow, hb1⟩
    have HB1 := Lib.hid (below_then HB0.out hb1)
    clear hrow hb1 o0 HB0
    have hmake0 : ∀ w : World, (Instr.makeSlice 76 (.int .i64 0) (.int .i64 0)).run Try.prog w = .ok (.slice (some ⟨w.heap.size, 0, none⟩) 0 0) (w.alloc (.cells (intsA (List.replicate 0 0)) 3)) := hmake
    have o1 : Slab (w1.alloc (.cells (intsA []) 3)) w1.heap.size (intsA []) 3 := Slab.new _ _ _
    have o4 := ((o1.alloc (.cells #[.slice (some ⟨w1.heap.size, 0, none⟩) 0 0] 76)).alloc (.cells #[.int .i64 0] 3)).alloc (.cells #[wkV w.heap.size (w1.heap.size + 1 + 1) (w1.heap.size + 1) (w1.heap.size + 1 + 1 + 1)] 124)
    have hrow := row_ints (base := w.heap.size) (n := 0) o4 HB1.out.size rfl (by omega)
    clear o1 o4
    go_wp2
    go_ret
    exact ⟨_, _, rfl, hrow, below_al (below_al (below_al (below_al HB1.out _) _) _) _⟩
  | true =>
    rw [sizesF_formed hF, Sz_length (Nat.le_refl _)] at CS
    have HF := Lib.hid hF
    obtain ⟨N, hN⟩ : ∃ N, L.length = N := ⟨_, rfl⟩
    rw [hN] at hlen CS o0 HB0 ⊢
    have HN := Lib.hid hN
    rw [numsF_length HF.out, hN]
    have hmake := make_int N hlen
    have hpos := (root_size hF).1
    rw [hN] at hpos
    clear hF hN
    go_enter Try.func53, Try.ntmps53
    go_wp2_with fail
    refine CS.mono ?_
    rintro e1 w1 ⟨A1, c1, rfl, hrow, hb1⟩
    have o1 := o0.call hb1
    have HB1 := Lib.hid (below_then HB0.out hb1)
    have hsz1 : w.heap.size < w1.heap.size := o1.lt
    have p0 : Slab ((((w1.alloc (.cells (intsA (List.replicate N 0)) 3)).alloc (.cells #[.slice (some ⟨w1.heap.size, 0, none⟩) N N] 76)).alloc (.cells #[.int .i64 0] 3)).alloc (.cells #[wkV w.heap.size (w1.heap.size + 1 + 1) (w1.heap.size + 1) (w1.heap.size + 1 + 1 + 1)] 124)) w1.heap.size (intsA (List.replicate N 0)) 3 := (((Slab.new w1 _ _).alloc _).alloc _).alloc _
    have p1 : Slab ((((w1.alloc (.cells (intsA (List.replicate N 0)) 3)).alloc (.cells #[.slice (some ⟨w1.heap.size, 0, none⟩) N N] 76)).alloc (.cells #[.int .i64 0] 3)).alloc (.cells #[wkV w.heap.size (w1.heap.size + 1 + 1) (w1.heap.size + 1) (w1.heap.size + 1 + 1 + 1)] 124)) (w1.heap.size + 1) #[.slice (some ⟨w1.heap.size, 0, none⟩) N N] 76 := ((Slab.newAt _ _ _ (by simp)).alloc _).alloc _
    have p2 : Slab ((((w1.alloc (.cells (intsA (List.replicate N 0)) 3)).alloc (.cells #[.slice (some ⟨w1.heap.size, 0, none⟩) N N] 76)).alloc (.cells #[.int .i64 0] 3)).alloc (.cells #[wkV w.heap.size (w1.heap.size + 1 + 1) (w1.heap.size + 1) (w1.heap.size + 1 + 1 + 1)] 124)) (w1.heap.size + 1 + 1) #[.int .i64 0] 3 := (Slab.newAt _ _ _ (by simp)).alloc _
    have p3 : Slab ((((w1.alloc (.cells (intsA (List.replicate N 0)) 3)).alloc (.cells #[.slice (some ⟨w1.heap.size, 0, none⟩) N N] 76)).alloc (.cells #[.int .i64 0] 3)).alloc (.cells #[wkV w.heap.size (w1.heap.size + 1 + 1) (w1.heap.size + 1) (w1.heap.size + 1 + 1 + 1)] 124)) (w1.heap.size + 1 + 1 + 1) #[wkV w.heap.size (w1.heap.size + 1 + 1) (w1.heap.size + 1) (w1.heap.size + 1 + 1 + 1)] 124 := Slab.newAt _ _ _ (by simp)
    have p4 : Slab ((((w1.alloc (.cells (intsA (List.replicate N 0)) 3)).alloc (.cells #[.slice (some ⟨w1.heap.size, 0, none⟩) N N] 76)).alloc (.cells #[.int .i64 0] 3)).alloc (.cells #[wkV w.heap.size (w1.heap.size + 1 + 1) (w1.heap.size + 1) (w1.heap.size + 1 + 1 + 1)] 124)) w.heap.size #[.slice A N c] 22 := (((o1.alloc _).alloc _).alloc _).alloc _
    have hb4 : Below w.heap.size w ((((w1.alloc (.cells (intsA (List.replicate N 0)) 3)).alloc (.cells #[.slice (some ⟨w1.heap.size, 0, none⟩) N N] 76)).alloc (.cells #[.int .i64 0] 3)).alloc (.cells #[wkV w.heap.size (w1.heap.size + 1 + 1) (w1.heap.size + 1) (w1.heap.size + 1 + 1 + 1)] 124)) := below_al (below_al (below_al (below_al HB1.out _) _) _) _
    have hE : Env ((((w1.alloc (.cells (intsA (List.replicate N 0)) 3)).alloc (.cells #[.slice (some ⟨w1.heap.size, 0, none⟩) N N] 76)).alloc (.cells #[.int .i64 0] 3)).alloc (.cells #[wkV w.heap.size (w1.heap.size + 1 + 1) (w1.heap.size + 1) (w1.heap.size + 1 + 1 + 1)] 124)) w.heap.size w.heap.size (w1.heap.size + 1 + 1) (w1.heap.size + 1) (w1.heap.size + 1 + 1 + 1) w1.heap.size A c L (0, List.replicate N 0) := by
      refine ⟨?_, p2, ?_, p3, p0, by simp [HN.out], HL0.out.below hb4, by omega, by omega⟩
      · rw [HN.out]; exact p4
      · rw [HN.out]; exact p1
    obtain ⟨r, hr⟩ : ∃ r, N = r + 1 := ⟨N - 1, by omega⟩
    have hw := numsF_walk HF.out
    rw [HN.out, show N - 1 = r by omega] at hw
    have hlast : (walkN L N r (0, List.replicate N 0)).1 ≤ 2000000000000 := by
      have d := walk_did HF.out N r (by rw [HN.out]; omega) (by omega) (0, List.replicate N 0) (by simp [HN.out])
      have e := d.num
      have := cnt_le (grp L) (fst L r) (sizeAt L r)
      have := sizeAt_le (L := L) (k := r) (by rw [HN.out]; omega)
      simp only at e; omega
    have CW := num_any N r _ w.heap.size w.heap.size (w1.heap.size + 1 + 1) (w1.heap.size + 1) (w1.heap.size + 1 + 1 + 1) w1.heap.size A c L _ hE HF.out (by rw [HN.out]; omega) (by omega) hlast
    unfold wkArgs at CW
    have hr' : (N : Int) - 1 = (r : Int) := by omega
    have HR := Lib.hid hr'
    have HW := Lib.hid hw
    have HB4 := Lib.hid hb4
    obtain ⟨c1', f1'⟩ := p1.facts
    obtain ⟨c3', f3'⟩ := p3.facts
    obtain ⟨c4', f4'⟩ := p4.facts
    clear hrow hb1 o0 HB0 hE hw hlast hr' hr p0 p1 p2 p3 p4 hb4 o1
    go_wp2_with fail
    rw [HR.out]
    refine CW.mono ?_
    rintro e5 w5 ⟨rfl, hE5, hO5⟩
    have HB5 := Lib.hid (below_only2 HB4.out hO5 (by omega) (by omega) HB4.out.size)
    have hrow := row_ints (base := w.heap.size) (n := N) hE5.row (by omega) (hE5.len.trans HN.out) hlen
    rw [HW.out] at hrow
    have ho := hE5.o
    rw [HN.out] at ho
    obtain ⟨c5, f5⟩ := ho.facts
    clear hE5 hO5 ho CW c1' c3' c4' f1' f3' f4'
    go_wp2
    go_ret
    exact ⟨_, _, rfl, hrow, HB5.out⟩
/-- How many groups stand ahead of a node, or are it, among the first k nodes. -/
theorem rankIn_succ (L : List Nd) (k j : Nat) : rankIn L 0 (k + 1) j = if grp L k && prec L j k then rankIn L 0 k j + 1 else rankIn L 0 k j := by
  unfold rankIn
  rw [cnt, Nat.zero_add]
  cases grp L k && prec L j k <;> rfl
def numAt (L : List Nd) (j : Nat) : Nat := if grp L j then rankIn L 0 L.length j else 0
def Nums (L : List Nd) (k : Nat) : List Nat := (List.range k).map (numAt L)
theorem Nums_succ (L : List Nd) (k : Nat) : Nums L (k + 1) = Nums L k ++ [numAt L k] := by unfold Nums; rw [List.range_succ, List.map_append]; rfl
theorem Nums_length (L : List Nd) (k : Nat) : (Nums L k).length = k := by unfold Nums; simp
theorem numsF_Nums {L : List Nd} (hF : formedF L = true) : numsF L = Nums L L.length := by unfold numsF Nums; rw [if_pos hF]; rfl
theorem rank_le (L : List Nd) (k j : Nat) : rankIn L 0 k j ≤ k := cnt_le _ _ _
set_option maxRecDepth 100000 in
set_option maxHeartbeats 2000000 in
theorem rnumbers_any (A : Option Addr) (c : Nat) (L : List Nd) (w : World) (hL : NodesAt w w.heap.size A L) :
    Calls Try.prog 57 #[.slice A L.length c] w (RetRow 3 1 (numsF L).length (ints (numsF L)) w) := by
  have hlen := hL.1
  have CS := rsizes_any A c L w hL
  have HL := Lib.hid hL
  clear hL
  cases hF : formedF L with
  | false =>
    rw [sizesF_not hF] at CS
    rw [numsF_not hF]
    have hmake := make_int 0 (by omega)
    have hmake0 : ∀ w : World, (Instr.makeSlice 76 (.int .i64 0) (.int .i64 0)).run Try.prog w = .ok (.slice (some ⟨w.heap.size, 0, none⟩) 0 0) (w.alloc (.cells (intsA (List.replicate 0 0)) 3)) := hmake
    go_enter Try.func57, Try.ntmps57
    go_wp2_with fail
    refine CS.mono ?_
    rintro e1 w1 ⟨A1, c1, rfl, hrow, hb1⟩
    have HB1 := Lib.hid hb1
    clear hrow hb1
    have o1 : Slab (w1.alloc (.cells (intsA []) 3)) w1.heap.size (intsA []) 3 := Slab.new _ _ _
    have hrow := row_ints (base := w.heap.size) (n := 0) o1 HB1.out.size rfl (by omega)
    clear o1
    go_wp2
    go_rounds 1
    go_ret
    exact ⟨_, _, rfl, hrow, below_al HB1.out _⟩
  | true =>
    rw [sizesF_formed hF, Sz_length (Nat.le_refl _)] at CS
    have hnn := numsF_Nums hF
    rw [hnn, Nums_length]
    have HF := Lib.hid hF
    obtain ⟨N, hN⟩ : ∃ N, L.length = N := ⟨_, rfl⟩
    rw [hN] at hlen CS ⊢
    have HN := Lib.hid hN
    have hmake := make_int N hlen
    clear hF hN hnn
    go_enter Try.func57, Try.ntmps57
    go_wp2_with fail
    refine CS.mono ?_
    rintro e1 w1 ⟨A1, c1, rfl, hrow, hb1⟩
    have HB1 := Lib.hid hb1
    have hrd := rowInts hrow
    have hrd' : N = 0 ∨ ∃ g1, A1 = some ⟨g1, 0, none⟩ ∧ g1 < w1.heap.size ∧ ∀ q, q < N → w1.cell? ⟨g1, q, none⟩ = some (.int .i64 ((sizeAt L q : Nat) : Int)) := by
      rcases hrd with ⟨_, h, _⟩ | ⟨g1, h, _, _, hc⟩
      · exact .inl h
      · by_cases h0 : N = 0
        · exact .inl h0
        · exact .inr ⟨g1, h, block_lt_of_cell (hc 0 (by omega)), fun q hq => by rw [hc q hq, Sz_getD hq (by rw [HN.out]; exact Nat.le_refl _)]⟩
    have HRD := Lib.hid hrd'
    clear hrow hb1 hrd hrd' CS
    have o1 : Slab (w1.alloc (.cells (intsA (List.replicate N 0)) 3)) w1.heap.size (intsA (Nums L 0 ++ List.replicate (N - 0) 0)) 3 := Slab.new _ _ _
    have HB2 := Lib.hid (below_al HB1.out (.cells (intsA (List.replicate N 0)) 3))
    have HBX := Lib.hid ((Below.refl w1.heap.size w1).alloc (Nat.le_refl _) (.cells (intsA (List.replicate N 0)) 3))
    have hgw : w.heap.size ≤ w1.heap.size := HB1.out.size
    clear HB1
    go_wp2
    clear hmake
    go_loopw [5] (fun i wr => ∃ k : Nat, k ≤ N ∧ i = .int .i64 k ∧ Slab wr w1.heap.size (intsA (Nums L k ++ List.replicate (N - k) 0)) 3 ∧ Below w.heap.size w wr ∧ Below w1.heap.size w1 wr) (fun i _ => N - (intOf i).toNat)
    case atStart => exact ⟨0, by omega, rfl, o1, HB2.out, HBX.out⟩
    case round =>
      clear o1 HB2 HBX
      obtain ⟨k, hk, rfl, o, hB, hBX⟩ := hrel
      have HB := Lib.hid hB; clear hB
      have HBX := Lib.hid hBX; clear hBX
      by_cases hlt : k < N
      · have hltL : k < L.length := by rw [HN.out]; exact hlt
        have hlk := Nums_length L k
        obtain ⟨b, off, rfl, hb, hn8⟩ := (HL.out.below HB.out).node hltL
        unfold Node8 at hn8
        obtain ⟨x, hx⟩ : ∃ x, L.getD k ndEmpty = x := ⟨_, rfl⟩
        rw [hx] at hn8
        have HX := Lib.hid hx; clear hx
        obtain ⟨n0, n1, n2, n3, n4, n5, n6, n7⟩ := hn8
        cases h3 : (x.kind == 3) with
        | false =>
          have h3n : (x.kind != 3) = true := by unfold bne; rw [h3]; rfl
          have hg : grp L k = false := by unfold grp; rw [HX.out]; exact h3
          have hn0 : numAt L k = 0 := by unfold numAt; rw [hg]; rfl
          have e : Nums L k ++ List.replicate (N - k) 0 = Nums L (k + 1) ++ List.replicate (N - (k + 1)) 0 := by
            rw [Nums_succ, hn0, List.append_assoc]
            congr 1
            rw [show N - k = (N - (k + 1)) + 1 by omega, List.replicate_succ]; rfl
          rw [e] at o
          clear hg hn0 e
          go_wp2
          go_roundw
          case rel => exact ⟨k + 1, by omega, by go_num, o, HB.out, HBX.out⟩
          case measure => simp [intOf]; omega
        | true =>
          have h3n : (x.kind != 3) = false := by unfold bne; rw [h3]; rfl
          have hg : grp L k = true := by unfold grp; rw [HX.out]; exact h3
          have HG := Lib.hid hg
          obtain ⟨g1, rfl, hg1, hc1⟩ : ∃ g1, A1 = some ⟨g1, 0, none⟩ ∧ g1 < w1.heap.size ∧ ∀ q, q < N → w1.cell? ⟨g1, q, none⟩ = some (.int .i64 ((sizeAt L q : Nat) : Int)) := by
            rcases HRD.out with h | h
            · omega
            · exact h
          have HC1 := Lib.hid hc1
          clear hg hc1 n1 n2 n3 n4 n5 n6 n7
          go_wp2
          go_loopw [6] (fun j wr => ∃ m : Nat, m ≤ N ∧ j = .int .i64 m ∧ Slab wr w1.heap.size (intsA (Nums L k ++ rankIn L 0 m k :: List.replicate (N - k - 1) 0)) 3 ∧ Below w.heap.size w wr ∧ Below w1.heap.size w1 wr) (fun j _ => N - (intOf j).toNat)
          case atStart =>
            refine ⟨0, by omega, rfl, ?_, HB.out, HBX.out⟩
            have e : Nums L k ++ List.replicate (N - k) 0 = Nums L k ++ rankIn L 0 0 k :: List.replicate (N - k - 1) 0 := by
              congr 1
              rw [show N - k = (N - k - 1) + 1 by omega, List.replicate_succ]; rfl
            rw [e] at o; exact o
          case round =>
            clear o HB HBX n0
            obtain ⟨m, hm, rfl, o, hB, hBX⟩ := hrel
            have HB := Lib.hid hB; clear hB
            have HBX := Lib.hid hBX; clear hBX
            by_cases hlt2 : m < N
            · have hltM : m < L.length := by rw [HN.out]; exact hlt2
              obtain ⟨b', off', he, _, hn9⟩ := (HL.out.below HB.out).node hltM
              cases he
              have ck : wr.cell? ⟨g1, k, none⟩ = some (.int .i64 ((sizeAt L k : Nat) : Int)) := (HBX.out.cell (p := ⟨g1, k, none⟩) hg1).trans (HC1.out k hlt)
              have cm : wr.cell? ⟨g1, m, none⟩ = some (.int .i64 ((sizeAt L m : Nat) : Int)) := (HBX.out.cell (p := ⟨g1, m, none⟩) hg1).trans (HC1.out m hlt2)
              have sk := sizeAt_le (L := L) (k := k) (by omega)
              have sm := sizeAt_le (L := L) (k := m) (by omega)
              have hprec : prec L k m = (decide ((m : Int) - (sizeAt L m : Nat) < (k : Int) - (sizeAt L k : Nat)) || (((m : Int) - (sizeAt L m : Nat) == (k : Int) - (sizeAt L k : Nat)) && decide (k ≤ m))) := by
                unfold prec fst
                congr 1
                · rw [Bool.eq_iff_iff]; simp; omega
                · congr 1
                  rw [Bool.eq_iff_iff]; simp; omega
              have hrs := rankIn_succ L m k
              have hrl := rank_le L m k
              have hgm : grp L m = ((L.getD m ndEmpty).kind == 3) := rfl
              obtain ⟨y, hy⟩ : ∃ y, L.getD m ndEmpty = y := ⟨_, rfl⟩
              rw [hy] at hn9 hgm
              unfold Node8 at hn9
              obtain ⟨m0, _⟩ := hn9
              rw [hgm, hprec] at hrs
              obtain ⟨a, ha⟩ : ∃ a, sizeAt L k = a := ⟨_, rfl⟩
              obtain ⟨d, hd⟩ : ∃ d, sizeAt L m = d := ⟨_, rfl⟩
              rw [ha] at ck sk hrs
              rw [hd] at cm sm hrs
              obtain ⟨q, hq⟩ : ∃ q : Int, (k : Int) - (a : Nat) = q := ⟨_, rfl⟩
              obtain ⟨p, hp⟩ : ∃ p : Int, (m : Int) - (d : Nat) = p := ⟨_, rfl⟩
              rw [hq, hp] at hrs
              have x0 : IntKind.i64.wrap ((k : Int) - (a : Int)) = q := by rw [← hq]; exact IntWalk.i64_in _ (by omega)
              have x1 : IntKind.i64.wrap ((m : Int) - (d : Int)) = p := by rw [← hp]; exact IntWalk.i64_in _ (by omega)
              have i1 : (k : Int) < (N : Int) := by omega
              have i2 : (m : Int) < (N : Int) := by omega
              have HRS := Lib.hid hrs
              have hlr : (Nums L k ++ rankIn L 0 m k :: List.replicate (N - k - 1) 0).length = N := by simp [Nums_length]; omega
              have hcr := (o.cell k).trans (ints_get _ (by rw [hlr]; exact hlt))
              have hgk : (Nums L k ++ rankIn L 0 m k :: List.replicate (N - k - 1) 0).getD k 0 = rankIn L 0 m k := by
                rw [List.getD_eq_getElem?_getD, List.getElem?_append_right (by rw [hlk]; exact Nat.le_refl _), hlk, Nat.sub_self]; rfl
              rw [hgk] at hcr
              have hbx : rankIn L 0 m k ≤ N := by omega
              obtain ⟨Z, hZ⟩ : ∃ Z, rankIn L 0 m k = Z := ⟨_, rfl⟩
              rw [hZ] at hcr hbx
              have HZ := Lib.hid hZ
              obtain ⟨c7, f7⟩ := o.facts
              have hst : ∀ v : Nat, (intsA (Nums L k ++ rankIn L 0 m k :: List.replicate (N - k - 1) 0)).setIfInBounds k (.int .i64 (v : Int)) = intsA (Nums L k ++ v :: List.replicate (N - k - 1) 0) := fun v => by
                rw [ints_put, List.set_append_right _ _ (by rw [hlk]; exact Nat.le_refl _), hlk, Nat.sub_self]; rfl
              have HST := Lib.hid hst
              clear hprec hrs hrl hgm hy ha hd hq hp sk sm hlr hgk hZ c7 hst hlk
              cases h4 : (y.kind == 3) <;> cases h5 : decide (p < q) <;> cases h6 : (p == q) <;> cases h7 : decide (k ≤ m)
              all_goals
                have h7' : decide ((k : Int) ≤ (m : Int)) = decide (k ≤ m) := by rw [Bool.eq_iff_iff]; simp
                rw [h7] at h7'
                have hrs := HRS.out
                rw [h4, h5, h6, h7] at hrs
                simp only [Bool.false_and, Bool.and_false, Bool.true_and, Bool.and_true, Bool.or_false, Bool.or_true, Bool.true_or, Bool.false_or, Bool.and_self, Bool.or_self, if_true, Bool.false_eq_true, if_false] at hrs
                have HR2 := Lib.hid hrs
                clear hrs
                go_wp2
                go_quiet (fail)
                go_wp2
                go_roundw
                case rel =>
                  refine ⟨m + 1, by omega, by go_num, ?_, ?_, ?_⟩
                  · first
                    | (rw [HR2.out]; exact o)
                    | (have o2 := o.set k (.int .i64 ((Z : Int) + 1))
                       rw [show ((Z : Int) + 1) = ((Z + 1 : Nat) : Int) from rfl, HST.out] at o2
                       rw [HR2.out, HZ.out]; exact o2)
                  · first
                    | exact below_drewN HB.out _
                    | exact below_set (below_drewN HB.out _) hgw _
                  · first
                    | exact below_drewN HBX.out _
                    | exact below_set (below_drewN HBX.out _) (Nat.le_refl _) _
                case measure => simp [intOf]; omega
            · have hmN : m = N := by omega
              have hnk : numAt L k = rankIn L 0 m k := by unfold numAt; rw [HG.out, if_pos rfl, HN.out, hmN]
              have e : Nums L k ++ rankIn L 0 m k :: List.replicate (N - k - 1) 0 = Nums L (k + 1) ++ List.replicate (N - (k + 1)) 0 := by
                rw [Nums_succ, hnk, List.append_assoc]; rfl
              rw [e] at o
              clear hnk e
              go_wp2
              go_roundw
              case rel => exact ⟨k + 1, by omega, by go_num, o, HB.out, HBX.out⟩
              case measure => simp [intOf]; omega
      · obtain rfl : k = N := by omega
        have hrow := row_ints (base := w.heap.size) (n := k) o hgw (by simp [Nums_length]) hlen
        rw [Nat.sub_self, List.replicate_zero, List.append_nil] at hrow
        clear o
        go_wp2
        go_ret
        exact ⟨_, _, rfl, hrow, HB.out⟩
end Go.Proofs.Ytddokdjlmdoebaa
