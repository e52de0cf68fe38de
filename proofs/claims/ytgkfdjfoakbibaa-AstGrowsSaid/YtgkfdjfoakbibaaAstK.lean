/- Plain facts on lists of nodes: the groups' numbers. No program is in sight. -/
import Derived.Test.YtgkfdjfoakbibaaAstP
namespace Go.Proofs.Ytgkfdjfoakbibaa
open SetP
namespace AstP
/-- How many of the n numbers from a on have a property. -/
def cnt (p : Nat → Bool) (a : Nat) : Nat → Nat
  | 0 => 0
  | n + 1 => cnt p a n + if p (a + n) then 1 else 0
theorem cnt_add (p : Nat → Bool) (a n m : Nat) : cnt p a (n + m) = cnt p a n + cnt p (a + n) m := by
  induction m with
  | zero => simp [cnt]
  | succ m ih => rw [← Nat.add_assoc, cnt, ih, cnt, Nat.add_assoc, Nat.add_assoc]
theorem cnt_congr {p q : Nat → Bool} {a n : Nat} (h : ∀ k, a ≤ k → k < a + n → p k = q k) : cnt p a n = cnt q a n := by
  induction n with
  | zero => rfl
  | succ n ih => rw [cnt, cnt, ih fun k h1 h2 => h k h1 (by omega), h (a + n) (by omega) (by omega)]
theorem cnt_none {p : Nat → Bool} {a n : Nat} (h : ∀ k, a ≤ k → k < a + n → p k = false) : cnt p a n = 0 := by
  induction n with
  | zero => rfl
  | succ n ih => rw [cnt, ih fun k h1 h2 => h k h1 (by omega), h (a + n) (by omega) (by omega)]; rfl
theorem cnt_le (p : Nat → Bool) (a n : Nat) : cnt p a n ≤ n := by
  induction n with
  | zero => exact Nat.le_refl _
  | succ n ih => rw [cnt]; split <;> omega
def grp (L : List Nd) (k : Nat) : Bool := (L.getD k ndEmpty).kind == 3
/-- The first node of the thing that node k is. -/
def fst (L : List Nd) (k : Nat) : Nat := k + 1 - sizeAt L k
def prec (L : List Nd) (j k : Nat) : Bool := decide (fst L k < fst L j) || (fst L k == fst L j && decide (j ≤ k))
def rankIn (L : List Nd) (a n j : Nat) : Nat := cnt (fun k => grp L k && prec L j k) a n
def visit (L : List Nd) (i : Nat) (s : Nat × List Nat) : Nat × List Nat := if grp L i then (s.1 + 1, s.2.set i (s.1 + 1)) else s
def walkN (L : List Nd) : Nat → Nat → Nat × List Nat → Nat × List Nat
  | 0, _, s => s
  | f + 1, i, s => (kidsF L (i : Int)).foldl (fun s k => walkN L f k s) (visit L i s)

theorem Sz_getD {L : List Nd} {k n : Nat} (hk : k < n) (hn : n ≤ L.length) : (Sz L n).getD k 0 = sizeAt L k := by
  induction n with
  | zero => omega
  | succ n ih =>
    rw [Sz_succ (by omega)]
    have hl := Sz_length (L := L) (k := n) (by omega)
    by_cases e : k = n
    · subst e
      rw [List.getD_eq_getElem?_getD, List.getElem?_append_right (by omega), hl, Nat.sub_self]; rfl
    · rw [List.getD_eq_getElem?_getD, List.getElem?_append_left (by omega), ← List.getD_eq_getElem?_getD]
      exact ih (by omega) (by omega)
/-- How far the first m kids, from the right, reach. -/
def reach (L : List Nd) (i m : Nat) : Nat := ((St L i).take m).sum
theorem reach_zero (L : List Nd) (i : Nat) : reach L i 0 = 0 := by simp [reach]
theorem sizeAt_reach (L : List Nd) (i : Nat) : sizeAt L i = 1 + reach L i (L.getD i ndEmpty).kids.toNat := rfl
section
variable {L : List Nd} {i m : Nat}
/-- A kid's place, size and first node. -/
theorem kid_seg (hF : formedF L = true) (hi : i < L.length) (hm : m < (L.getD i ndEmpty).kids.toNat) :
    kidAt L i m < i ∧ reach L i (m + 1) = reach L i m + sizeAt L (kidAt L i m) ∧ fst L (kidAt L i m) = i - reach L i (m + 1) ∧ reach L i (m + 1) ≤ i ∧ kidAt L i m + 1 = i - reach L i m ∧ reach L i m < i := by
  have hat := formed_at hF hi
  obtain ⟨h1, h2, h3, h4, h5⟩ := kid_at (L := L) hi (j := m) (by omega)
  have e : sizeAt L (kidAt L i m) = (St L i).getD m 0 := by rw [← h3, Sz_getD (by omega) (Nat.le_refl _)]
  have hk : kidAt L i m = i - reach L i m - 1 := rfl
  have hr : reach L i m = ((St L i).take m).sum := rfl
  have hr1 : reach L i (m + 1) = ((St L i).take (m + 1)).sum := rfl
  refine ⟨h4, by rw [hr1, hr, e]; exact h5, ?_, by omega, by omega, by omega⟩
  unfold fst
  rw [e]
  omega
theorem fst_reach (hF : formedF L = true) (hi : i < L.length) : fst L i = i - reach L i (L.getD i ndEmpty).kids.toNat ∧ reach L i (L.getD i ndEmpty).kids.toNat ≤ i := by
  have h := sizeAt_le (L := L) (k := i) (by omega)
  rw [sizeAt_reach] at h
  unfold fst
  rw [sizeAt_reach]
  omega
theorem reach_mono (hF : formedF L = true) (hi : i < L.length) {q : Nat} (hq : q ≤ m) (hm : m ≤ (L.getD i ndEmpty).kids.toNat) : reach L i q ≤ reach L i m := by
  induction m with
  | zero => obtain rfl : q = 0 := by omega
            exact Nat.le_refl _
  | succ m ih =>
    by_cases e : q = m + 1
    · subst e; exact Nat.le_refl _
    · have := ih (by omega) (by omega)
      have := (kid_seg hF hi (m := m) (by omega)).2.1
      omega
/-- What stands within a thing begins no earlier than it. -/
theorem nest (hF : formedF L = true) (i : Nat) (hi : i < L.length) (j : Nat) (h1 : fst L i ≤ j) (h2 : j ≤ i) : fst L i ≤ fst L j := by
  induction hn : i using Nat.strongRecOn generalizing i j with
  | _ n ih =>
    subst hn
    by_cases e : j = i
    · subst e; exact Nat.le_refl _
    have hf := fst_reach hF hi
    have key : ∀ m, m ≤ (L.getD i ndEmpty).kids.toNat → i - reach L i m ≤ j → i - reach L i m ≤ fst L j := by
      intro m
      induction m with
      | zero => intro _ h; rw [reach_zero] at h; omega
      | succ m ihm =>
        intro hm hj
        obtain ⟨k1, k2, k3, k4, k5, k6⟩ := kid_seg hF hi (m := m) (by omega)
        by_cases hj2 : i - reach L i m ≤ j
        · have := ihm (by omega) hj2; omega
        · have := ih (kidAt L i m) k1 (kidAt L i m) (by omega) j (by omega) (by omega) rfl
          omega
    rw [hf.1] at h1 ⊢
    exact key _ (Nat.le_refl _) h1
theorem nestK (hF : formedF L = true) (hi : i < L.length) (hm : m ≤ (L.getD i ndEmpty).kids.toNat) {j : Nat} (h1 : i - reach L i m ≤ j) (h2 : j < i) : i - reach L i m ≤ fst L j := by
  induction m with
  | zero => rw [reach_zero] at h1; omega
  | succ m ih =>
    obtain ⟨k1, k2, k3, k4, k5, k6⟩ := kid_seg hF hi (m := m) (by omega)
    by_cases hj2 : i - reach L i m ≤ j
    · have := ih (by omega) hj2; omega
    · have := nest hF (kidAt L i m) (by omega) j (by omega) (by omega)
      omega
theorem fst_le (L : List Nd) (j : Nat) : fst L j ≤ j := by unfold fst; have : 1 ≤ sizeAt L j := by { unfold sizeAt; omega }; omega
theorem prec_yes {j k : Nat} (h : fst L k < fst L j) : prec L j k = true := by unfold prec; rw [decide_eq_true h]; rfl
theorem prec_no {j k : Nat} (h : fst L j < fst L k) : prec L j k = false := by
  unfold prec
  rw [decide_eq_false (by omega), Bool.false_or]
  have : (fst L k == fst L j) = false := by rw [beq_eq_false_iff_ne]; omega
  rw [this]; rfl

/-- What the walk through the n nodes from a on makes. -/
structure Did (L : List Nd) (a n : Nat) (s s' : Nat × List Nat) : Prop where
  num : s'.1 = s.1 + cnt (grp L) a n
  len : s'.2.length = s.2.length
  out : ∀ j, s'.2.getD j 0 = if a ≤ j ∧ j < a + n ∧ grp L j = true then s.1 + rankIn L a n j else s.2.getD j 0
theorem Did.join {a n k : Nat} {s s1 s2 : Nat × List Nat} (h1 : Did L a n s s1) (h2 : Did L (a + n) k s1 s2)
    (hb : ∀ j, a + n ≤ j → j < a + n + k → a + n ≤ fst L j) : Did L a (n + k) s s2 := by
  refine ⟨?_, h2.len.trans h1.len, fun j => ?_⟩
  · rw [h2.num, h1.num, cnt_add]; omega
  · rw [h2.out]
    by_cases c1 : a + n ≤ j ∧ j < a + n + k ∧ grp L j = true
    · rw [if_pos c1, if_pos ⟨by omega, by omega, c1.2.2⟩, h1.num]
      have hj := hb j c1.1 c1.2.1
      have e1 : cnt (grp L) a n = cnt (fun k => grp L k && prec L j k) a n := cnt_congr fun q hq1 hq2 => by
        have := fst_le L q
        rw [prec_yes (by omega), Bool.and_true]
      unfold rankIn
      rw [cnt_add, e1]; omega
    · rw [if_neg c1, h1.out]
      by_cases c2 : a ≤ j ∧ j < a + n ∧ grp L j = true
      · rw [if_pos c2, if_pos ⟨c2.1, by omega, c2.2.2⟩]
        have e1 : cnt (fun k => grp L k && prec L j k) (a + n) k = 0 := cnt_none fun q hq1 hq2 => by
          have h3 := hb q hq1 hq2
          have h4 := fst_le L j
          rw [prec_no (by omega), Bool.and_false]
        unfold rankIn
        rw [cnt_add, e1]; omega
      · rw [if_neg c2, if_neg fun c3 => ?_]
        by_cases hj : j < a + n
        · exact c2 ⟨c3.1, hj, c3.2.2⟩
        · exact c1 ⟨by omega, by omega, c3.2.2⟩
theorem walk_did (hF : formedF L = true) (f i : Nat) (hi : i < L.length) (hf : i < f) (s : Nat × List Nat) (hs : s.2.length = L.length) : Did L (fst L i) (sizeAt L i) s (walkN L f i s) := by
  induction f generalizing i s with
  | zero => omega
  | succ f ih =>
    have hfr := fst_reach hF hi
    have hkids := kidsF_at hF hi
    -- the kids, from the left
    have kids : ∀ m, m ≤ (L.getD i ndEmpty).kids.toNat → ∀ s : Nat × List Nat, s.2.length = L.length →
        Did L (i - reach L i m) (reach L i m) s ((kidsRev L i m).reverse.foldl (fun s k => walkN L f k s) s) := by
      intro m
      induction m with
      | zero =>
        intro _ s _
        rw [reach_zero]
        refine ⟨by simp [kidsRev, cnt], by simp [kidsRev], fun j => ?_⟩
        rw [if_neg (by omega)]
        simp [kidsRev]
      | succ m ihm =>
        intro hm s hs
        obtain ⟨k1, k2, k3, k4, k5, k6⟩ := kid_seg hF hi (m := m) (by omega)
        rw [kidsRev_succ, List.reverse_append, List.reverse_singleton, List.singleton_append, List.foldl_cons]
        have d1 := ih (kidAt L i m) (by omega) (by omega) s hs
        rw [k3] at d1
        have d2 := ihm (by omega) _ (d1.len.trans hs)
        have e1 : i - reach L i m = i - reach L i (m + 1) + sizeAt L (kidAt L i m) := by omega
        have hb : ∀ j, i - reach L i m ≤ j → j < i → i - reach L i m ≤ fst L j := fun j h1 h2 => nestK hF hi (by omega) h1 h2
        rw [e1] at d2
        have := d1.join d2 (fun j h1 h2 => by rw [← e1] at h1 ⊢; exact hb j h1 (by omega))
        rw [k2, Nat.add_comm (reach L i m)]
        rw [k2, Nat.add_comm (reach L i m)] at this
        exact this
    rw [walkN, hkids]
    have d := kids _ (Nat.le_refl _) (visit L i s) (by unfold visit; split <;> simp [hs])
    rw [← hfr.1] at d
    generalize (kidsRev L i (L.getD i ndEmpty).kids.toNat).reverse.foldl (fun s k => walkN L f k s) (visit L i s) = s' at *
    rw [sizeAt_reach, Nat.add_comm]
    generalize hR : reach L i (L.getD i ndEmpty).kids.toNat = R at *
    have hiR : fst L i + R = i := by omega
    refine ⟨?_, d.len.trans (by unfold visit; split <;> simp), fun j => ?_⟩
    · rw [d.num, cnt, hiR]
      unfold visit
      cases hg : grp L i with
      | true => simp; omega
      | false => simp
    · rw [d.out]
      have hpi : ∀ j, fst L i ≤ j → j < i → prec L j i = true := fun j h1 h2 => by
        have := nest hF i hi j h1 (by omega)
        unfold prec
        by_cases h : fst L i < fst L j
        · rw [decide_eq_true h]; rfl
        · rw [decide_eq_false h, Bool.false_or]
          have : (fst L i == fst L j) = true := by rw [beq_iff_eq]; omega
          rw [this, Bool.true_and]; simp; omega
      have hii : prec L i i = true := by unfold prec; simp
      by_cases c1 : fst L i ≤ j ∧ j < fst L i + R ∧ grp L j = true
      · rw [if_pos c1, if_pos ⟨c1.1, by omega, c1.2.2⟩]
        have e : rankIn L (fst L i) (R + 1) j = rankIn L (fst L i) R j + if grp L i then 1 else 0 := by
          unfold rankIn
          rw [cnt, hiR, hpi j c1.1 (by omega), Bool.and_true]
        rw [e]
        unfold visit
        cases hg : grp L i with
        | true => simp; omega
        | false => simp
      · rw [if_neg c1]
        by_cases c2 : j = i
        · subst c2
          cases hg : grp L j with
          | false => rw [if_neg (by simp)]; unfold visit; rw [hg]; rfl
          | true =>
            rw [if_pos ⟨by omega, by omega, rfl⟩]
            have e : rankIn L (fst L j) (R + 1) j = 1 := by
              unfold rankIn
              rw [cnt, hiR, hii, hg, cnt_none fun q h1 h2 => ?_]
              · rfl
              · have := nest hF j hi q h1 (by omega)
                unfold prec
                rw [decide_eq_false (by omega), Bool.false_or, decide_eq_false (by omega), Bool.and_false, Bool.and_false]
            rw [e]
            unfold visit
            rw [hg]
            show (s.2.set j (s.1 + 1)).getD j 0 = s.1 + 1
            rw [List.getD_eq_getElem?_getD, List.getElem?_set_self (by omega)]; rfl
        · rw [if_neg fun c3 => ?_]
          · unfold visit
            cases hg : grp L i with
            | true =>
              show (s.2.set i (s.1 + 1)).getD j 0 = _
              rw [List.getD_eq_getElem?_getD, List.getElem?_set_ne (by omega), List.getD_eq_getElem?_getD]
            | false => rfl
          · exact c1 ⟨c3.1, by omega, c3.2.2⟩
end
theorem walk_mono (L : List Nd) (f i : Nat) (s : Nat × List Nat) : s.1 ≤ (walkN L f i s).1 := by
  induction f generalizing i s with
  | zero => exact Nat.le_refl _
  | succ f ih =>
    rw [walkN]
    have h0 : s.1 ≤ (visit L i s).1 := by unfold visit; split <;> simp
    have : ∀ (K : List Nat) (s : Nat × List Nat), s.1 ≤ (K.foldl (fun s k => walkN L f k s) s).1 := by
      intro K
      induction K with
      | nil => exact fun s => Nat.le_refl _
      | cons k K ihK => exact fun s => Nat.le_trans (ih k s) (ihK _)
    exact Nat.le_trans h0 (this _ _)
theorem fold_mono (L : List Nd) (f : Nat) (K : List Nat) (s : Nat × List Nat) : s.1 ≤ (K.foldl (fun s k => walkN L f k s) s).1 := by
  induction K generalizing s with
  | nil => exact Nat.le_refl _
  | cons k K ih => exact Nat.le_trans (walk_mono L f k s) (ih _)
theorem walk_len (L : List Nd) (f i : Nat) (s : Nat × List Nat) : (walkN L f i s).2.length = s.2.length := by
  induction f generalizing i s with
  | zero => rfl
  | succ f ih =>
    rw [walkN]
    have h0 : (visit L i s).2.length = s.2.length := by unfold visit; split <;> simp
    have : ∀ (K : List Nat) (s : Nat × List Nat), (K.foldl (fun s k => walkN L f k s) s).2.length = s.2.length := by
      intro K
      induction K with
      | nil => exact fun s => rfl
      | cons k K ihK => exact fun s => (ihK _).trans (ih k s)
    exact (this _ _).trans h0
/-- The whole is the last node's thing. -/
theorem root_size {L : List Nd} (hF : formedF L = true) : 0 < L.length ∧ sizeAt L (L.length - 1) = L.length := by
  have h1 : runF L 0 = some 1 := by unfold formedF at hF; simpa using hF
  have h0 : 0 < L.length := by
    cases L with
    | nil => simp [runF] at h1
    | cons x l => simp
  have hst := runF_st L [] 1 h1
  have e : St L L.length = stF L [] := by unfold St; rw [List.take_length]
  rw [← e] at hst
  have h2 := St_succ (L := L) (k := L.length - 1) (by omega)
  rw [show L.length - 1 + 1 = L.length by omega] at h2
  have h3 := St_sum (L := L) (k := L.length) (Nat.le_refl _)
  rw [h2] at hst h3
  have h4 : ((St L (L.length - 1)).drop (L.getD (L.length - 1) ndEmpty).kids.toNat) = [] := List.eq_nil_of_length_eq_zero (by simp at hst ⊢; omega)
  rw [h4] at h3
  refine ⟨h0, by simpa using h3⟩
/-- The groups' numbers. -/
def numsF (L : List Nd) : List Nat := if formedF L then (List.range L.length).map fun j => if grp L j then rankIn L 0 L.length j else 0 else []
theorem numsF_walk {L : List Nd} (hF : formedF L = true) : (walkN L L.length (L.length - 1) (0, List.replicate L.length 0)).2 = numsF L := by
  obtain ⟨h0, h1⟩ := root_size hF
  have d := walk_did hF L.length (L.length - 1) (by omega) (by omega) (0, List.replicate L.length 0) (by simp)
  have hf : fst L (L.length - 1) = 0 := by unfold fst; omega
  rw [h1, hf] at d
  have hl : (walkN L L.length (L.length - 1) (0, List.replicate L.length 0)).2.length = L.length := d.len.trans (by simp)
  unfold numsF
  rw [if_pos hF]
  apply List.ext_getElem (by rw [hl]; simp)
  intro j h2 h3
  have e := d.out j
  rw [List.getD_eq_getElem?_getD, List.getElem?_eq_getElem h2] at e
  have e' : (walkN L L.length (L.length - 1) (0, List.replicate L.length 0)).2[j] = _ := e
  rw [e', List.getElem_map, List.getElem_range]
  cases hg : grp L j with
  | true => rw [if_pos ⟨by omega, by omega, rfl⟩, if_pos rfl]; simp
  | false =>
    rw [if_neg (by simp), if_neg (by simp), List.getD_eq_getElem?_getD, List.getElem?_replicate]
    split <;> rfl
theorem numsF_not {L : List Nd} (hF : formedF L = false) : numsF L = [] := by unfold numsF; rw [if_neg (by rw [hF]; simp)]
theorem numsF_length {L : List Nd} (hF : formedF L = true) : (numsF L).length = L.length := by unfold numsF; rw [if_pos hF]; simp
end AstP
end Go.Proofs.Ytgkfdjfoakbibaa
