/- Plain facts on lists of nodes: each node but the root is one node's kid; each number up to the groups' is one group's. No program is in sight. -/
import Derived.Test.YtddokdjlmdoebaaMAsk
set_option linter.unusedVariables false
set_option linter.unusedSimpArgs false
namespace Go.Proofs.Ytddokdjlmdoebaa
open SetP
namespace AstP
/-- One more at a place. -/
def bump (h : List Nat) (x : Nat) : List Nat := h.set x (h.getD x 0 + 1)
theorem bump_len (h : List Nat) (x : Nat) : (bump h x).length = h.length := by unfold bump; simp
theorem bump_get {h : List Nat} {x : Nat} (hx : x < h.length) (y : Nat) : (bump h x).getD y 0 = h.getD y 0 + if y = x then 1 else 0 := by
  unfold bump
  by_cases e : y = x
  · subst e; rw [if_pos rfl, List.getD_eq_getElem?_getD, List.getElem?_set_self hx]; rfl
  · rw [if_neg e, List.getD_eq_getElem?_getD, List.getElem?_set_ne (by omega), ← List.getD_eq_getElem?_getD]; rfl
theorem bumps_len (K : List Nat) (h : List Nat) : (K.foldl bump h).length = h.length := by
  induction K generalizing h with
  | nil => rfl
  | cons x K ih => rw [List.foldl_cons, ih, bump_len]
theorem bumps_get {K h : List Nat} (hK : ∀ x ∈ K, x < h.length) (hn : K.Nodup) (y : Nat) : (K.foldl bump h).getD y 0 = h.getD y 0 + if y ∈ K then 1 else 0 := by
  induction K generalizing h with
  | nil => simp
  | cons x K ih =>
    rw [List.foldl_cons, ih (fun z hz => by rw [bump_len]; exact hK z (List.mem_cons_of_mem _ hz)) (List.nodup_cons.1 hn).2, bump_get (hK x (List.mem_cons_self ..))]
    by_cases e : y = x
    · subst e
      rw [if_pos rfl, if_neg (List.nodup_cons.1 hn).1, if_pos (List.mem_cons_self ..)]
    · rw [if_neg e]
      by_cases m : y ∈ K
      · rw [if_pos m, if_pos (List.mem_cons_of_mem _ m)]
      · rw [if_neg m, if_neg (by intro h; rcases List.mem_cons.1 h with h | h; exact e h; exact m h)]
def heldL (L : List Nd) : Nat → List Nat
  | 0 => List.replicate L.length 0
  | i + 1 => (kidsF L (i : Int)).foldl bump (heldL L i)
theorem heldL_len (L : List Nd) (i : Nat) : (heldL L i).length = L.length := by
  induction i with
  | zero => simp [heldL]
  | succ i ih => rw [heldL, bumps_len, ih]
/-- What stands, by places, the last one first. -/
def placesF (L : List Nd) (i : Nat) : List Nat := kidsRev L i (St L i).length
theorem places_succ {L : List Nd} {i : Nat} (hF : formedF L = true) (hi : i < L.length) : placesF L (i + 1) = i :: (placesF L i).drop (L.getD i ndEmpty).kids.toNat := by
  unfold placesF kidsRev
  have hs := St_succ hi
  have hl : (St L (i + 1)).length = 1 + ((St L i).length - (L.getD i ndEmpty).kids.toNat) := by rw [hs]; simp; omega
  rw [hl, Nat.add_comm 1, List.range_succ_eq_map, List.map_cons, List.map_map, ← List.map_drop]
  have hd0 : kidAt L (i + 1) 0 = i := by unfold kidAt; simp
  rw [hd0]
  congr 1
  · have hd : (List.range (St L i).length).drop (L.getD i ndEmpty).kids.toNat = (List.range ((St L i).length - (L.getD i ndEmpty).kids.toNat)).map fun m => (L.getD i ndEmpty).kids.toNat + m := by
      apply List.ext_getElem (by simp)
      intro n h1 h2
      simp
    rw [hd, List.map_map]
    apply List.map_congr_left
    intro m _
    simp only [Function.comp]
    unfold kidAt
    rw [hs, List.take_succ_cons, List.sum_cons]
    have e : ((St L i).take ((L.getD i ndEmpty).kids.toNat + m)).sum = ((St L i).take (L.getD i ndEmpty).kids.toNat).sum + (((St L i).drop (L.getD i ndEmpty).kids.toNat).take m).sum := by
      rw [List.take_add, List.sum_append]
    rw [e]
    unfold sizeAt
    omega
theorem places_sorted {L : List Nd} (hF : formedF L = true) (i : Nat) (hi : i ≤ L.length) : (placesF L i).Pairwise (fun a b => b < a) ∧ ∀ x ∈ placesF L i, x < i := by
  induction i with
  | zero =>
    have : placesF L 0 = [] := by unfold placesF St; simp [stF, kidsRev]
    rw [this]; exact ⟨List.Pairwise.nil, by simp⟩
  | succ i ih =>
    obtain ⟨h1, h2⟩ := ih (by omega)
    rw [places_succ hF (by omega)]
    refine ⟨List.pairwise_cons.2 ⟨fun b hb => h2 b (List.mem_of_mem_drop hb), h1.sublist (List.drop_sublist _ _)⟩, fun x hx => ?_⟩
    rcases List.mem_cons.1 hx with rfl | hx
    · omega
    · have := h2 x (List.mem_of_mem_drop hx); omega
theorem kids_places {L : List Nd} {i : Nat} (hF : formedF L = true) (hi : i < L.length) : kidsRev L i (L.getD i ndEmpty).kids.toNat = (placesF L i).take (L.getD i ndEmpty).kids.toNat := by
  have hat := formed_at hF hi
  unfold placesF kidsRev
  rw [← List.map_take, List.take_range, Nat.min_eq_left (by omega)]
theorem nodup_of {l : List Nat} (h : l.Pairwise (fun a b => b < a)) : l.Nodup := h.imp fun h => by omega
theorem nodup_rev {l : List Nat} (h : l.Nodup) : l.reverse.Nodup := by
  unfold List.Nodup at *
  rw [List.pairwise_reverse]
  exact h.imp fun h => fun e => h e.symm
theorem held_get {L : List Nd} (hF : formedF L = true) (i : Nat) (hi : i ≤ L.length) (y : Nat) : (heldL L i).getD y 0 = if y < i ∧ y ∉ placesF L i then 1 else 0 := by
  induction i with
  | zero =>
    rw [heldL, if_neg (by omega), List.getD_eq_getElem?_getD, List.getElem?_replicate]
    split <;> rfl
  | succ i ih =>
    obtain ⟨h1, h2⟩ := places_sorted hF i (by omega)
    rw [heldL, kidsF_at hF (by omega), kids_places hF (by omega)]
    have hnd : ((placesF L i).take (L.getD i ndEmpty).kids.toNat).reverse.Nodup := nodup_rev ((nodup_of h1).sublist (List.take_sublist _ _))
    rw [bumps_get (fun x hx => by
      rw [heldL_len]
      have := h2 x (List.mem_of_mem_take (List.mem_reverse.1 hx)); omega) hnd, ih (by omega), places_succ hF (by omega)]
    have hsplit : ∀ x, x ∈ placesF L i ↔ x ∈ (placesF L i).take (L.getD i ndEmpty).kids.toNat ∨ x ∈ (placesF L i).drop (L.getD i ndEmpty).kids.toNat := fun x => by
      rw [← List.mem_append, List.take_append_drop]
    have hdis : ∀ x, x ∈ (placesF L i).take (L.getD i ndEmpty).kids.toNat → x ∉ (placesF L i).drop (L.getD i ndEmpty).kids.toNat := fun x ha hb => by
      have hn := nodup_of h1
      rw [← List.take_append_drop (L.getD i ndEmpty).kids.toNat (placesF L i)] at hn
      exact (List.nodup_append.1 hn).2.2 x ha x hb rfl
    simp only [List.mem_reverse]
    by_cases c1 : y ∈ (placesF L i).take (L.getD i ndEmpty).kids.toNat
    · have hy := h2 y (List.mem_of_mem_take c1)
      have hh : y < i + 1 ∧ y ∉ i :: (placesF L i).drop (L.getD i ndEmpty).kids.toNat := ⟨by omega, fun h => by
        rcases List.mem_cons.1 h with h | h
        · omega
        · exact hdis y c1 h⟩
      rw [if_neg (by intro h; exact h.2 ((hsplit y).2 (.inl c1))), if_pos c1, if_pos hh]
    · rw [if_neg c1]
      by_cases c2 : y < i ∧ y ∉ placesF L i
      · have hh : y < i + 1 ∧ y ∉ i :: (placesF L i).drop (L.getD i ndEmpty).kids.toNat := ⟨by omega, fun h => by
          rcases List.mem_cons.1 h with h | h
          · omega
          · exact c2.2 ((hsplit y).2 (.inr h))⟩
        rw [if_pos c2, if_pos hh]
      · rw [if_neg c2, if_neg fun h => ?_]
        obtain ⟨h3, h4⟩ := h
        rw [List.mem_cons, not_or] at h4
        refine c2 ⟨by omega, fun h => ?_⟩
        rcases (hsplit y).1 h with h | h
        · exact c1 h
        · exact h4.2 h
theorem held_end {L : List Nd} (hF : formedF L = true) (y : Nat) (hy : y < L.length) : (heldL L L.length).getD y 0 = if y = L.length - 1 then 0 else 1 := by
  have hr := root_size hF
  have h2 := places_succ (L := L) (i := L.length - 1) hF (by omega)
  rw [show L.length - 1 + 1 = L.length by omega] at h2
  have h3 := St_sum (L := L) (k := L.length) (Nat.le_refl _)
  have h4 : (placesF L L.length).length = 1 := by
    have h1 : runF L 0 = some 1 := by unfold formedF at hF; simpa using hF
    have hst := runF_st L [] 1 h1
    have e : St L L.length = stF L [] := by unfold St; rw [List.take_length]
    rw [← e] at hst
    unfold placesF
    rw [kidsRev_length]; omega
  have h5 : placesF L L.length = [L.length - 1] := by
    rw [h2] at h4 ⊢
    have e : (placesF L (L.length - 1)).drop (L.getD (L.length - 1) ndEmpty).kids.toNat = [] := List.eq_nil_of_length_eq_zero (by simpa using h4)
    rw [e]
  rw [held_get hF L.length (Nat.le_refl _), h5]
  by_cases e : y = L.length - 1
  · rw [if_pos e, if_neg (by simp [e])]
  · rw [if_neg e, if_pos ⟨hy, by simpa using e⟩]

/-- Each number up to the groups' is one group's. -/
theorem cnt_sub {p q : Nat → Bool} {a n : Nat} (h : ∀ k, a ≤ k → k < a + n → p k = true → q k = true) : cnt p a n ≤ cnt q a n := by
  induction n with
  | zero => exact Nat.le_refl _
  | succ n ih =>
    have h1 := ih fun k h1 h2 => h k h1 (by omega)
    have h2 := h (a + n) (by omega) (by omega)
    rw [cnt, cnt]
    cases hp : p (a + n) with
    | true => rw [h2 hp]; simp; omega
    | false => simp; split <;> omega
theorem cnt_lt {p q : Nat → Bool} {a n j : Nat} (h : ∀ k, a ≤ k → k < a + n → p k = true → q k = true) (h1 : a ≤ j) (h2 : j < a + n) (hp : p j = false) (hq : q j = true) : cnt p a n < cnt q a n := by
  have e : n = (j - a) + ((n - (j - a) - 1) + 1) := by omega
  have s : ∀ r : Nat → Bool, cnt r a n = cnt r a (j - a) + ((if r j then 1 else 0) + cnt r (j + 1) (n - (j - a) - 1)) := fun r => by
    conv => lhs; rw [e]
    rw [cnt_add, Nat.add_comm (n - (j - a) - 1) 1, cnt_add]
    have e1 : a + (j - a) = j := by omega
    rw [e1]
    simp [cnt]
  rw [s p, s q, hp, hq]
  have g1 := cnt_sub (p := p) (q := q) (a := a) (n := j - a) fun k g1 g2 => h k g1 (by omega)
  have g2 := cnt_sub (p := p) (q := q) (a := j + 1) (n := n - (j - a) - 1) fun k g1 g2 => h k (by omega) (by omega)
  simp; omega
section
variable {L : List Nd}
theorem prec_self (L : List Nd) (j : Nat) : prec L j j = true := by unfold prec; simp
theorem prec_iff (L : List Nd) (j k : Nat) : prec L j k = true ↔ fst L k < fst L j ∨ (fst L k = fst L j ∧ j ≤ k) := by
  unfold prec; simp
theorem rank_lt {j k : Nat} (hj : j < L.length) (hg : grp L j = true) (h : prec L j k = true) (hne : k ≠ j) : rankIn L 0 L.length k < rankIn L 0 L.length j := by
  have h' := (prec_iff L j k).1 h
  refine cnt_lt (j := j) (fun q _ _ hq => ?_) (by omega) (by omega) ?_ ?_
  · simp only [Bool.and_eq_true] at hq ⊢
    have hq' := (prec_iff L k q).1 hq.2
    exact ⟨hq.1, (prec_iff L j q).2 (by omega)⟩
  · have : prec L k j = false := by
      rw [Bool.eq_false_iff]; intro h2
      have h2' := (prec_iff L k j).1 h2
      omega
    rw [this, Bool.and_false]
  · rw [hg, prec_self]; rfl
theorem rank_inj {j k : Nat} (hj : j < L.length) (hk : k < L.length) (gj : grp L j = true) (gk : grp L k = true) (h : rankIn L 0 L.length j = rankIn L 0 L.length k) : j = k := by
  by_cases e : j = k
  · exact e
  · exfalso
    cases hp : prec L j k with
    | true => have := rank_lt hj gj hp (fun h => e h.symm); omega
    | false =>
      have hq : prec L k j = true := by
        rw [prec_iff]
        have : ¬ _ := fun h => by rw [(prec_iff L j k).2 h] at hp; cases hp
        omega
      have := rank_lt hk gk hq e; omega
theorem rank_bd {j : Nat} (hj : j < L.length) (gj : grp L j = true) : 1 ≤ rankIn L 0 L.length j ∧ rankIn L 0 L.length j ≤ cnt (grp L) 0 L.length := by
  constructor
  · have := cnt_lt (p := fun _ => false) (q := fun k => grp L k && prec L j k) (a := 0) (n := L.length) (j := j) (fun _ _ _ h => by cases h) (by omega) (by omega) rfl (by rw [gj, prec_self]; rfl)
    unfold rankIn; omega
  · exact cnt_sub fun k _ _ h => by simp only [Bool.and_eq_true] at h; exact h.1
/-- How many groups among the first n nodes have the number r. -/
def toldN (L : List Nd) (n r : Nat) : Nat := cnt (fun j => grp L j && rankIn L 0 L.length j == r) 0 n
def sumTo (f : Nat → Nat) : Nat → Nat
  | 0 => 0
  | g + 1 => sumTo f g + f (g + 1)
theorem sumTo_one {f : Nat → Nat} {r : Nat} (h : ∀ n, f n = if n = r then 1 else 0) (g : Nat) (h1 : 1 ≤ r) (h2 : r ≤ g) : sumTo f g = 1 := by
  have zero : ∀ g, g < r → sumTo f g = 0 := by
    intro g
    induction g with
    | zero => intro _; rfl
    | succ g ih => intro hg; rw [sumTo, ih (by omega), h, if_neg (by omega)]
  induction g with
  | zero => omega
  | succ g ih =>
    rw [sumTo, h]
    by_cases e : g + 1 = r
    · rw [if_pos e, zero g (by omega)]
    · rw [if_neg e, ih (by omega)]
theorem sumTo_add (f k : Nat → Nat) (g : Nat) : sumTo (fun n => f n + k n) g = sumTo f g + sumTo k g := by
  induction g with
  | zero => rfl
  | succ g ih => rw [sumTo, sumTo, sumTo, ih]; omega
theorem sumTo_zero (g : Nat) : sumTo (fun _ => 0) g = 0 := by
  induction g with
  | zero => rfl
  | succ g ih => rw [sumTo, ih]
theorem told_sum (n : Nat) (hn : n ≤ L.length) : sumTo (toldN L n) (cnt (grp L) 0 L.length) = cnt (grp L) 0 n := by
  induction n with
  | zero =>
    have : toldN L 0 = fun _ => 0 := rfl
    rw [this, sumTo_zero]; rfl
  | succ n ih =>
    have e : toldN L (n + 1) = fun r => toldN L n r + if (grp L n && rankIn L 0 L.length n == r) then 1 else 0 := by
      funext r; unfold toldN; rw [cnt, Nat.zero_add]
    rw [e, sumTo_add, ih (by omega), cnt, Nat.zero_add]
    cases hg : grp L n with
    | false => simp [sumTo_zero]
    | true =>
      have hb := rank_bd (L := L) (j := n) (by omega) hg
      rw [sumTo_one (r := rankIn L 0 L.length n) (fun m => by
        by_cases h : m = rankIn L 0 L.length n
        · rw [if_pos h, if_pos (by simp [h])]
        · rw [if_neg h, if_neg (by simp; omega)]) _ hb.1 hb.2]
      simp
theorem told_le (n r : Nat) (hn : n ≤ L.length) : toldN L n r ≤ 1 := by
  induction n with
  | zero => exact Nat.zero_le _
  | succ n ih =>
    have ih' := ih (by omega)
    unfold toldN at ih' ⊢
    rw [cnt, Nat.zero_add]
    cases hc : (grp L n && rankIn L 0 L.length n == r) with
    | false => simpa using ih'
    | true =>
      simp only [Bool.and_eq_true, beq_iff_eq] at hc
      have : cnt (fun j => grp L j && rankIn L 0 L.length j == r) 0 n = 0 := cnt_none fun k _ hk => by
        rw [Bool.eq_false_iff]
        intro h
        simp only [Bool.and_eq_true, beq_iff_eq] at h
        have := rank_inj (L := L) (j := k) (k := n) (by omega) (by omega) h.1 hc.1 (by omega)
        omega
      rw [this]; simp
theorem sum_full {f : Nat → Nat} (h : ∀ n, f n ≤ 1) (g : Nat) (hs : sumTo f g = g) : ∀ n, 1 ≤ n → n ≤ g → f n = 1 := by
  have le : ∀ g, sumTo f g ≤ g := by
    intro g
    induction g with
    | zero => exact Nat.le_refl _
    | succ g ih => rw [sumTo]; have := h (g + 1); omega
  induction g with
  | zero => intro n h1 h2; omega
  | succ g ih =>
    rw [sumTo] at hs
    have h1 := h (g + 1)
    have h2 := le g
    intro n g1 g2
    by_cases e : n = g + 1
    · subst e; omega
    · exact ih (by omega) n g1 (by omega)
theorem told_one (r : Nat) (h1 : 1 ≤ r) (h2 : r ≤ cnt (grp L) 0 L.length) : toldN L L.length r = 1 :=
  sum_full (fun n => told_le L.length n (Nat.le_refl _)) _ (told_sum L.length (Nat.le_refl _)) r h1 h2
end
theorem groups_cnt (L : List Nd) (k : Nat) : groupsF L k = cnt (grp L) 0 k := by
  induction k with
  | zero => rfl
  | succ k ih => rw [groupsF, cnt, Nat.zero_add, ih]; unfold grp; split <;> simp_all
end AstP
end Go.Proofs.Ytddokdjlmdoebaa
