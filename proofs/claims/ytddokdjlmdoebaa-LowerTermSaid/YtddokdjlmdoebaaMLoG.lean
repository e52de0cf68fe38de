/- Plain facts on terms of trees: what is made is a term. No program is in sight. -/
import Derived.Test.YtddokdjlmdoebaaMLoV
import Derived.Test.YtddokdjlmdoebaaMLoD
set_option linter.unusedVariables false
set_option linter.unusedSimpArgs false
namespace Go.Proofs.Ytddokdjlmdoebaa
open SetP AstP
namespace LowP
theorem getD_left {α : Type _} {l m : List α} {i : Nat} {d : α} (h : i < l.length) : (l ++ m).getD i d = l.getD i d := by
  rw [List.getD_eq_getElem?_getD, List.getD_eq_getElem?_getD, List.getElem?_append_left h]
theorem getD_right {α : Type _} {l m : List α} {i : Nat} {d : α} : (l ++ m).getD (l.length + i) d = m.getD i d := by
  rw [List.getD_eq_getElem?_getD, List.getD_eq_getElem?_getD, List.getElem?_append_right (by omega), Nat.add_sub_cancel_left]
theorem getD_sh {d : Nat} {l : List Tm} {i : Nat} (h : i < l.length) : (shL d l).getD i tmE = shT d (l.getD i tmE) := by
  unfold shL
  rw [List.getD_eq_getElem?_getD, List.getD_eq_getElem?_getD, List.getElem?_map, List.getElem?_eq_getElem h]; rfl
theorem getD_add {d : Nat} {l : List Nat} {i : Nat} (h : i < l.length) : (l.map (· + d)).getD i 0 = l.getD i 0 + d := by
  rw [List.getD_eq_getElem?_getD, List.getD_eq_getElem?_getD, List.getElem?_map, List.getElem?_eq_getElem h]; rfl
/-- A node of a block is right where it stands. -/
structure AtOk (L : List Tm) (lo : List Nat) (i : Nat) : Prop where
  low : LowOk (L.getD i tmE) i (lo.take i) (lo.getD i 0)
  fld : FieldsOk (L.getD i tmE)
  dn : lo.getD i 0 ≤ i
  ag : (L.getD i tmE).kind = 7 → ∀ y ∈ (L.take i).drop (lo.getD i 0), y.kind = 7 → y.n ≠ (L.getD i tmE).n
  st : (L.getD i tmE).kind = 5 → (L.getD (L.getD i tmE).a.toNat tmE).kind = 8
  my : (L.getD i tmE).kind = 6 → (L.getD (L.getD i tmE).a.toNat tmE).kind = 8 ∨ ((L.getD (L.getD i tmE).a.toNat tmE).kind = 3 ∧ (L.getD (L.getD (L.getD i tmE).a.toNat tmE).a.toNat tmE).kind = 8)
theorem low_one_of {x : Tm} {i : Nat} {ah : List Nat} {v : Nat} (h : LowOk x i ah v) (hk : x.kind = 5 ∨ x.kind = 6) : ∃ p : Nat, i = p + 1 ∧ x.a = p := by
  cases h with
  | leaf k => rcases hk with e | e <;> rcases k with f | f <;> rw [e] at f <;> cases f
  | two k => rcases hk with e | e <;> rcases k with f | f <;> rw [e] at f <;> cases f
  | one k p hi hb ha hv => exact ⟨p, hi, ha⟩
theorem low_two_of {x : Tm} {i : Nat} {ah : List Nat} {v : Nat} (h : LowOk x i ah v) (hl : ah.length = i) (hk : x.kind = 3) : ∃ q : Nat, q < i ∧ x.a = q := by
  cases h with
  | leaf k => rcases k with f | f <;> rw [hk] at f <;> cases f
  | two k p q hi hb hp ha hq hv => exact ⟨q, by omega, ha⟩
  | one k => rcases k with f | f | f | f <;> rw [hk] at f <;> cases f
theorem AtOk.left {L R : List Tm} {lo ro : List Nat} {i : Nat} (hl : lo.length = L.length) (hi : i < L.length) (hall : ∀ j, j ≤ i → AtOk L lo j) : AtOk (L ++ R) (lo ++ ro) i := by
  have h := hall i (Nat.le_refl _)
  have e1 : (L ++ R).getD i tmE = L.getD i tmE := getD_left hi
  have e2 : (lo ++ ro).getD i 0 = lo.getD i 0 := getD_left (by omega)
  have e3 : (lo ++ ro).take i = lo.take i := by rw [List.take_append_of_le_length (by omega)]
  have e4 : (L ++ R).take i = L.take i := by rw [List.take_append_of_le_length (by omega)]
  have e5 : (L.getD i tmE).kind = 5 ∨ (L.getD i tmE).kind = 6 → (L ++ R).getD (L.getD i tmE).a.toNat tmE = L.getD (L.getD i tmE).a.toNat tmE ∧ (L.getD i tmE).a.toNat < i := fun hk => by
    obtain ⟨p, hp, ha⟩ := low_one_of h.low hk
    rw [ha, Int.toNat_natCast]
    exact ⟨getD_left (by omega), by omega⟩
  constructor
  · rw [e1, e2, e3]; exact h.low
  · rw [e1]; exact h.fld
  · rw [e2]; exact h.dn
  · rw [e1, e2, e4]; exact h.ag
  · rw [e1]; intro hk; rw [(e5 (.inl hk)).1]; exact h.st hk
  · rw [e1]; intro hk
    obtain ⟨e6, e7⟩ := e5 (.inr hk)
    rw [e6]
    rcases h.my hk with m | ⟨m1, m2⟩
    · exact .inl m
    · refine .inr ⟨m1, ?_⟩
      generalize (L.getD i tmE).a.toNat = j at *
      have hj := (hall j (by omega)).low
      obtain ⟨q, hq, hqa⟩ := low_two_of hj (by rw [List.length_take]; omega) m1
      rw [hqa, Int.toNat_natCast] at m2 ⊢
      rw [getD_left (by omega)]; exact m2
theorem low_shift {x : Tm} {k d : Nat} {ah lp : List Nat} {v : Nat} (h : LowOk x k ah v) (hl : ah.length = k) (hd : lp.length = d) : LowOk (shT d x) (d + k) (lp ++ ah.map (· + d)) (v + d) := by
  subst hd
  have sh : ∀ n : Nat, shI lp.length (n : Int) = ((lp.length + n : Nat) : Int) := fun n => by unfold shI; rw [if_pos (by omega)]; omega
  have sn : shI lp.length (-1) = -1 := by unfold shI; rw [if_neg (by decide)]
  have gt : ∀ p, p < ah.length → (lp ++ ah.map (· + lp.length)).getD (lp.length + p) 0 = ah.getD p 0 + lp.length := fun p hp => by rw [getD_right, getD_add hp]
  cases h with
  | leaf hk ha hb hv => exact .leaf hk (by show shI _ x.a = _; rw [ha, sn]) (by show shI _ x.b = _; rw [hb, sn]) (by omega)
  | two hk p q hi hb hp ha hq hv =>
    refine .two hk (lp.length + p) (lp.length + q) (by omega) (by show shI _ x.b = _; rw [hb, sh]) ?_ (by show shI _ x.a = _; rw [ha, sh]) (by rw [List.length_append, List.length_map]; omega) ?_
    · rw [gt p (by omega), hp]; omega
    · rw [gt q hq, hv]
  | one hk p hi hb ha hv =>
    refine .one hk (lp.length + p) (by omega) (by show shI _ x.b = _; rw [hb, sn]) (by show shI _ x.a = _; rw [ha, sh]) ?_
    rw [gt p (by omega), hv]
theorem AtOk.right {L R : List Tm} {lo ro : List Nat} {k : Nat} (hl : lo.length = L.length) (hr : ro.length = R.length) (hk : k < R.length) (hall : ∀ j, j ≤ k → AtOk R ro j) :
    AtOk (L ++ shL L.length R) (lo ++ ro.map (· + L.length)) (L.length + k) := by
  have h := hall k (Nat.le_refl _)
  have g : ∀ j, j < R.length → (L ++ shL L.length R).getD (L.length + j) tmE = shT L.length (R.getD j tmE) := fun j hj => by rw [getD_right, getD_sh hj]
  have e1 := g k hk
  have e2 : (lo ++ ro.map (· + L.length)).getD (L.length + k) 0 = ro.getD k 0 + L.length := by rw [← hl, getD_right, hl, getD_add (by omega)]
  have e3 : (lo ++ ro.map (· + L.length)).take (L.length + k) = lo ++ (ro.take k).map (· + L.length) := by
    rw [List.take_append, List.take_of_length_le (by omega), List.map_take]; congr 2; omega
  have e4 : ((L ++ shL L.length R).take (L.length + k)).drop (ro.getD k 0 + L.length) = shL L.length ((R.take k).drop (ro.getD k 0)) := by
    rw [List.take_append, List.take_of_length_le (by omega), List.drop_append]
    rw [List.drop_of_length_le (by omega)]
    unfold shL
    rw [List.nil_append, ← List.map_take, ← List.map_drop]
    congr 2
    · omega
    · congr 1; omega
  have e5 : ∀ n : Nat, n < R.length → (L ++ shL L.length R).getD (shI L.length (n : Int)).toNat tmE = shT L.length (R.getD n tmE) := fun n hn => by
    have : (shI L.length (n : Int)).toNat = L.length + n := by unfold shI; rw [if_pos (by omega)]; omega
    rw [this]; exact g n hn
  constructor
  · rw [e1, e2, e3]; exact low_shift h.low (by rw [List.length_take]; omega) hl
  · rw [e1]; exact ⟨h.fld.set, h.fld.n, h.fld.g⟩
  · rw [e2]; have := h.dn; omega
  · rw [e1, e2, e4]
    intro h7 y hy hy7
    unfold shL at hy
    obtain ⟨z, hz, rfl⟩ := List.mem_map.1 hy
    exact h.ag h7 z hz hy7
  · rw [e1]; intro h5
    obtain ⟨p, hp, ha⟩ := low_one_of h.low (.inl h5)
    have := h.st h5
    show ((L ++ shL L.length R).getD (shI L.length (R.getD k tmE).a).toNat tmE).kind = 8
    rw [ha, Int.toNat_natCast] at this
    rw [ha, e5 p (by omega)]; exact this
  · rw [e1]; intro h6
    obtain ⟨p, hp, ha⟩ := low_one_of h.low (.inr h6)
    have hm := h.my h6
    show ((L ++ shL L.length R).getD (shI L.length (R.getD k tmE).a).toNat tmE).kind = 8 ∨ (((L ++ shL L.length R).getD (shI L.length (R.getD k tmE).a).toNat tmE).kind = 3 ∧ ((L ++ shL L.length R).getD ((L ++ shL L.length R).getD (shI L.length (R.getD k tmE).a).toNat tmE).a.toNat tmE).kind = 8)
    rw [ha, Int.toNat_natCast] at hm
    rw [ha, e5 p (by omega)]
    rcases hm with m | ⟨m1, m2⟩
    · exact .inl m
    · refine .inr ⟨m1, ?_⟩
      obtain ⟨q, hq, hqa⟩ := low_two_of (hall p (by omega)).low (by rw [List.length_take]; omega) m1
      show ((L ++ shL L.length R).getD (shI L.length (R.getD p tmE).a).toNat tmE).kind = 8
      rw [hqa, Int.toNat_natCast] at m2
      rw [hqa, e5 q (by omega)]; exact m2
/-- Blocks, side by side. -/
structure Pre (L : List Tm) (lo : List Nat) : Prop where
  len : lo.length = L.length
  at_ : ∀ i, i < L.length → AtOk L lo i
theorem Pre.app {L R : List Tm} {lo ro : List Nat} (h : Pre L lo) (g : Pre R ro) : Pre (L ++ shL L.length R) (lo ++ ro.map (· + L.length)) := by
  refine ⟨by rw [List.length_append, List.length_append, List.length_map, shL_length, h.len, g.len], fun i hi => ?_⟩
  rw [List.length_append, shL_length] at hi
  by_cases c : i < L.length
  · exact AtOk.left h.len c fun j hj => h.at_ j (by omega)
  · have := AtOk.right h.len g.len (k := i - L.length) (by omega) fun j hj => g.at_ j (by omega)
    rw [show L.length + (i - L.length) = i by omega] at this
    exact this
theorem getD_last {α : Type _} {l : List α} {x d : α} : (l ++ [x]).getD l.length d = x := by
  rw [List.getD_eq_getElem?_getD, List.getElem?_append_right (Nat.le_refl _), Nat.sub_self]; rfl
theorem Pre.snoc {L : List Tm} {lo : List Nat} (h : Pre L lo) {t : Tm} {v : Nat} (hlow : LowOk t L.length lo v) (hf : FieldsOk t) (hv : v ≤ L.length)
    (hag : t.kind = 7 → ∀ y ∈ L.drop v, y.kind = 7 → y.n ≠ t.n) (hst : t.kind = 5 → (L.getD t.a.toNat tmE).kind = 8)
    (hmy : t.kind = 6 → (L.getD t.a.toNat tmE).kind = 8 ∨ ((L.getD t.a.toNat tmE).kind = 3 ∧ (L.getD (L.getD t.a.toNat tmE).a.toNat tmE).kind = 8)) : Pre (L ++ [t]) (lo ++ [v]) := by
  refine ⟨by simp [h.len], fun i hi => ?_⟩
  rw [List.length_append] at hi
  simp only [List.length_singleton] at hi
  by_cases c : i < L.length
  · exact AtOk.left h.len c fun j hj => h.at_ j (by omega)
  · obtain rfl : i = L.length := by omega
    have e1 : (L ++ [t]).getD L.length tmE = t := getD_last
    have e2 : (lo ++ [v]).getD L.length 0 = v := by rw [← h.len]; exact getD_last
    have e3 : (lo ++ [v]).take L.length = lo := by rw [← h.len]; simp
    have e4 : (L ++ [t]).take L.length = L := by simp
    constructor
    · rw [e1, e2, e3]; exact hlow
    · rw [e1]; exact hf
    · rw [e2]; exact hv
    · rw [e1, e2, e4]; exact hag
    · rw [e1]; intro hk
      obtain ⟨p, hp, ha⟩ := low_one_of hlow (.inl hk)
      have := hst hk
      rw [ha, Int.toNat_natCast] at this ⊢
      rw [getD_left (by omega)]; exact this
    · rw [e1]; intro hk
      obtain ⟨p, hp, ha⟩ := low_one_of hlow (.inr hk)
      have := hmy hk
      rw [ha, Int.toNat_natCast] at this ⊢
      rw [getD_left (by omega)]
      rcases this with m | ⟨m1, m2⟩
      · exact .inl m
      · refine .inr ⟨m1, ?_⟩
        obtain ⟨q, hq, hqa⟩ := low_two_of (h.at_ p (by omega)).low (by rw [List.length_take, h.len]; omega) m1
        rw [hqa, Int.toNat_natCast] at m2 ⊢
        rw [getD_left (by omega)]; exact m2
/-- A block: the term of a node. -/
structure Blk (L : List Tm) : Prop where
  pos : 0 < L.length
  ex : ∃ lo, Pre L lo ∧ lo.getD (L.length - 1) 0 = 0
theorem flds_u {k n : Int} (h : k = 5 ∨ k = 6 ∨ k = 7 ∨ k = 8) (hn : k ≠ 7 → n = 0) (hg : k = 7 → 1 ≤ n ∧ n ≤ 9) (a : Int) : FieldsOk (tmU k a n) := ⟨fun _ => rfl, hn, hg⟩
theorem Blk.una {l : List Tm} (h : Blk l) {k n : Int} (hk : k = 5 ∨ k = 6 ∨ k = 7 ∨ k = 8) (hn : k ≠ 7 → n = 0) (hg : k = 7 → (1 ≤ n ∧ n ≤ 9) ∧ ∀ y ∈ l, y.kind = 7 → y.n ≠ n)
    (hst : k = 5 → (l.getD (l.length - 1) tmE).kind = 8) (hmy : k = 6 → (l.getD (l.length - 1) tmE).kind = 8 ∨ ((l.getD (l.length - 1) tmE).kind = 3 ∧ (l.getD (l.getD (l.length - 1) tmE).a.toNat tmE).kind = 8)) : Blk (unaT l k n) := by
  obtain ⟨hp, lo, hP, ht⟩ := h
  have ea : ((l.length : Int) - 1) = ((l.length - 1 : Nat) : Int) := by omega
  refine ⟨by rw [unaT_length]; omega, lo ++ [0], ?_, ?_⟩
  · unfold unaT
    rw [ea]
    refine hP.snoc (.one hk (l.length - 1) (by omega) rfl rfl ht.symm) (flds_u hk hn (fun e => (hg e).1) _) (Nat.zero_le _) (fun e => (hg e).2) ?_ ?_
    · intro e; show (l.getD ((l.length - 1 : Nat) : Int).toNat tmE).kind = 8; rw [Int.toNat_natCast]; exact hst e
    · intro e; show (l.getD ((l.length - 1 : Nat) : Int).toNat tmE).kind = 8 ∨ _; rw [show (tmU k ((l.length - 1 : Nat) : Int) n).a.toNat = l.length - 1 from Int.toNat_natCast _, Int.toNat_natCast]; exact hmy e
  · rw [unaT_length, show l.length + 1 - 1 = lo.length by have := hP.len; omega]; exact getD_last
theorem Blk.two {p r : List Tm} (hp : Blk p) (hr : Blk r) {k : Int} (hk : k = 3 ∨ k = 4) : Blk (twoT k p r) := by
  obtain ⟨pp, lo, hP, ht⟩ := hp
  obtain ⟨rp, ro, hR, hu⟩ := hr
  have hA := hP.app hR
  have hl : (p ++ shL p.length r).length = p.length + r.length := by rw [List.length_append, shL_length]
  have e1 : ((p.length : Int) - 1) = ((p.length - 1 : Nat) : Int) := by omega
  have e2 : ((p.length : Int) + r.length - 1) = ((p.length + r.length - 1 : Nat) : Int) := by omega
  have hll := hP.len
  have hrl := hR.len
  have n5 : k ≠ 5 ∧ k ≠ 6 ∧ k ≠ 7 ∧ k ≠ 2 := by rcases hk with rfl | rfl <;> decide
  refine ⟨by rw [twoT_length]; omega, (lo ++ ro.map (· + p.length)) ++ [0], ?_, ?_⟩
  · unfold twoT
    rw [e1, e2]
    refine hA.snoc (.two hk (p.length + r.length - 1) (p.length - 1) (by rw [hl]; omega) rfl ?_ rfl (by rw [List.length_append]; omega) ?_) ⟨fun _ => rfl, fun _ => rfl, fun e => absurd e n5.2.2.1⟩ (Nat.zero_le _) (fun e => absurd e n5.2.2.1) (fun e => absurd e n5.1) (fun e => absurd e n5.2.1)
    · rw [show p.length + r.length - 1 = lo.length + (r.length - 1) by omega, getD_right, getD_add (by omega), hu]; omega
    · rw [getD_left (by omega), ht]
  · rw [twoT_length, show p.length + r.length + 1 - 1 = (lo ++ ro.map (· + p.length)).length by rw [List.length_append, List.length_map]; omega]; exact getD_last
theorem Blk.one {t : Tm} (h : t = tmE ∨ ∃ f, t = tmL f) : Blk [t] := by
  refine ⟨by simp, [0], ⟨rfl, fun i hi => ?_⟩, rfl⟩
  obtain rfl : i = 0 := by simpa using hi
  rcases h with rfl | ⟨f, rfl⟩
  · exact ⟨.leaf (.inl rfl) rfl rfl rfl, ⟨fun _ => rfl, fun _ => rfl, fun e => (by cases e)⟩, Nat.le_refl _, fun e => (by cases e), fun e => (by cases e), fun e => (by cases e)⟩
  · exact ⟨.leaf (.inr rfl) rfl rfl rfl, ⟨fun e => absurd rfl e, fun _ => rfl, fun e => (by cases e)⟩, Nat.le_refl _, fun e => (by cases e), fun e => (by cases e), fun e => (by cases e)⟩
theorem Blk.join {k : Int} (hk : k = 3 ∨ k = 4) (P : List (List Tm)) (hne : P ≠ []) (h : ∀ p ∈ P, Blk p) : Blk (joinT k P) := by
  induction P with
  | nil => exact absurd rfl hne
  | cons p P ih =>
    cases P with
    | nil => exact h p (by simp)
    | cons q P => exact (h p (by simp)).two (ih (by simp) fun x hx => h x (by simp [hx])) hk
/-- A block whose last node is an Iter. -/
theorem last_una (l : List Tm) (k n : Int) : (unaT l k n).getD ((unaT l k n).length - 1) tmE = tmU k ((l.length : Int) - 1) n := by
  rw [unaT_length, Nat.add_sub_cancel]; exact getD_last
theorem last_two (k : Int) (p r : List Tm) : (twoT k p r).getD ((twoT k p r).length - 1) tmE = tmB k ((p.length : Int) - 1) ((p.length : Int) + r.length - 1) := by
  have : (twoT k p r).length - 1 = (p ++ shL p.length r).length := by rw [twoT_length, List.length_append, shL_length]; omega
  rw [this]; exact getD_last
theorem Blk.lacks {one : List Tm} (h : Blk one) (hi : (one.getD (one.length - 1) tmE).kind = 8) (n : Nat) : Blk (lacksT one n) := by
  induction n with
  | zero => exact h.una (.inr (.inl rfl)) (fun _ => rfl) (fun e => (by cases e)) (fun e => (by cases e)) (fun _ => .inl hi)
  | succ n ih =>
    refine (h.two ih (.inl rfl)).una (.inr (.inl rfl)) (fun _ => rfl) (fun e => (by cases e)) (fun e => (by cases e)) (fun _ => .inr ?_)
    rw [last_two]
    refine ⟨rfl, ?_⟩
    have hp := h.pos
    show ((twoT 3 one (lacksT one n)).getD ((one.length : Int) - 1).toNat tmE).kind = 8
    rw [show ((one.length : Int) - 1).toNat = one.length - 1 by omega]
    unfold twoT
    rw [List.append_assoc, getD_left (by omega)]; exact hi
theorem Blk.rep {X : List Tm} (h : Blk X) {n m : Int} {nl : Bool} (hr : rightB n m = true) : Blk (repT X n m nl) := by
  unfold repT
  cases hm : (m == 0) with
  | true => exact Blk.one (.inl rfl)
  | false =>
    rw [if_neg (by decide)]
    have hm0 : m ≠ 0 := by intro e; rw [e] at hm; exact absurd hm (by decide)
    have h1 : Blk (unaT X 8 0) := h.una (.inr (.inr (.inr rfl))) (fun _ => rfl) (fun e => (by cases e)) (fun e => (by cases e)) (fun e => (by cases e))
    have hl : ((unaT X 8 0).getD ((unaT X 8 0).length - 1) tmE).kind = 8 := by rw [last_una]; rfl
    refine Blk.join (.inl rfl) _ (partsT_ne hr hm0) fun p hp => ?_
    unfold partsT at hp
    rw [List.mem_append] at hp
    rcases hp with hp | hp
    · rw [(List.mem_replicate.1 hp).2]; exact h1
    · split at hp
      · rw [List.mem_singleton.1 hp]; exact h1.una (.inl rfl) (fun _ => rfl) (fun e => (by cases e)) (fun _ => hl) (fun e => (by cases e))
      · split at hp
        · rw [List.mem_singleton.1 hp]; exact h1.lacks hl _
        · cases hp
/-- The numbers of a block's groups have a property. -/
def Num (S : Int → Prop) (l : List Tm) : Prop := ∀ y ∈ l, y.kind = 7 → S y.n
theorem Num.sh {S : Int → Prop} {l : List Tm} (h : Num S l) (d : Nat) : Num S (shL d l) := fun y hy h7 => by
  unfold shL at hy
  obtain ⟨z, hz, rfl⟩ := List.mem_map.1 hy
  exact h z hz h7
theorem Num.una {S : Int → Prop} {l : List Tm} (h : Num S l) {k n : Int} (hk : k = 7 → S n) : Num S (unaT l k n) := fun y hy h7 => by
  unfold unaT at hy
  rcases List.mem_append.1 hy with hy | hy
  · exact h y hy h7
  · rw [List.mem_singleton.1 hy] at h7 ⊢; exact hk h7
theorem Num.two {S : Int → Prop} {p r : List Tm} (hp : Num S p) (hr : Num S r) {k : Int} (hk : k ≠ 7) : Num S (twoT k p r) := fun y hy h7 => by
  unfold twoT at hy
  rcases List.mem_append.1 hy with hy | hy
  · rcases List.mem_append.1 hy with hy | hy
    · exact hp y hy h7
    · exact hr.sh _ y hy h7
  · rw [List.mem_singleton.1 hy] at h7; exact absurd h7 hk
theorem Num.join {S : Int → Prop} {k : Int} (hk : k ≠ 7) (P : List (List Tm)) (h : ∀ p ∈ P, Num S p) : Num S (joinT k P) := by
  induction P with
  | nil => intro y hy; cases hy
  | cons p P ih =>
    cases P with
    | nil => exact h p (by simp)
    | cons q P => exact (h p (by simp)).two (ih fun x hx => h x (by simp [hx])) hk
theorem Num.lacks {S : Int → Prop} {one : List Tm} (h : Num S one) (n : Nat) : Num S (lacksT one n) := by
  induction n with
  | zero => exact h.una fun e => (by cases e)
  | succ n ih => exact (h.two ih (by decide)).una fun e => (by cases e)
theorem Num.rep {S : Int → Prop} {X : List Tm} (h : Num S X) {n m : Int} {nl : Bool} : Num S (repT X n m nl) := by
  unfold repT
  split
  · intro y hy; rw [List.mem_singleton.1 hy]; intro e; cases e
  · have h1 : Num S (unaT X 8 0) := h.una fun e => (by cases e)
    refine Num.join (by decide) _ fun p hp => ?_
    unfold partsT at hp
    rw [List.mem_append] at hp
    rcases hp with hp | hp
    · rw [(List.mem_replicate.1 hp).2]; exact h1
    · split at hp
      · rw [List.mem_singleton.1 hp]; exact h1.una fun e => (by cases e)
      · split at hp
        · rw [List.mem_singleton.1 hp]; exact h1.lacks _
        · cases hp
theorem Num.mono {S T : Int → Prop} {l : List Tm} (h : Num S l) (hST : ∀ n, S n → T n) : Num T l := fun y hy h7 => hST _ (h y hy h7)
/-- The kids of a node stand within it. -/
theorem kid_in {L : List Nd} (hF : formedF L = true) {i j : Nat} (hi : i < L.length) (hj : j ∈ kidsF L (i : Int)) : fst L i ≤ fst L j ∧ j < i := by
  refine ⟨?_, kidsF_lt hF hi hj⟩
  rw [kidsF_at hF hi, List.mem_reverse] at hj
  obtain ⟨m, hm, rfl⟩ : ∃ m, m < (L.getD i ndEmpty).kids.toNat ∧ kidAt L i m = j := by
    unfold kidsRev at hj
    obtain ⟨m, hm, e⟩ := List.mem_map.1 hj
    exact ⟨m, by simpa using hm, e⟩
  have k := kid_seg hF hi hm
  have f := fst_reach hF hi
  have mo := reach_mono hF hi (q := m + 1) (m := (L.getD i ndEmpty).kids.toNat) (by omega) (Nat.le_refl _)
  rw [k.2.2.1, f.1]; omega
/-- A Group within another one has a greater number. -/
theorem num_lt {L : List Nd} {i g : Nat} (hi : i < L.length) (h1 : fst L i ≤ fst L g) (h2 : g < i) (hgi : grp L i = true) (hgg : grp L g = true) : numAt L i < numAt L g := by
  unfold numAt
  rw [if_pos hgi, if_pos hgg]
  unfold rankIn
  have hpr : ∀ k, prec L i k = true → prec L g k = true := fun k hk => by
    unfold prec at hk ⊢
    simp only [Bool.or_eq_true, Bool.and_eq_true, decide_eq_true_eq, beq_iff_eq] at hk ⊢
    omega
  have hgp : prec L g g = true := by unfold prec; simp
  have hig : prec L i g = false := by
    unfold prec
    rw [decide_eq_false (by omega), decide_eq_false (by omega)]; simp
  have key : ∀ n, cnt (fun k => grp L k && prec L i k) 0 n ≤ cnt (fun k => grp L k && prec L g k) 0 n ∧ (g < n → cnt (fun k => grp L k && prec L i k) 0 n < cnt (fun k => grp L k && prec L g k) 0 n) := by
    intro n
    induction n with
    | zero => exact ⟨Nat.le_refl _, fun h => by omega⟩
    | succ n ih =>
      have e1 : cnt (fun k => grp L k && prec L i k) 0 (n + 1) = cnt (fun k => grp L k && prec L i k) 0 n + if (grp L n && prec L i n) = true then 1 else 0 := by rw [cnt, Nat.zero_add]
      have e2 : cnt (fun k => grp L k && prec L g k) 0 (n + 1) = cnt (fun k => grp L k && prec L g k) 0 n + if (grp L n && prec L g n) = true then 1 else 0 := by rw [cnt, Nat.zero_add]
      rw [e1, e2]
      by_cases c : n = g
      · subst c
        rw [hgg, hgp, hig]
        simp only [Bool.and_false, Bool.and_true, Bool.false_eq_true, if_false, if_true]
        omega
      · have : (grp L n && prec L i n) = true → (grp L n && prec L g n) = true := fun h => by
          rw [Bool.and_eq_true] at h ⊢; exact ⟨h.1, hpr n h.2⟩
        have hg2 : g < n + 1 → g < n := fun h => by omega
        split <;> split
        · omega
        · rename_i a b; exact absurd (this a) b
        · omega
        · omega
  exact (key L.length).2 (by omega)
theorem num_bd {L : List Nd} {i : Nat} (hi : i < L.length) (hg : grp L i = true) : 1 ≤ numAt L i ∧ numAt L i ≤ cnt (grp L) 0 L.length := by
  unfold numAt
  rw [if_pos hg]
  unfold rankIn
  have hii : prec L i i = true := by unfold prec; simp
  have key : ∀ n, cnt (fun k => grp L k && prec L i k) 0 n ≤ cnt (grp L) 0 n ∧ (i < n → 1 ≤ cnt (fun k => grp L k && prec L i k) 0 n) := by
    intro n
    induction n with
    | zero => exact ⟨Nat.le_refl _, fun h => by omega⟩
    | succ n ih =>
      have e1 : cnt (fun k => grp L k && prec L i k) 0 (n + 1) = cnt (fun k => grp L k && prec L i k) 0 n + if (grp L n && prec L i n) = true then 1 else 0 := by rw [cnt, Nat.zero_add]
      have e2 : cnt (grp L) 0 (n + 1) = cnt (grp L) 0 n + if grp L n = true then 1 else 0 := by rw [cnt, Nat.zero_add]
      rw [e1, e2]
      by_cases c : n = i
      · subst c
        rw [hg, hii]
        simp only [Bool.and_true, if_true]; omega
      · have : (grp L n && prec L i n) = true → grp L n = true := fun h => by
          rw [Bool.and_eq_true] at h; exact h.1
        split <;> split
        · omega
        · rename_i a b; exact absurd (this a) b
        · omega
        · omega
  exact ⟨(key L.length).2 hi, (key L.length).1⟩
/-- The numbers of the groups that stand within node i. -/
def InNode (L : List Nd) (i : Nat) (n : Int) : Prop := ∃ g, fst L i ≤ fst L g ∧ g ≤ i ∧ grp L g = true ∧ n = (numAt L g : Nat)
theorem term_blk {L : List Nd} (hF : formedF L = true) (hok : ∀ j, j < L.length → nodeOk L j = true) (h9 : cnt (grp L) 0 L.length ≤ 9) (i : Nat) (hi : i < L.length) :
    Blk (termAt L i) ∧ Num (InNode L i) (termAt L i) := by
  revert hi
  induction i using Nat.strongRecOn with
  | _ i ih =>
    intro hi
    have inc : ∀ j, j ∈ kidsF L (i : Int) → ∀ n, InNode L j n → InNode L i n := fun j hj n ⟨g, g1, g2, g3, g4⟩ => by
      obtain ⟨k1, k2⟩ := kid_in hF hi hj
      exact ⟨g, by omega, by omega, g3, g4⟩
    rcases termAt_cases hF hok hi _ rfl with ⟨hk, ht⟩ | ⟨hk, j, hj, hji, ht⟩ | ⟨hk, hrt, j, hj, hji, ht⟩ | ⟨q, hk, h0, ht⟩
    · rw [ht]
      refine ⟨Blk.one ?_, fun y hy h7 => ?_⟩
      · split
        · exact .inl rfl
        · exact .inr ⟨_, rfl⟩
      · rw [List.mem_singleton.1 hy] at h7
        split at h7 <;> cases h7
    · obtain ⟨b, n⟩ := ih j hji (by omega)
      have hjm : j ∈ kidsF L (i : Int) := by rw [hj]; simp
      have hgi : grp L i = true := by unfold grp; rw [hk]; rfl
      have hb := num_bd hi hgi
      rw [ht]
      refine ⟨b.una (.inr (.inr (.inl rfl))) (fun e => absurd rfl e) (fun _ => ⟨by omega, fun y hy h7 => ?_⟩) (fun e => (by cases e)) (fun e => (by cases e)), (n.mono (inc j hjm)).una fun _ => ⟨i, Nat.le_refl _, Nat.le_refl _, hgi, rfl⟩⟩
      obtain ⟨g, g1, g2, g3, g4⟩ := n y hy h7
      obtain ⟨k1, k2⟩ := kid_in hF hi hjm
      have := num_lt hi (g := g) (by omega) (by omega) hgi g3
      rw [g4]; omega
    · obtain ⟨b, n⟩ := ih j hji (by omega)
      rw [ht]
      exact ⟨b.rep hrt, (n.mono (inc j (by rw [hj]; simp))).rep⟩
    · rw [ht]
      have hq : q = 3 ∨ q = 4 := by rcases hk with ⟨_, h⟩ | ⟨_, h⟩ <;> simp [h]
      refine ⟨Blk.join hq _ (by intro e; rw [List.map_eq_nil_iff] at e; rw [e] at h0; simp at h0) fun p hp => ?_, Num.join (by rcases hq with rfl | rfl <;> decide) _ fun p hp => ?_⟩
      · obtain ⟨j, hj, rfl⟩ := List.mem_map.1 hp
        exact (ih j (kidsF_lt hF hi hj) (Nat.lt_trans (kidsF_lt hF hi hj) hi)).1
      · obtain ⟨j, hj, rfl⟩ := List.mem_map.1 hp
        exact (ih j (kidsF_lt hF hi hj) (Nat.lt_trans (kidsF_lt hF hi hj) hi)).2.mono (inc j hj)
end LowP
end Go.Proofs.Ytddokdjlmdoebaa

/- Plain facts on terms of trees: how many Leafs a term has; what is made of a tree within the limits is a term. No program is in sight. -/
namespace Go.Proofs.Ytddokdjlmdoebaa
open SetP AstP
namespace LowP
def lvT (l : List Tm) : Nat := (l.filter fun y => y.kind == 2).length
theorem lvT_append (l m : List Tm) : lvT (l ++ m) = lvT l + lvT m := by unfold lvT; rw [List.filter_append, List.length_append]
theorem lvT_one {t : Tm} (h : t.kind ≠ 2) : lvT [t] = 0 := by
  unfold lvT
  have : (t.kind == 2) = false := beq_eq_false_iff_ne.2 h
  simp [this]
theorem lvT_sh (d : Nat) (l : List Tm) : lvT (shL d l) = lvT l := by
  unfold lvT shL
  rw [List.filter_map, List.length_map]; rfl
theorem lvT_una (l : List Tm) {k n : Int} (h : k ≠ 2) : lvT (unaT l k n) = lvT l := by unfold unaT; rw [lvT_append, lvT_one h]; rfl
theorem lvT_two (p r : List Tm) {k : Int} (h : k ≠ 2) : lvT (twoT k p r) = lvT p + lvT r := by unfold twoT; rw [lvT_append, lvT_append, lvT_sh, lvT_one h]; rfl
def lvs (P : List (List Tm)) : Nat := (P.map lvT).sum
theorem lvT_join {k : Int} (h : k ≠ 2) (P : List (List Tm)) : lvT (joinT k P) = lvs P := by
  induction P with
  | nil => rfl
  | cons p P ih =>
    cases P with
    | nil => simp [joinT, lvs]
    | cons q P =>
      rw [joinT, lvT_two _ _ h, ih]
      unfold lvs
      simp only [List.map_cons, List.sum_cons]
theorem lvT_lacks (one : List Tm) (n : Nat) : lvT (lacksT one n) = (n + 1) * lvT one := by
  induction n with
  | zero => rw [lacksT, lvT_una _ (by decide)]; simp
  | succ n ih => rw [lacksT, lvT_una _ (by decide), lvT_two _ _ (by decide), ih, Nat.succ_mul (n + 1)]; omega
theorem lvs_app (P Q : List (List Tm)) : lvs (P ++ Q) = lvs P + lvs Q := by unfold lvs; rw [List.map_append, List.sum_append]
theorem lvs_rep (n : Nat) (p : List Tm) : lvs (List.replicate n p) = n * lvT p := by unfold lvs; rw [List.map_replicate, List.sum_replicate_nat]
theorem lvs_one (p : List Tm) : lvs [p] = lvT p := by simp [lvs]
theorem repT_leaves {X : List Tm} {n m : Int} {nl : Bool} (hr : rightB n m = true) (b : Int) : (lvT (repT X n m nl) : Int) = (repS (b, (lvT X : Int)) n m nl).2 := by
  unfold repT repS
  cases hm : (m == 0) with
  | true => rfl
  | false =>
    rw [if_neg (by decide), if_neg (by decide)]
    obtain ⟨m0, m1, y0, y1, c0, c1⟩ := cop_bd hr nl
    obtain ⟨M, hM⟩ : ∃ M : Nat, mustN n nl = M := ⟨_, (Int.toNat_of_nonneg m0).symm⟩
    have hc : copN n m nl = if m < 0 then mustN n nl + 1 else mustN n nl + mayN n m nl := rfl
    have ha : lvT (unaT X 8 0) = lvT X := lvT_una _ (by decide)
    simp only
    rw [hc, hM, lvT_join (by decide)]
    unfold partsT
    rw [hM, lvs_app, lvs_rep, ha]
    simp only [Int.toNat_natCast]
    by_cases hneg : m < 0
    · rw [if_pos hneg, if_pos hneg, lvs_one, lvT_una _ (by decide), ha]
      have e : ((M : Int) + 1) * (lvT X) = (M * lvT X : Nat) + (lvT X : Nat) := by rw [Int.add_mul]; simp
      rw [e]; omega
    · rw [if_neg hneg, if_neg hneg]
      by_cases hp : 0 < mayN n m nl
      · rw [if_pos hp]
        obtain ⟨y, hy⟩ : ∃ y : Nat, mayN n m nl = (y : Int) + 1 := ⟨(mayN n m nl).toNat - 1, by omega⟩
        rw [hy, lvs_one, show ((y : Int) + 1).toNat - 1 = y by omega, lvT_lacks, ha]
        have e : ((M : Int) + ((y : Int) + 1)) * (lvT X) = (M * lvT X : Nat) + ((y + 1) * lvT X : Nat) := by rw [Int.add_mul]; simp
        rw [e]; omega
      · rw [if_neg hp]
        have hz : mayN n m nl = 0 := by omega
        rw [hz]
        have e : ((M : Int) + 0) * (lvT X) = (M * lvT X : Nat) := by simp
        rw [e]; simp [lvs]
theorem fold_snd (K : List Sz) (hK : ∀ s ∈ K, 0 ≤ s.1 ∧ 0 ≤ s.2) (a : Sz) (ha : 0 ≤ a.1 ∧ 0 ≤ a.2 ∧ a.1 ≤ 1000000 ∧ a.2 ≤ 1000000) (h : (K.foldl addS a).2 < 1000000) : (K.foldl addS a).2 = a.2 + (K.map Prod.snd).sum ∧ 0 ≤ (K.map Prod.snd).sum ∧ ∀ s ∈ K, s.2 ≤ (K.map Prod.snd).sum := by
  induction K generalizing a with
  | nil => simp
  | cons s K ih =>
    have h1 := hK s (by simp)
    rw [List.foldl_cons] at h ⊢
    have ih := ih (fun x hx => hK x (by simp [hx])) (addS a s) ⟨capI_nonneg (by omega), capI_nonneg (by omega), capI_le _, capI_le _⟩ h
    obtain ⟨i1, i2, i3⟩ := ih
    have hc : (addS a s).2 < 1000000 := by omega
    have hc2 : (addS a s).2 = a.2 + s.2 := capI_eq hc
    rw [List.map_cons, List.sum_cons]
    refine ⟨by omega, by omega, fun t ht => ?_⟩
    rcases List.mem_cons.1 ht with rfl | ht
    · omega
    · have := i3 t ht; omega
theorem sum_snd (K : List Sz) (hK : ∀ s ∈ K, 0 ≤ s.1 ∧ 0 ≤ s.2) (h : (sumS K).2 < 1000000) : (sumS K).2 = (K.map Prod.snd).sum ∧ 0 ≤ (K.map Prod.snd).sum ∧ ∀ s ∈ K, s.2 ≤ (K.map Prod.snd).sum := by
  obtain ⟨a, b⟩ := fold_snd K hK (0, 0) ⟨by decide, by decide, by decide, by decide⟩ h
  exact ⟨by unfold sumS; rw [a]; simp, b⟩
theorem map_lvs (l : List (List Tm)) : ((l.map lvT).sum : Nat) = (l.map fun p => (lvT p : Int)).sum := by
  induction l with
  | nil => rfl
  | cons p l ih => simp only [List.map_cons, List.sum_cons]; omega
theorem repS_ge2 {s : Sz} {n m : Int} {nl : Bool} (hr : rightB n m = true) (hm : (m == 0) = false) (hs : 0 ≤ s.2) : s.2 ≤ (repS s n m nl).2 := by
  have hm0 : m ≠ 0 := by intro e; rw [e] at hm; exact absurd hm (by decide)
  have hc := cop_pos nl hr hm0
  unfold repS
  rw [hm, if_neg (by decide)]
  simp only
  have h1 : 1 * s.2 ≤ copN n m nl * s.2 := Int.mul_le_mul_of_nonneg_right hc hs
  omega
theorem termAt_leaves {L : List Nd} (hF : formedF L = true) (hok : ∀ j, j < L.length → nodeOk L j = true) (i : Nat) (hi : i < L.length) (h : (szAt L i).2 < 1000000) : (lvT (termAt L i) : Int) = (szAt L i).2 := by
  revert hi h
  induction i using Nat.strongRecOn with
  | _ i ih =>
    intro hi h
    have hsz := szAt_eq hF hi
    rw [hsz] at h ⊢
    simp only at h ⊢
    have hr := capI_eq h
    rw [hr] at h ⊢
    clear hr hsz
    have hnn : ∀ s ∈ (kidsF L (i : Int)).map (szAt L), 0 ≤ s.1 ∧ 0 ≤ s.2 := fun s hs => by
      obtain ⟨j, hj, rfl⟩ := List.mem_map.1 hs
      have := szAt_bd hF hok j (Nat.lt_trans (kidsF_lt hF hi hj) hi)
      exact ⟨this.1, this.2.2.1⟩
    rcases termAt_cases hF hok hi _ rfl with ⟨hk, ht⟩ | ⟨hk, j, hj, hji, ht⟩ | ⟨hk, hrt, j, hj, hji, ht⟩ | ⟨q, hk, h0, ht⟩
    · rw [ht]
      unfold rawS
      rcases hk with hk | hk
      · rw [hk]; rfl
      · rw [hk]; rfl
    · rw [ht, lvT_una _ (by decide)]
      have e : (rawS (L.getD i ndEmpty) ((kidsF L (i : Int)).map (szAt L)) (lastNull L i)).2 = (sumS ((kidsF L (i : Int)).map (szAt L))).2 := by unfold rawS; rw [hk]; rfl
      rw [e] at h ⊢
      obtain ⟨s1, s2, s3⟩ := sum_snd _ hnn (by omega)
      rw [hj] at s1 h ⊢
      simp at s1
      have := ih j hji (by omega) (by simp at h; omega)
      simp
      omega
    · rw [ht]
      have e : rawS (L.getD i ndEmpty) ((kidsF L (i : Int)).map (szAt L)) (lastNull L i) = repS (sumS ((kidsF L (i : Int)).map (szAt L))) (L.getD i ndEmpty).n (L.getD i ndEmpty).m (lastNull L i) := by unfold rawS; rw [hk]; rfl
      have en : lastNull L i = nullAt L j := by unfold lastNull; rw [hj]; rfl
      rw [e, en] at h ⊢
      cases hm : ((L.getD i ndEmpty).m == 0) with
      | true =>
        unfold repT repS
        rw [hm]; rfl
      | false =>
        have hb := sumS_bd _ hnn
        have hg := repS_ge2 (s := sumS ((kidsF L (i : Int)).map (szAt L))) (nl := nullAt L j) hrt hm hb.2.1
        obtain ⟨s1, s2, s3⟩ := sum_snd _ hnn (by omega)
        have hs2 : (sumS ((kidsF L (i : Int)).map (szAt L))).2 = (szAt L j).2 := by rw [s1, hj]; simp
        have hj2 := ih j hji (by omega) (by omega)
        rw [repT_leaves hrt (sumS ((kidsF L (i : Int)).map (szAt L))).1, hj2, ← hs2]
    · rw [ht]
      have e : (rawS (L.getD i ndEmpty) ((kidsF L (i : Int)).map (szAt L)) (lastNull L i)).2 = (sumS ((kidsF L (i : Int)).map (szAt L))).2 := by
        unfold rawS
        rcases hk with ⟨hk, _⟩ | ⟨hk, _⟩ <;> (rw [hk]; rfl)
      rw [e] at h ⊢
      obtain ⟨s1, s2, s3⟩ := sum_snd _ hnn (by omega)
      have hq : q ≠ 2 := by rcases hk with ⟨_, h⟩ | ⟨_, h⟩ <;> rw [h] <;> decide
      rw [lvT_join hq, s1]
      unfold lvs
      rw [map_lvs, List.map_map, List.map_map]
      congr 1
      refine List.map_congr_left fun j hj => ?_
      have hji := kidsF_lt hF hi hj
      have := s3 _ (List.mem_map.2 ⟨j, hj, rfl⟩)
      exact ih j hji (by omega) (by omega)
theorem groups_cnt (L : List Nd) (k : Nat) : groupsF L k = cnt (grp L) 0 k := by
  induction k with
  | zero => rfl
  | succ k ih => rw [groupsF, cnt, ih, Nat.zero_add]; unfold grp; split <;> rfl
theorem sizeF_right {L : List Nd} (hR : rightF L = true) : sizeF L = szAt L (L.length - 1) := by unfold sizeF; rw [if_pos hR]
/-- What is made of a tree within the limits is a term. -/
theorem good_term {L : List Nd} (hR : rightF L = true) (h1 : (sizeF L).1 ≤ 400) (h2 : (sizeF L).2 ≤ 64) : ∃ lo, GoodT (termAt L (L.length - 1)) lo ∧ Pre (termAt L (L.length - 1)) lo := by
  obtain ⟨hF, hok, hg⟩ := right_parts hR
  have hpos := (root_size hF).1
  rw [groups_cnt] at hg
  obtain ⟨⟨hp, lo, hP, ht⟩, _⟩ := term_blk hF hok hg (L.length - 1) (by omega)
  rw [sizeF_right hR] at h1 h2
  have hl := termAt_length hF hok (L.length - 1) (by omega) (by omega)
  have hv := termAt_leaves hF hok (L.length - 1) (by omega) (by omega)
  refine ⟨lo, ⟨hP.len, hp, by omega, fun i hi => (hP.at_ i hi).low, fun i hi => (hP.at_ i hi).fld, fun i hi => (hP.at_ i hi).dn, fun i hi => (hP.at_ i hi).ag, ?_, ht⟩, hP⟩
  unfold leavesN
  rw [List.take_length]
  show lvT _ ≤ 64
  omega
end LowP
end Go.Proofs.Ytddokdjlmdoebaa
