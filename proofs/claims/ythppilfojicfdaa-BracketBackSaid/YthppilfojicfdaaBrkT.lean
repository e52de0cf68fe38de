/- Plain facts on brackets: the bracket of a set, and that it is read as the set. No program is in sight. -/
import Derived.Test.YthppilfojicfdaaBrkR
import Derived.Test.YthppilfojicfdaaRunsP
namespace Go.Proofs.Ythppilfojicfdaa
open Go.RowKit SetP
namespace BrkP
def four (x : Nat) : Bool := x == 93 || (x == 91 || (x == 94 || x == 45))
def restF (f : Nat → Bool) : Nat → Bool := fun x => f x && !four x
def chB (z : Int) : UInt8 := UInt8.ofNat z.toNat
def runT (p : Int × Int) : List UInt8 := if p.1 == p.2 then [chB p.1] else if p.2 == p.1 + 1 then [chB p.1, chB p.2] else [chB p.1, 45, chB p.2]
def runsT (R : List (Int × Int)) : List UInt8 := R.flatMap runT
def optB (b : Bool) (c : UInt8) : List UInt8 := if b then [c] else []
def outB (f : Nat → Bool) : List UInt8 := optB (f 93) 93 ++ runsT (runsF (restF f)) ++ optB (f 91) 91
def lastB (f : Nat → Bool) : List UInt8 := if f 45 && (outB f).isEmpty then 45 :: optB (f 94) 94 else optB (f 94) 94 ++ optB (f 45) 45
def textB (f : Nat → Bool) : List UInt8 := if same f (fun _ => false) then [91, 94, 0, 45, 255, 93] else if (outB f).isEmpty && lastB f == [94] then [] else 91 :: (outB f ++ lastB f ++ [93])

/-- What stands in a text from a place to its end. -/
structure At (s : ByteArray) (i : Nat) (l : List UInt8) : Prop where
  size : s.size = i + l.length
  bt : ∀ k, k < l.length → BrkP.bt s (i + k) = l.getD k 0
theorem At.next {s : ByteArray} {i : Nat} {m l : List UInt8} (h : At s i (m ++ l)) : At s (i + m.length) l := by
  refine ⟨by rw [h.size, List.length_append]; omega, fun k hk => ?_⟩
  have := h.bt (m.length + k) (by rw [List.length_append]; omega)
  rw [← Nat.add_assoc] at this
  rw [this, List.getD_eq_getElem?_getD, List.getElem?_append_right (by omega), Nat.add_sub_cancel_left, List.getD_eq_getElem?_getD]
theorem at_app (A : ByteArray) (l : List UInt8) : At (A ++ ⟨l.toArray⟩) A.size l := by
  have hl : (⟨l.toArray⟩ : ByteArray).size = l.length := by show l.toArray.size = _; simp
  refine ⟨by rw [ByteArray.size_append, hl], fun k _ => ?_⟩
  rw [bt_app]; rfl
/-- What may stand behind a byte that is a thing. -/
def Safe (l : List UInt8) : Prop := (∃ c m, l = c :: m ∧ (c == 45) = false) ∨ ∃ m, l = 45 :: 93 :: m
theorem step_one {s : ByteArray} {first i : Nat} {f : Nat → Bool} {c : UInt8} {l : List UInt8} (h : At s i (c :: l)) (hs : Safe l) (hc : (c == 93) = false ∨ first = i)
    (hm : (c == 91) = true → marksB (l.getD 0 0) = false) : loopF s first i f = loopF s first (i + 1) (addB f c.toNat) := by
  have hz := h.size
  have b0 : bt s i = c := h.bt 0 (by simp)
  have hl : 0 < l.length := by rcases hs with ⟨_, _, rfl, _⟩ | ⟨_, rfl⟩ <;> simp
  have b1 : bt s (i + 1) = l.getD 0 0 := by have := h.bt 1 (by simp; omega); simpa using this
  simp only [List.length_cons] at hz
  have hth : thingF s i f = .go (i + 1) (addB f c.toNat) := by
    have hsp : ∀ d : UInt8, spanF s i f d = .go (i + 1) (addB f d.toNat) := by
      intro d
      unfold spanF
      rw [if_neg (by omega), b1]
      rcases hs with ⟨e, m, rfl, he⟩ | ⟨m, rfl⟩
      · rw [if_pos (show ((e :: m).getD 0 0 != 45) = true from isbne he)]
      · have b2 : bt s (i + 2) = 93 := by have := h.bt 2 (by simp); simpa using this
        simp only [List.length_cons] at hz
        rw [if_neg (by show ¬ ((45 : UInt8) != 45) = true; decide), if_neg (by omega), b2, if_pos (by rfl)]
    unfold thingF
    rw [b0]
    cases e : (c == 91) with
    | false => rw [if_neg (by simp), hsp]
    | true =>
      have hm' := hm e
      have e' : c = 91 := by simpa using e
      rw [if_pos rfl, if_neg (by omega), b1, if_neg (by
        intro h; unfold marksB at hm'; simp only [Bool.or_eq_false_iff] at hm'; rw [hm'.1] at h; cases h), if_neg (by rw [hm']; simp), hsp, e']
  rw [loopF_step (by omega) (by
    rw [b0]
    rcases hc with hc | hc
    · rw [hc]; rfl
    · rw [hc]; simp), hth]
theorem step_range {s : ByteArray} {first i : Nat} {f : Nat → Bool} {c d : UInt8} {l : List UInt8} (h : At s i (c :: 45 :: d :: l)) (hc : (c == 93) = false) (hc1 : (c == 91) = false) (hd : (d == 93) = false) (hd1 : (d == 91) = false)
    (hcd : ¬ d.toNat < c.toNat) : loopF s first i f = loopF s first (i + 3) (fun x => f x || rangeF c.toNat d.toNat x) := by
  have hz := h.size
  have b0 : bt s i = c := h.bt 0 (by simp)
  have b1 : bt s (i + 1) = 45 := by have := h.bt 1 (by simp); simpa using this
  have b2 : bt s (i + 2) = d := by have := h.bt 2 (by simp); simpa using this
  simp only [List.length_cons] at hz
  rw [loopF_step (by omega) (by rw [b0, hc]; rfl)]
  have hth : thingF s i f = .go (i + 3) (fun x => f x || rangeF c.toNat d.toNat x) := by
    unfold thingF
    rw [b0, if_neg (by rw [hc1]; simp)]
    unfold spanF
    rw [if_neg (by omega), b1, if_neg (by decide), if_neg (by omega), b2, if_neg (by rw [hd]; simp), if_neg hcd, if_neg (by rw [hd1]; simp), if_neg (by rw [hd1]; simp)]
  rw [hth]
theorem step_end {s : ByteArray} {first i : Nat} {f : Nat → Bool} (h : At s i [93]) (hf : first < i) : loopF s first i f = .go (i + 1) f :=
  lo_end (by have := h.size; simp at this; omega) (by have := h.bt 0 (by simp); rw [Nat.add_zero] at this; rw [this]; rfl) hf

theorem chB_nat {z : Int} (h0 : 0 ≤ z) (h1 : z < 256) : ((chB z).toNat : Int) = z := by
  unfold chB
  rw [UInt8.toNat_ofNat_of_lt' (by simp; omega)]; omega
/-- A run's ends are bytes that stand for themselves. -/
structure Good (p : Int × Int) : Prop where
  lo : 0 ≤ p.1
  le : p.1 ≤ p.2
  hi : p.2 < 256
  fa : four p.1.toNat = false
  fb : four p.2.toNat = false
theorem notFour {z : Int} (h0 : 0 ≤ z) (h1 : z < 256) (h : four z.toNat = false) : (chB z == 93) = false ∧ (chB z == 91) = false ∧ (chB z == 45) = false ∧ (chB z == 94) = false := by
  have hn := chB_nat h0 h1
  unfold four at h
  simp only [Bool.or_eq_false_iff, beq_eq_false_iff_ne] at h
  have key : ∀ k : UInt8, z.toNat ≠ k.toNat → (chB z == k) = false := fun k hk => by
    rw [beq_eq_false_iff_ne]; rintro rfl; exact hk (by omega)
  exact ⟨key 93 h.1, key 91 h.2.1, key 45 h.2.2.2, key 94 h.2.2.1⟩
theorem runT_head (p : Int × Int) : ∃ m, runT p = chB p.1 :: m := by
  unfold runT
  split
  · exact ⟨_, rfl⟩
  · split <;> exact ⟨_, rfl⟩
theorem add_range (f : Nat → Bool) (c : UInt8) {a b : Int} (ha : (c.toNat : Int) = a) (hb : b = a) : addB f c.toNat = fun x => f x || rangeF a b x := by
  funext x
  unfold addB rangeF
  congr 1
  rw [Bool.eq_iff_iff]; simp; omega
theorem step_run {s : ByteArray} {first i : Nat} {f : Nat → Bool} {p : Int × Int} {l : List UInt8} (g : Good p) (h : At s i (runT p ++ l)) (hs : Safe l) :
    loopF s first i f = loopF s first (i + (runT p).length) (fun x => f x || rangeF p.1 p.2 x) := by
  obtain ⟨a, b⟩ := p
  obtain ⟨g0, g1, g2, g3, g4⟩ := g
  simp only at g0 g1 g2 g3 g4
  obtain ⟨na, na1, na2, _⟩ := notFour g0 (by omega) g3
  obtain ⟨nb, nb1, nb2, _⟩ := notFour (by omega) g2 g4
  have ea := chB_nat g0 (by omega)
  have eb := chB_nat (z := b) (by omega) g2
  unfold runT at h ⊢
  simp only at h ⊢
  by_cases e1 : (a == b) = true
  · have e : a = b := by simpa using e1
    rw [if_pos e1] at h ⊢
    rw [step_one h hs (.inl na) (by rw [na1]; intro h; cases h), add_range f (chB a) ea e.symm]; rfl
  rw [if_neg e1] at h ⊢
  by_cases e2 : (b == a + 1) = true
  · have e : b = a + 1 := by simpa using e2
    rw [if_pos e2] at h ⊢
    have h2 : At s (i + 1) (chB b :: l) := At.next (m := [chB a]) (l := chB b :: l) h
    rw [step_one (l := chB b :: l) h (.inl ⟨_, _, rfl, nb2⟩) (.inl na) (by rw [na1]; intro h; cases h), step_one h2 hs (.inl nb) (by rw [nb1]; intro h; cases h)]
    congr 1
    funext x
    unfold addB rangeF
    rw [Bool.or_assoc]
    congr 1
    rw [Bool.eq_iff_iff]; simp; omega
  · rw [if_neg e2] at h ⊢
    have hle : a ≤ b := g1
    rw [step_range (l := l) h na na1 nb nb1 (by omega), ea, eb]; rfl
theorem safe_runs {R : List (Int × Int)} {l : List UInt8} (hR : ∀ p ∈ R, Good p) (hs : Safe l) : Safe (runsT R ++ l) := by
  cases R with
  | nil => exact hs
  | cons p R =>
    have g := hR p (List.mem_cons_self ..)
    obtain ⟨m, hm⟩ := runT_head p
    refine .inl ⟨chB p.1, m ++ runsT R ++ l, ?_, (notFour g.lo (by have := g.le; have := g.hi; omega) g.fa).2.2.1⟩
    show (runT p ++ runsT R) ++ l = _
    rw [hm]; simp
theorem step_runs {s : ByteArray} {first : Nat} (R : List (Int × Int)) {l : List UInt8} (hR : ∀ p ∈ R, Good p) (hs : Safe l) (i : Nat) (f : Nat → Bool) (h : At s i (runsT R ++ l)) :
    loopF s first i f = loopF s first (i + (runsT R).length) (fun x => f x || coverF R x) := by
  induction R generalizing i f with
  | nil => simp [runsT, coverF]
  | cons p R ih =>
    have e : runsT (p :: R) = runT p ++ runsT R := rfl
    rw [e, List.append_assoc] at h
    rw [step_run (hR p (List.mem_cons_self ..)) h (safe_runs (fun q hq => hR q (List.mem_cons_of_mem _ hq)) hs), ih (fun q hq => hR q (List.mem_cons_of_mem _ hq)) _ _ h.next, e, List.length_append, Nat.add_assoc]
    congr 1
    funext x
    rw [Bool.or_assoc]; rfl
theorem runs_good (f : Nat → Bool) : ∀ p ∈ runsF (restF f), Good p := by
  intro p hp
  have h := runsOk (restF f) 256
  obtain ⟨h1, h2, h3⟩ := h.bd p hp
  have hc : ∀ z : Int, p.1 ≤ z → z ≤ p.2 → restF f z.toNat = true := by
    intro z g1 g2
    have := h.cov z.toNat
    have ht : coverF (runsB (restF f) 256) z.toNat = true := by
      unfold coverF
      rw [List.any_eq_true]
      exact ⟨p, hp, by unfold rngF; simp; omega⟩
    rw [ht] at this
    have := this.symm
    simp only [Bool.and_eq_true] at this
    exact this.2
  have four_no : ∀ z : Int, p.1 ≤ z → z ≤ p.2 → four z.toNat = false := fun z g1 g2 => by
    have := hc z g1 g2
    unfold restF at this
    simp only [Bool.and_eq_true, Bool.not_eq_true'] at this
    exact this.2
  exact ⟨h1, h2, h3, four_no p.1 (Int.le_refl _) h2, four_no p.2 h2 (Int.le_refl _)⟩
theorem cover_rest (f : Nat → Bool) (x : Nat) (hx : x < 256) : coverF (runsF (restF f)) x = restF f x := by
  have := (runsOk (restF f) 256).cov x
  unfold runsF
  rw [this, decide_eq_true hx, Bool.true_and]
/-- What stands behind the runs. -/
def tailB (b91 b94 b45 : Bool) : List UInt8 := optB b91 91 ++ (optB b94 94 ++ optB b45 45) ++ [93]
theorem safe_tail (b91 b94 b45 : Bool) : Safe (tailB b91 b94 b45) := by
  cases b91 <;> cases b94 <;> cases b45
  all_goals first
    | exact .inl ⟨_, _, rfl, by decide⟩
    | exact .inr ⟨_, rfl⟩
theorem step_tail {s : ByteArray} {first i : Nat} {f : Nat → Bool} (b91 b94 b45 : Bool) (h : At s i (tailB b91 b94 b45)) (hf : first < i + (optB b91 91).length + (optB b94 94).length + (optB b45 45).length) :
    loopF s first i f = .go s.size (fun x => f x || (b91 && x == 91) || (b94 && x == 94) || (b45 && x == 45)) := by
  have hz := h.size
  have one : ∀ (b : Bool) (c : UInt8) (l : List UInt8) (i : Nat) (f : Nat → Bool), At s i (optB b c ++ l) → (b = true → Safe l ∧ (c == 93) = false ∧ ((c == 91) = true → marksB (l.getD 0 0) = false)) →
      loopF s first i f = loopF s first (i + (optB b c).length) (fun x => f x || (b && x == c.toNat)) := by
    intro b c l i f h hb
    cases b with
    | false => simp [optB]
    | true =>
      obtain ⟨h1, h2, h3⟩ := hb rfl
      rw [step_one (c := c) (l := l) h h1 (.inl h2) h3]
      congr 1
  have e1 : tailB b91 b94 b45 = optB b91 91 ++ (optB b94 94 ++ (optB b45 45 ++ [93])) := by unfold tailB; simp
  rw [e1] at h
  have s45 : Safe ([93] : List UInt8) := .inl ⟨_, _, rfl, by decide⟩
  have s94 : Safe (optB b45 45 ++ [93]) := by cases b45 <;> first | exact .inl ⟨_, _, rfl, by decide⟩ | exact .inr ⟨_, rfl⟩
  have s91 : Safe (optB b94 94 ++ (optB b45 45 ++ [93])) := by cases b94 <;> cases b45 <;> first | exact .inl ⟨_, _, rfl, by decide⟩ | exact .inr ⟨_, rfl⟩
  rw [one b91 91 _ i f h (fun _ => ⟨s91, by decide, fun _ => by cases b94 <;> cases b45 <;> decide⟩)]
  have h2 := h.next
  rw [one b94 94 _ _ _ h2 (fun _ => ⟨s94, by decide, fun h => absurd h (by decide)⟩)]
  have h3 := h2.next
  rw [one b45 45 _ _ _ h3 (fun _ => ⟨s45, by decide, fun h => absurd h (by decide)⟩)]
  have h4 := h3.next
  rw [step_end h4 (by omega)]
  have h5 := h4.size
  rw [h5]; rfl
theorem readB_of {A : ByteArray} {l : List UInt8} {g : Nat → Bool} (hl : (l.getD 0 0 == 94) = false) (h : loopF (A ++ ⟨(91 :: l).toArray⟩) (A.size + 1) (A.size + 1) (fun _ => false) = .go (A ++ (⟨(91 :: l).toArray⟩ : ByteArray)).size g) :
    readB (A ++ ⟨(91 :: l).toArray⟩) A.size = ⟨g, ((A.size + (91 :: l).length : Nat) : Int), 0, 0⟩ := by
  have hA := at_app A (91 :: l)
  have hz := hA.size
  have b0 : bt (A ++ ⟨(91 :: l).toArray⟩) A.size = 91 := hA.bt 0 (by simp)
  unfold readB
  rw [if_neg (by rw [hz]; simp; omega), Int.toNat_natCast, b0, if_neg (by decide)]
  have b1 : (bt (A ++ ⟨(91 :: l).toArray⟩) (A.size + 1) == 94) = false := by
    have : bt (A ++ ⟨(91 :: l).toArray⟩) (A.size + 1) = l.getD 0 0 := by
      have := bt_app A ⟨(91 :: l).toArray⟩ 1
      rw [this]; unfold bt; simp
    rw [this]; exact hl
  rw [b1, if_neg (by simp), h, hz]
  rfl
theorem text_read (f : Nat → Bool) (A : ByteArray) (ht : textB f ≠ []) : ∃ g, readB (A ++ ⟨(textB f).toArray⟩) A.size = ⟨g, ((A.size + (textB f).length : Nat) : Int), 0, 0⟩ ∧ same g f = true := by
  unfold textB at ht ⊢
  by_cases h0 : same f (fun _ => false) = true
  · rw [if_pos h0] at ht ⊢
    have h1 := place_two A 0 255 (by decide) (by decide) (by decide)
    rw [if_neg (by decide)] at h1
    refine ⟨_, h1, same_iff.2 fun x hx => ?_⟩
    have h2 := same_iff.1 h0 x hx
    rw [h2]
    unfold rangeF
    have e1 : decide (((0 : UInt8).toNat : Int) ≤ (x : Int)) = true := by simp
    have e2 : decide ((x : Int) ≤ ((255 : UInt8).toNat : Int)) = true := by have : ((255 : UInt8).toNat : Int) = 255 := rfl; rw [this]; simp; omega
    rw [e1, e2]; rfl
  rw [if_neg h0] at ht ⊢
  by_cases h2 : ((outB f).isEmpty && lastB f == [94]) = true
  · rw [if_pos h2] at ht; exact absurd rfl ht
  rw [if_neg h2] at ht ⊢
  have hgood := runs_good f
  have hrest : ∀ x, x < 256 → coverF (runsF (restF f)) x = restF f x := cover_rest f
  cases ho : (outB f).isEmpty with
  | true =>
    -- no run, no bracket: a dash first
    have ho' : outB f = [] := by simpa using ho
    have hparts := ho'
    unfold outB at hparts
    rw [List.append_eq_nil_iff, List.append_eq_nil_iff] at hparts
    obtain ⟨⟨p1, p2⟩, p3⟩ := hparts
    have f93 : f 93 = false := by cases h : f 93 with | false => rfl | true => rw [h] at p1; cases p1
    have f91 : f 91 = false := by cases h : f 91 with | false => rfl | true => rw [h] at p3; cases p3
    have hR : runsF (restF f) = [] := by
      cases hr : runsF (restF f) with
      | nil => rfl
      | cons p R =>
        rw [hr] at p2
        obtain ⟨m, hm⟩ := runT_head p
        have : runsT (p :: R) = runT p ++ runsT R := rfl
        rw [this, hm] at p2; cases p2
    have hno : ∀ x, x < 256 → restF f x = false := fun x hx => by rw [← hrest x hx, hR]; rfl
    have hx : ∀ x, x < 256 → f x = (f 94 && x == 94 || f 45 && x == 45) := by
      intro x hx
      have h := hno x hx
      unfold restF four at h
      by_cases e1 : x = 93
      · subst e1; rw [f93]; simp
      by_cases e2 : x = 91
      · subst e2; rw [f91]; simp
      by_cases e3 : x = 94
      · subst e3; simp
      by_cases e4 : x = 45
      · subst e4; simp
      have : f x = false := by simpa [e1, e2, e3, e4] using h
      rw [this]; simp [e3, e4]
    cases f45 : f 45 with
    | false =>
      exfalso
      cases f94 : f 94 with
      | false =>
        apply h0
        exact same_iff.2 fun x h => by rw [hx x h, f94, f45]; rfl
      | true =>
        apply h2
        unfold lastB
        rw [ho, f45, f94]; rfl
    | true =>
      have hl : lastB f = 45 :: optB (f 94) 94 := by unfold lastB; rw [f45, ho]; rfl
      rw [ho', hl, List.nil_append]
      cases f94 : f 94 with
      | false =>
        have e : (45 :: optB false 94 ++ [93] : List UInt8) = [45, 93] := rfl
        rw [e]
        have hA := at_app A [91, 45, 93]
        have h3 : At (A ++ ⟨[91, 45, 93].toArray⟩) (A.size + 1) [45, 93] := At.next (m := [91]) (l := [45, 93]) hA
        refine ⟨fun x => false || x == 45, readB_of (l := [45, 93]) (by decide) ?_, ?_⟩
        · rw [step_one h3 (.inl ⟨_, _, rfl, by decide⟩) (.inl (by decide)) (by decide)]
          have h4 : At (A ++ ⟨[91, 45, 93].toArray⟩) (A.size + 1 + 1) [93] := At.next (m := [45]) (l := [93]) h3
          rw [step_end h4 (by omega)]
          have := h4.size
          simp only [List.length_cons, List.length_nil] at this
          rw [this]; rfl
        · exact same_iff.2 fun x h => by rw [hx x h, f94, f45]; simp
      | true =>
        have e : (45 :: optB true 94 ++ [93] : List UInt8) = [45, 94, 93] := rfl
        rw [e]
        have hA := at_app A [91, 45, 94, 93]
        have h3 : At (A ++ ⟨[91, 45, 94, 93].toArray⟩) (A.size + 1) [45, 94, 93] := At.next (m := [91]) (l := [45, 94, 93]) hA
        refine ⟨fun x => (false || x == 45) || x == 94, readB_of (l := [45, 94, 93]) (by decide) ?_, ?_⟩
        · rw [step_one h3 (.inl ⟨_, _, rfl, by decide⟩) (.inl (by decide)) (by decide)]
          have h4 := At.next (m := [45]) (l := [94, 93]) h3
          have h4' : At (A ++ ⟨[91, 45, 94, 93].toArray⟩) (A.size + 1 + 1) [94, 93] := h4
          rw [step_one h4' (.inl ⟨_, _, rfl, by decide⟩) (.inl (by decide)) (by decide)]
          have h5 : At (A ++ ⟨[91, 45, 94, 93].toArray⟩) (A.size + 1 + 1 + 1) [93] := At.next (m := [94]) (l := [93]) h4'
          rw [step_end h5 (by omega)]
          have := h5.size
          simp only [List.length_cons, List.length_nil] at this
          rw [this]; rfl
        · exact same_iff.2 fun x h => by rw [hx x h, f94, f45]; simp [Bool.or_comm]
  | false =>
    have hl : lastB f = optB (f 94) 94 ++ optB (f 45) 45 := by unfold lastB; rw [ho, Bool.and_false, if_neg (by simp)]
    have hbody : outB f ++ lastB f ++ [93] = optB (f 93) 93 ++ (runsT (runsF (restF f)) ++ tailB (f 91) (f 94) (f 45)) := by
      rw [hl]; unfold outB tailB; simp
    have hne : outB f ≠ [] := by intro h; rw [h] at ho; cases ho
    have hlen : 0 < (optB (f 93) 93).length + (runsT (runsF (restF f))).length + (optB (f 91) 91).length := by
      rcases Nat.eq_zero_or_pos ((optB (f 93) 93).length + (runsT (runsF (restF f))).length + (optB (f 91) 91).length) with h | h
      · exfalso
        apply hne
        unfold outB
        apply List.eq_nil_of_length_eq_zero
        simp only [List.length_append]; omega
      · exact h
    have hhead : ((outB f ++ lastB f ++ [93]).getD 0 0 == 94) = false := by
      rw [hbody]
      cases f93 : f 93 with
      | true => rfl
      | false =>
        cases hr : runsF (restF f) with
        | nil =>
          cases f91 : f 91 with
          | true => rfl
          | false => rw [f93, hr, f91] at hlen; simp [optB, runsT] at hlen
        | cons p R =>
          have g := hgood p (by rw [hr]; exact List.mem_cons_self ..)
          obtain ⟨m, hm⟩ := runT_head p
          have e : runsT (p :: R) = runT p ++ runsT R := rfl
          rw [e, hm]
          exact (notFour g.lo (by have := g.le; have := g.hi; omega) g.fa).2.2.2
    have hA := at_app A (91 :: (outB f ++ lastB f ++ [93]))
    have h3 := At.next (m := [91]) (l := outB f ++ lastB f ++ [93]) hA
    refine ⟨fun x => ((f 93 && x == 93) || coverF (runsF (restF f)) x) || (f 91 && x == 91) || (f 94 && x == 94) || (f 45 && x == 45), readB_of hhead ?_, ?_⟩
    · generalize (A ++ (⟨(91 :: (outB f ++ lastB f ++ [93])).toArray⟩ : ByteArray)) = s at *
      rw [hbody] at h3
      have h3' : At s (A.size + 1) (optB (f 93) 93 ++ (runsT (runsF (restF f)) ++ tailB (f 91) (f 94) (f 45))) := h3
      have hs := safe_runs hgood (safe_tail (f 91) (f 94) (f 45))
      have e93 : loopF s (A.size + 1) (A.size + 1) (fun _ => false) = loopF s (A.size + 1) (A.size + 1 + (optB (f 93) 93).length) (fun x => f 93 && x == 93) := by
        cases f93 : f 93 with
        | false => simp [optB]
        | true =>
          rw [f93] at h3'
          rw [step_one (c := 93) h3' hs (.inr rfl) (fun h => absurd h (by decide))]
          congr 1
      rw [e93, step_runs _ hgood (safe_tail _ _ _) _ _ h3'.next, step_tail _ _ _ h3'.next.next (by omega)]
    · refine same_iff.2 fun x hx => ?_
      rw [hrest x hx]
      unfold restF four
      by_cases e1 : x = 93
      · subst e1; simp
      by_cases e2 : x = 91
      · subst e2; simp
      by_cases e3 : x = 94
      · subst e3; simp
      by_cases e4 : x = 45
      · subst e4; simp
      have b1 : (x == 93) = false := beq_eq_false_iff_ne.2 e1
      have b2 : (x == 91) = false := beq_eq_false_iff_ne.2 e2
      have b3 : (x == 94) = false := beq_eq_false_iff_ne.2 e3
      have b4 : (x == 45) = false := beq_eq_false_iff_ne.2 e4
      rw [b1, b2, b3, b4]; simp
end BrkP
end Go.Proofs.Ythppilfojicfdaa
