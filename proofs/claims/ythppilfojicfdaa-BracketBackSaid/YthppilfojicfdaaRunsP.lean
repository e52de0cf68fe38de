/- Plain facts on the runs of a set: they lie apart, ascending, and are the set. -/
import Derived.Test.YthppilfojicfdaaSetP
namespace Go.Proofs.Ythppilfojicfdaa
open SetP
namespace SetP
def rngF (lo hi : Int) : Nat → Bool := fun x => decide (lo ≤ (x : Int)) && decide ((x : Int) ≤ hi)
/-- What some ranges have together. -/
def coverF (R : List (Int × Int)) : Nat → Bool := fun x => R.any fun p => rngF p.1 p.2 x
theorem coverF_snoc (l : List (Int × Int)) (p : Int × Int) (x : Nat) : coverF (l ++ [p]) x = (coverF l x || rngF p.1 p.2 x) := by simp [coverF]

structure RunsOk (f : Nat → Bool) (k : Nat) (R : List (Int × Int)) : Prop where
  bd : ∀ p ∈ R, 0 ≤ p.1 ∧ p.1 ≤ p.2 ∧ p.2 < k
  gap : R.Pairwise fun p q => p.2 + 2 ≤ q.1
  cov : ∀ x, coverF R x = (decide (x < k) && f x)

theorem RunsOk.hit {f : Nat → Bool} {k : Nat} {R : List (Int × Int)} (h : RunsOk f k R) {p : Int × Int} (hp : p ∈ R) : f p.2.toNat = true := by
  obtain ⟨h1, h2, h3⟩ := h.bd p hp
  have hc := h.cov p.2.toNat
  have : coverF R p.2.toNat = true := by
    unfold coverF
    rw [List.any_eq_true]
    exact ⟨p, hp, by unfold rngF; simp; omega⟩
  rw [this] at hc
  have := hc.symm
  simp at this
  exact this.2

theorem runsOk (f : Nat → Bool) (k : Nat) : RunsOk f k (runsB f k) := by
  induction k with
  | zero => exact ⟨by simp [runsB], by simp [runsB], by simp [runsB, coverF]⟩
  | succ k ih =>
    rw [runsB]
    cases hk : f k with
    | false =>
      simp only [Bool.false_eq_true, if_false]
      refine ⟨fun p hp => ?_, ih.gap, fun x => ?_⟩
      · have := ih.bd p hp; omega
      · rw [ih.cov]
        by_cases e : x = k
        · subst e; simp [hk]
        · rw [Bool.eq_iff_iff]; simp; omega
    | true =>
      simp only [if_true]
      by_cases hp : decide (0 < k) && f (k - 1)
      · rw [if_pos hp]
        have hp0 := hp
        simp only [Bool.and_eq_true, decide_eq_true_iff] at hp
        obtain ⟨hp1, hp2⟩ := hp
        obtain ⟨l, a, hl⟩ : ∃ l a, runsB f k = l ++ [(a, ((k - 1 : Nat) : Int))] := by
          -- the last pair covers k - 1
          have hc := ih.cov (k - 1)
          rw [hp2] at hc
          have hc' : coverF (runsB f k) (k - 1) = true := by rw [hc]; simp; omega
          unfold coverF at hc'
          rw [List.any_eq_true] at hc'
          obtain ⟨p, hpm, hpr⟩ := hc'
          have hb := ih.bd p hpm
          unfold rngF at hpr
          simp at hpr
          have hp2 : p.2 = ((k - 1 : Nat) : Int) := by omega
          -- it is the last one
          obtain ⟨l1, l2, he⟩ := List.append_of_mem hpm
          have hl2 : l2 = [] := by
            cases l2 with
            | nil => rfl
            | cons q l2 =>
              have hg := ih.gap
              rw [he, List.pairwise_append] at hg
              have hq := (List.pairwise_cons.1 hg.2.1).1 q (by simp)
              have hbq := ih.bd q (by rw [he]; simp)
              omega
          subst hl2
          exact ⟨l1, p.1, by rw [he, ← hp2]⟩
        rw [hl, setLast_snoc]
        have hbd := ih.bd
        have hgap := ih.gap
        have hcov := ih.cov
        rw [hl] at hbd hgap hcov
        refine ⟨fun p hp => ?_, ?_, fun x => ?_⟩
        · rw [List.mem_append, List.mem_singleton] at hp
          rcases hp with hp | rfl
          · have := hbd p (by simp [hp]); omega
          · have := hbd (a, ((k - 1 : Nat) : Int)) (by simp)
            simp only at this ⊢; omega
        · rw [List.pairwise_append] at hgap ⊢
          refine ⟨hgap.1, by simp, fun p hp q hq => ?_⟩
          rw [List.mem_singleton] at hq
          subst hq
          exact hgap.2.2 p hp (a, ((k - 1 : Nat) : Int)) (by simp)
        · have hx := hcov x
          rw [coverF_snoc] at hx ⊢
          have hba := hbd (a, ((k - 1 : Nat) : Int)) (by simp)
          simp only at hba hx ⊢
          by_cases e : x = k
          · subst e
            have : rngF a (x : Int) x = true := by unfold rngF; simp; omega
            rw [this, hk]; simp
          · have e1 : rngF a (k : Int) x = rngF a ((k - 1 : Nat) : Int) x := by
              unfold rngF; rw [Bool.eq_iff_iff]; simp; omega
            rw [e1, hx, Bool.eq_iff_iff]; simp; omega
      · rw [if_neg hp]
        have hlast : ∀ p ∈ runsB f k, p.2 + 2 ≤ (k : Int) := by
          intro p hpm
          have hb := ih.bd p hpm
          have hh := ih.hit hpm
          by_cases e : p.2 = (k : Int) - 1
          · exfalso
            apply hp
            have : p.2.toNat = k - 1 := by omega
            rw [this] at hh
            simp [hh]; omega
          · omega
        refine ⟨fun p hp => ?_, ?_, fun x => ?_⟩
        · rw [List.mem_append, List.mem_singleton] at hp
          rcases hp with hp | rfl
          · have := ih.bd p hp; omega
          · simp only; omega
        · rw [List.pairwise_append]
          refine ⟨ih.gap, by simp, fun p hp q hq => ?_⟩
          rw [List.mem_singleton] at hq
          subst hq
          exact hlast p hp
        · rw [coverF_snoc, ih.cov]
          by_cases e : x = k
          · subst e
            have : rngF (x : Int) (x : Int) x = true := by unfold rngF; simp
            rw [this, hk]; simp
          · have : rngF (k : Int) (k : Int) x = false := by unfold rngF; simp; omega
            rw [this, Bool.eq_iff_iff]; simp; omega

theorem runsF_bd (f : Nat → Bool) (i : Nat) (h : i < (runsF f).length) : 0 ≤ (runsF f)[i].1 ∧ (runsF f)[i].1 ≤ (runsF f)[i].2 ∧ (runsF f)[i].2 < 256 :=
  (runsOk f 256).bd _ (List.getElem_mem h)
theorem runsF_gap (f : Nat → Bool) (i : Nat) (h : i + 1 < (runsF f).length) : (runsF f)[i].2 + 2 ≤ (runsF f)[i + 1].1 :=
  (List.pairwise_iff_getElem.1 (show (runsF f).Pairwise _ from (runsOk f 256).gap)) i (i + 1) (by omega) h (by omega)
theorem runsF_cover (f : Nat → Bool) : same (coverF (runsF f)) f = true := same_iff.2 fun x hx => by
  rw [show runsF f = runsB f 256 from rfl, (runsOk f 256).cov]; simp [hx]
theorem coverF_take (R : List (Int × Int)) (k : Nat) (h : k < R.length) (x : Nat) : coverF (R.take (k + 1)) x = (coverF (R.take k) x || rngF R[k].1 R[k].2 x) := by
  rw [List.take_succ_eq_append_getElem h, coverF_snoc]
end SetP
end Go.Proofs.Ythppilfojicfdaa
