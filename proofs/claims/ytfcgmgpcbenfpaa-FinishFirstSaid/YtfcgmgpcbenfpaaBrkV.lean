/- Walks of the package gimletref03: the bracket of a set. -/
import Derived.Test.YtfcgmgpcbenfpaaProg
import Derived.WalkKit
import Derived.WalkSpells
import Derived.WalkLawsBesides
import Derived.Handy
import Derived.Lib.Hide
import Derived.Test.YtfcgmgpcbenfpaaBrkU
import Derived.Test.YtfcgmgpcbenfpaaMRef
import Derived.Lib.SmallJoins
import Derived.Deep.RegionWith
set_option linter.unusedVariables false
set_option linter.unusedSimpArgs false
namespace Go.Proofs.Ytfcgmgpcbenfpaa
open Go.RowKit SetP BrkP
attribute [local go_sem] run_eq_set0
namespace BrkP
def upF (x : Nat) : Bool := x == 94
theorem up_same (f : Nat → Bool) : same f upF = ((outB f).isEmpty && lastB f == [94]) := by
  have hrest : ∀ x, x < 256 → coverF (runsF (restF f)) x = restF f x := cover_rest f
  rw [Bool.eq_iff_iff]
  constructor
  · intro h
    have hx := same_iff.1 h
    have f93 : f 93 = false := hx 93 (by decide)
    have f91 : f 91 = false := hx 91 (by decide)
    have f94 : f 94 = true := hx 94 (by decide)
    have f45 : f 45 = false := hx 45 (by decide)
    have hR : runsF (restF f) = [] := by
      cases hr : runsF (restF f) with
      | nil => rfl
      | cons p R =>
        exfalso
        have g := runs_good f p (by rw [hr]; exact List.mem_cons_self ..)
        obtain ⟨g0, g1, g2, g3, g4⟩ := g
        have hc := hrest p.1.toNat (by omega)
        rw [hr] at hc
        have ht : coverF (p :: R) p.1.toNat = true := by
          unfold coverF
          rw [List.any_cons, Bool.or_eq_true]
          left; unfold rngF; simp; omega
        rw [ht] at hc
        unfold restF at hc
        rw [hx _ (by omega), g3] at hc
        unfold upF at hc
        have h94 : p.1.toNat = 94 := by simpa using hc.symm
        rw [h94] at g3
        exact absurd g3 (by decide)
    have ho : outB f = [] := by unfold outB; rw [f93, hR, f91]; rfl
    unfold lastB
    rw [ho, f45, f94]; rfl
  · intro h
    rw [Bool.and_eq_true] at h
    obtain ⟨h1, h2⟩ := h
    have ho' : outB f = [] := by simpa using h1
    have hparts := ho'
    unfold outB at hparts
    rw [List.append_eq_nil_iff, List.append_eq_nil_iff] at hparts
    obtain ⟨⟨p1, p2⟩, p3⟩ := hparts
    have f93 : f 93 = false := by cases h : f 93 with | false => rfl | true => rw [h] at p1; cases p1
    have f91 : f 91 = false := by cases h : f 91 with | false => rfl | true => rw [h] at p3; cases p3
    have hR : runsF (restF f) = [] := by
      cases hr : runsF (restF f) with
      | nil => rfl
      | cons p R =>
        rw [hr] at p2
        obtain ⟨m, hm⟩ := runT_head p
        have : runsT (p :: R) = runT p ++ runsT R := rfl
        rw [this, hm] at p2; cases p2
    have f45 : f 45 = false := by
      cases h : f 45 with
      | false => rfl
      | true => unfold lastB at h2; rw [h, ho'] at h2; cases h3 : f 94 <;> rw [h3] at h2 <;> exact absurd h2 (by decide)
    have f94 : f 94 = true := by
      cases h : f 94 with
      | true => rfl
      | false => unfold lastB at h2; rw [f45, h, ho'] at h2; exact absurd h2 (by decide)
    have hno : ∀ x, x < 256 → restF f x = false := fun x hx => by rw [← hrest x hx, hR]; rfl
    refine same_iff.2 fun x hx => ?_
    have h := hno x hx
    unfold restF four at h
    unfold upF
    by_cases e1 : x = 93
    · subst e1; rw [f93]; rfl
    by_cases e2 : x = 91
    · subst e2; rw [f91]; rfl
    by_cases e3 : x = 94
    · subst e3; rw [f94]; rfl
    by_cases e4 : x = 45
    · subst e4; rw [f45]; rfl
    have : f x = false := by simpa [e1, e2, e3, e4] using h
    rw [this]; simp [e3]
theorem runU_cases {c d : UInt8} (h : c.toNat ≤ d.toNat) : (runU c d = [c] ∧ d.toNat = c.toNat) ∨ (runU c d = [c] ++ [d] ∧ d.toNat = c.toNat + 1) ∨ (runU c d = ([c] ++ [45]) ++ [d] ∧ c.toNat + 1 < d.toNat) := by
  unfold runU
  by_cases e1 : c = d
  · subst e1; left; exact ⟨by simp, rfl⟩
  have n1 : (c == d) = false := by simpa using e1
  have n2 : c.toNat ≠ d.toNat := fun h => e1 (UInt8.toNat_inj.1 h)
  rw [n1]
  by_cases e2 : d.toNat = c.toNat + 1
  · right; left
    refine ⟨?_, e2⟩
    rw [if_neg (by simp), if_pos (by simp; omega)]; rfl
  · right; right
    refine ⟨?_, by omega⟩
    rw [if_neg (by simp), if_neg (by simp; omega)]; rfl
end BrkP
def onN (N : Act → World → Prop) : Exit → Act → World → Prop
  | .normal, a, w => N a w
  | _, _, _ => False
theorem region_cut {P : Program} {c : Code} {a : Act} {w : World} {Q : Exit → Act → World → Prop} (act : Act) (R : World → Prop) (h1 : ∀ N : Act → World → Prop, Hid (∀ W, R W → N act W) → c.wp P (onN N) a w) (h2 : ∀ W, R W → Q .normal act W) : c.wp P Q a w :=
  Code.wp_mono (fun e b W h => by cases e <;> first | exact h | exact False.elim h) (h1 (Q .normal) (Lib.hid h2))
set_option maxRecDepth 100000 in
theorem conv_textV (w : World) (a : Addr) (k cap : Nat) (l : List UInt8) (T : ByteArray) (hT : (⟨l.toArray⟩ : ByteArray) = T) (hk : l.length = k) (hc : ∀ j (hj : j < l.length), w.cell? (a.add j) = some (.int .u8 (l[j].toNat : Int))) :
    (convert 70 9 (.slice (some a) k cap)).run Try.prog w = .ok (.string T) w := by
  rw [conv_textU w a k cap l hk hc, hT]
end Go.Proofs.Ytfcgmgpcbenfpaa
