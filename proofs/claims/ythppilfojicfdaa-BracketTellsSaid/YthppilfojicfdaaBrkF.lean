/- Walks of the package gimletref03: a thing, whatever it is; Read. -/
import Derived.Test.YthppilfojicfdaaProg
import Derived.WalkKit
import Derived.WalkSpells
import Derived.WalkLawsBesides
import Derived.Handy
import Derived.Lib.Hide
import Derived.Test.YthppilfojicfdaaBrkE
import Derived.Deep.RegionHeld3
namespace Go.Proofs.Ythppilfojicfdaa
open Go.RowKit SetP BrkP
theorem bne_false {b k : UInt8} (h : (b == k) = true) : ¬ (b != k) = true := by unfold bne; rw [h]; simp
theorem bne_true {b k : UInt8} (h : (b == k) = false) : (b != k) = true := by unfold bne; rw [h]; rfl
theorem rspan_any (s : ByteArray) (i : Nat) (f : Nat → Bool) (nt first : Bool) (hs : s.size ≤ 4611686018427387000) (hi : i ≤ 4611686018427387000) (w : World) (k0 : i + 1 < s.size) (hy : (bt s i == 93) = false ∨ first = true) (hC : (bt s i == 91) = false ∨ ((bt s (i + 1) == 58) = false ∧ marksB (bt s (i + 1)) = false)) : Calls Try.prog 61 #[.string s, stV f i 0 0 false nt, .bool first] w fun e' w' => e' = .returned (resV3 nt (spanF s i f (bt s i))) ∧ Below w.heap.size w w' := by
  have n1 : ¬ s.size ≤ i + 1 := by omega
  cases hq : (bt s (i + 1) == 45) with
  | false =>
    have e : spanF s i f (bt s i) = .go (i + 1) (addB f (bt s i).toNat) := by unfold spanF; rw [if_neg n1, if_pos (bne_true hq)]
    rw [e]; exact rthing_one s i f nt first hs hi w k0 hy hC hq
  | true =>
  by_cases k2 : s.size ≤ i + 2
  · have e : spanF s i f (bt s i) = .bad 2 s.size := by unfold spanF; rw [if_neg n1, if_neg (bne_false hq), if_pos k2]
    rw [e]; exact rthing_short2 s i f nt first hs hi w k0 hy hC hq k2
  cases hr : (bt s (i + 2) == 93) with
  | true =>
    have e : spanF s i f (bt s i) = .go (i + 1) (addB f (bt s i).toNat) := by unfold spanF; rw [if_neg n1, if_neg (bne_false hq), if_neg k2, if_pos hr]
    rw [e]; exact rthing_shut s i f nt first hs hi w k0 hy hC hq (by omega) hr
  | false =>
  by_cases hl : (bt s (i + 2)).toNat < (bt s i).toNat
  · have e : spanF s i f (bt s i) = .bad 4 (i + 3) := by unfold spanF; rw [if_neg n1, if_neg (bne_false hq), if_neg k2, if_neg (by rw [hr]; simp), if_pos hl]
    rw [e]; exact rthing_less s i f nt first hs hi w k0 hy hC hq (by omega) hr hl
  cases ht : (bt s (i + 2) == 91) with
  | false =>
    have e : spanF s i f (bt s i) = .go (i + 3) (fun x => f x || rangeF (bt s i).toNat (bt s (i + 2)).toNat x) := by
      unfold spanF; rw [if_neg n1, if_neg (bne_false hq), if_neg k2, if_neg (by rw [hr]; simp), if_neg hl, if_neg (by rw [ht]; simp), if_neg (by rw [ht]; simp)]
    rw [e]; exact rthing_add s i f nt first hs hi w k0 hy hC hq (by omega) hr hl ht
  | true =>
  by_cases k3 : s.size ≤ i + 3
  · have e : spanF s i f (bt s i) = .bad 2 s.size := by
      unfold spanF; rw [if_neg n1, if_neg (bne_false hq), if_neg k2, if_neg (by rw [hr]; simp), if_neg hl, if_pos (by rw [ht]; simpa using k3)]
    rw [e]; exact rthing_short3 s i f nt first hs hi w k0 hy hC hq (by omega) hr hl ht k3
  cases hm : marksB (bt s (i + 3)) with
  | true =>
    have e : spanF s i f (bt s i) = .bad 3 (i + 4) := by
      unfold spanF; rw [if_neg n1, if_neg (bne_false hq), if_neg k2, if_neg (by rw [hr]; simp), if_neg hl, if_neg (by simp [k3]), if_pos (by rw [ht, hm]; rfl)]
    rw [e]; exact rthing_spec3 s i f nt first hs hi w k0 hy hC hq (by omega) hr hl ht (by omega) hm
  | false =>
    have e : spanF s i f (bt s i) = .go (i + 3) (fun x => f x || rangeF (bt s i).toNat (bt s (i + 2)).toNat x) := by
      unfold spanF; rw [if_neg n1, if_neg (bne_false hq), if_neg k2, if_neg (by rw [hr]; simp), if_neg hl, if_neg (by simp [k3]), if_neg (by rw [hm]; simp)]
    rw [e]; exact rthing_add3 s i f nt first hs hi w k0 hy hC hq (by omega) hr hl ht (by omega) hm
theorem rthing_any (s : ByteArray) (i : Nat) (f : Nat → Bool) (nt first : Bool) (hs : s.size ≤ 4611686018427387000) (hi : i ≤ 4611686018427387000) (w : World) : Calls Try.prog 61 #[.string s, stV f i 0 0 false nt, .bool first] w fun e' w' => e' = .returned (rthing s i f nt first) ∧ Below w.heap.size w w' := by
  unfold rthing
  by_cases k0 : s.size ≤ i
  · rw [if_pos k0]; exact rthing_out s i f nt first hs hi w k0
  rw [if_neg k0]
  cases hy : (bt s i == 93 && !first) with
  | true =>
    simp only [Bool.and_eq_true, Bool.not_eq_true'] at hy
    rw [if_pos rfl]; exact rthing_end s i f nt first hs hi w (by omega) hy.1 hy.2
  | false =>
    rw [if_neg (by simp)]
    have hy' : (bt s i == 93) = false ∨ first = true := by
      cases h : (bt s i == 93)
      · exact .inl rfl
      · right; rw [h] at hy; simpa using hy
    by_cases k1 : s.size ≤ i + 1
    · have e : thingF s i f = .bad 2 s.size := by unfold thingF spanF; simp [k1]
      rw [e]; exact rthing_short s i f nt first hs hi w (by omega) hy' k1
    cases hv : (bt s i == 91) with
    | false =>
      have e : thingF s i f = spanF s i f (bt s i) := by unfold thingF; rw [if_neg (by rw [hv]; simp)]
      rw [e]; exact rspan_any s i f nt first hs hi w (by omega) hy' (.inl hv)
    | true =>
      cases hz : (bt s (i + 1) == 58) with
      | true =>
        have e : thingF s i f = classGo s (i + 2) f (i + 2) := by unfold thingF; rw [if_pos hv, if_neg k1, if_pos hz]
        rw [e]; exact rthing_name s i f nt first hs hi w (by omega) hv hz
      | false =>
        cases hm : marksB (bt s (i + 1)) with
        | true =>
          have e : thingF s i f = .bad 3 (i + 2) := by unfold thingF; rw [if_pos hv, if_neg k1, if_neg (by rw [hz]; simp), if_pos hm]
          rw [e]; exact rthing_spec s i f nt first hs hi w (by omega) hv hz hm
        | false =>
          have hb : bt s i = 91 := by simpa using hv
          have e : thingF s i f = spanF s i f (bt s i) := by unfold thingF; rw [if_pos hv, if_neg k1, if_neg (by rw [hz]; simp), if_neg (by rw [hm]; simp), hb]
          rw [e]; exact rspan_any s i f nt first hs hi w (by omega) hy' (.inr ⟨hz, hm⟩)
end Go.Proofs.Ythppilfojicfdaa
