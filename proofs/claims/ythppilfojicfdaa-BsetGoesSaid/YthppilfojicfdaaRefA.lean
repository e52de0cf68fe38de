/- Walks of the package gimletref01: what the document says of sets. -/
import Derived.Test.YthppilfojicfdaaProg
import Derived.WalkKit
import Derived.WalkSpells
import Derived.WalkLawsBesides
import Derived.Handy
import Derived.Lib.Hide
import Derived.Test.YthppilfojicfdaaBsetC
import Derived.Deep.RegionHeld3
import Derived.Test.YthppilfojicfdaaMem2
namespace Go.Proofs.Ythppilfojicfdaa
open Go.RowKit SetP

/-- A list of yes and no, 256 long. -/
def bools (g : Nat → Bool) : Array Value := (Array.range 256).map fun i => .bool (g i)
theorem bools_at (g : Nat → Bool) (k : Nat) (h : k < 256) : (bools g)[k]? = some (.bool (g k)) := by
  unfold bools
  rw [Array.getElem?_map, Array.getElem?_range, if_pos h]; rfl
theorem bools_size (g : Nat → Bool) : (bools g).size = 256 := by simp [bools]
theorem bools_set (g : Nat → Bool) (k : Nat) (v : Bool) : (bools g).setIfInBounds k (.bool v) = bools (fun x => if x = k then v else g x) := by
  apply Array.ext
  · simp [bools]
  · intro i h1 h2
    have hi : i < 256 := by simpa [bools] using h2
    simp only [bools, Array.getElem_map, Array.getElem_range]
    by_cases e : k = i
    · subst e; simp
    · have e' : ¬ i = k := fun h => e h.symm
      rw [Array.getElem_setIfInBounds_ne (by simpa using hi) e]
      simp [e']
theorem bools_congr {f g : Nat → Bool} (h : ∀ x, x < 256 → f x = g x) : bools f = bools g := by
  unfold bools
  apply Array.ext
  · simp
  · intro i h1 h2
    simp only [Array.getElem_map, Array.getElem_range]
    rw [h i (by simpa using h2)]
theorem bools_step {w : World} {g : Nat} {t : TypeId} {F : Nat → Bool} (h : Slab w g (bools F) t) (k : Nat) (v : Bool) (G : Nat → Bool) (hG : ∀ x, x < 256 → G x = if x = k then v else F x) :
    Slab (w.setCell ⟨g, k, none⟩ (.bool v)) g (bools G) t := by
  have h2 := h.set k (.bool v)
  rw [bools_set] at h2
  rw [bools_congr hG]
  exact h2
theorem bools_zero : Try.zeroCells70 = bools (fun _ => false) := by kernel_rfl

theorem wd_addN (f : Nat → Bool) (b : Nat) : bits .or .u64 (wd f (b / 64)) (IntKind.u64.wrap (2 ^ (b % 64))) = wd (addB f b) (b / 64) := by
  have h := wd_add f (b : Int) (by omega) (b / 64) (by omega)
  rw [show ((b : Int) % 64).toNat = b % 64 by omega] at h
  simpa using h
theorem cells4_at (f : Nat → Bool) (i : Nat) (h : i < 4) : (cells4 f)[i]? = some (.int .u64 (wd f i)) := by
  have h : i = 0 ∨ i = 1 ∨ i = 2 ∨ i = 3 := by omega
  rcases h with rfl | rfl | rfl | rfl <;> rfl
theorem cells4_set (f : Nat → Bool) (b : Nat) (h : b < 256) : (cells4 f).setIfInBounds (b / 64) (.int .u64 (wd (addB f b) (b / 64))) = cells4 (addB f b) := by
  have h4 : b / 64 = 0 ∨ b / 64 = 1 ∨ b / 64 = 2 ∨ b / 64 = 3 := by omega
  have e0 := wd_add_other f b 0
  have e1 := wd_add_other f b 1
  have e2 := wd_add_other f b 2
  have e3 := wd_add_other f b 3
  rcases h4 with h | h | h | h <;> rw [h] at e0 e1 e2 e3 ⊢ <;> simp_all [cells4]

set_option maxRecDepth 100000 in
set_option maxHeartbeats 1000000 in
theorem rof_any (g : Nat → Bool) (w : World) :
    Calls Try.prog 54 #[.agg (bools g)] w fun e w' => e = .returned (setV g) ∧ Below w.heap.size w w' := by
  go_enter Try.func54, Try.ntmps54
  go_wp2
  go_loopw [4] (fun i wr => ∃ k : Nat, k ≤ 256 ∧ i = .int .i64 k ∧ Slab wr w.heap.size (bools g) 70 ∧ Slab wr (w.heap.size + 1) zero4 24 ∧ Slab wr (w.heap.size + 1 + 1) (cells4 (fun x => g x && decide (x < k))) 24 ∧ Below w.heap.size w wr) (fun i _ => (256 - intOf i).toNat)
  case atStart =>
    have e : zero4 = cells4 (fun x => g x && decide (x < 0)) := by
      have e : (fun x => g x && decide (x < 0)) = fun _ => false := by funext x; simp
      rw [e]; unfold zero4 cells4; rw [wd_zero, wd_zero, wd_zero, wd_zero]
    refine ⟨0, by omega, rfl, ((Slab.new _ _ _).alloc _).alloc _, (Slab.newAt _ _ _ (by simp)).alloc _, ?_, by (repeat' (first | (with_reducible exact Below.refl _ _) | (with_reducible assumption) | (with_reducible refine Below.alloc ?_ ?_ _) | (with_reducible refine Below.drew ?_) | (with_reducible refine below_set ?_ ?_ _) | (with_reducible refine below_call ?_ ?_ (by assumption)) | (with_reducible exact Below.size (by assumption)) | omega | go_size))⟩
    rw [← e]
    exact Slab.newAt _ _ _ (by simp)
  case round =>
    obtain ⟨k, hk, rfl, o0, o1, o2, hB⟩ := hrel
    have HB := Lib.hid hB; clear hB
    obtain ⟨c0, f0⟩ := Slab.facts (o0)
    obtain ⟨c1, f1⟩ := Slab.facts (o1)
    obtain ⟨c2, f2⟩ := o2.facts
    by_cases hlt : k < 256
    · have hgk := bools_at g k hlt
      have hz := o2.lt
      obtain ⟨F, hF⟩ : ∃ F : Nat → Bool, F = fun x => g x && decide (x < k) := ⟨_, rfl⟩
      rw [← hF] at o2 c2
      have HF := Lib.hid hF; clear hF
      have hcell : wr.cell? ⟨w.heap.size + 1 + 1, k / 64, none⟩ = some (.int .u64 (wd F (k / 64))) := (c2 _).trans (cells4_at F _ (by omega))
      clear c2
      have hx0 := wd_nonneg F (k / 64)
      cases hg : g k with
      | true =>
        have HG := Lib.hid hg; clear hg
        rw [HG.out] at hgk
        go_wp2
        go_region
        go_wp2
        go_roundw
        case rel =>
          have e : addB F k = fun x => g x && decide (x < k + 1) := by
            rw [HF.out]; funext x; unfold addB
            by_cases e : x = k
            · subst e; simp [HG.out]
            · rw [Bool.eq_iff_iff]; simp [e]; omega
          refine ⟨k + 1, by omega, by go_num, o0.far (by omega) _, o1.far (by omega) _, ?_, (below_set HB.out (by omega) _).drew⟩
          rw [wd_addN, ← e]
          have h2 := o2.set (k / 64) (.int .u64 (wd (addB F k) (k / 64)))
          rw [cells4_set F k hlt] at h2
          exact h2
        case measure => simp [intOf]; omega
      | false =>
        have HG := Lib.hid hg; clear hg
        rw [HG.out] at hgk
        go_wp2
        go_roundw
        case rel =>
          refine ⟨k + 1, by omega, by go_num, o0, o1, ?_, HB.out⟩
          have e : F = fun x => g x && decide (x < k + 1) := by
            rw [HF.out]; funext x
            by_cases e : x = k
            · subst e; simp [HG.out]
            · rw [Bool.eq_iff_iff]; simp; omega
          rw [← e]; exact o2
        case measure => simp [intOf]; omega
    · obtain rfl : k = 256 := by omega
      have e : setV (fun x => g x && decide (x < 256)) = setV g := setV_ext fun x hx => by simp; omega
      have HE := Lib.hid e; clear e
      have hz := o2.lt
      go_wp2
      refine bodyPost_ret (v := setV (fun x => g x && decide (x < 256))) (by simp [results, Try.results54, go_sem, c1]) rfl ⟨by rw [HE.out], ?_⟩
      have hb := HB.out
      (repeat' (first | (with_reducible exact Below.refl _ _) | (with_reducible assumption) | (with_reducible refine Below.alloc ?_ ?_ _) | (with_reducible refine Below.drew ?_) | (with_reducible refine below_set ?_ ?_ _) | (with_reducible refine below_call ?_ ?_ (by assumption)) | (with_reducible exact Below.size (by assumption)) | omega | go_size))
set_option maxRecDepth 100000 in
set_option maxHeartbeats 1000000 in
theorem rrange_any (lo hi : Int) (h0 : 0 ≤ lo) (h1 : lo < 256) (h2 : 0 ≤ hi) (h3 : hi < 256) (w : World) :
    Calls Try.prog 30 #[.int .i64 lo, .int .i64 hi] w fun e w' => e = .returned (setV (rangeF lo hi)) ∧ Below w.heap.size w w' := by
  go_enter Try.func30, Try.ntmps30
  go_wp2
  go_loopw [6] (fun i wr => ∃ k : Nat, lo ≤ k ∧ (k ≤ hi + 1 ∨ k = lo) ∧ i = .int .i64 k ∧ Slab wr w.heap.size zero4 24 ∧ Slab wr (w.heap.size + 1) (bools (belowF lo k)) 70 ∧ Below w.heap.size w wr) (fun i _ => (256 - intOf i).toNat)
  case atStart =>
    have e : Try.zeroCells70 = bools (belowF lo lo.toNat) := by
      rw [bools_zero]
      exact bools_congr fun x _ => by unfold belowF; symm; rw [Bool.and_eq_false_iff, decide_eq_false_iff_not, decide_eq_false_iff_not]; omega
    refine ⟨lo.toNat, by omega, by omega, by congr 1; omega, (Slab.new _ _ _).alloc _, ?_, by (repeat' (first | (with_reducible exact Below.refl _ _) | (with_reducible assumption) | (with_reducible refine Below.alloc ?_ ?_ _) | (with_reducible refine Below.drew ?_) | (with_reducible refine below_set ?_ ?_ _) | (with_reducible refine below_call ?_ ?_ (by assumption)) | (with_reducible exact Below.size (by assumption)) | omega | go_size))⟩
    rw [← e]
    exact Slab.newAt _ _ _ (by simp)
  case round =>
    obtain ⟨k, hk, hk', rfl, o0, o1, hB⟩ := hrel
    have HB := Lib.hid hB; clear hB
    have HK := Lib.hid hk'; clear hk'
    obtain ⟨c0, f0⟩ := Slab.facts (o0)
    have hz := o1.lt
    obtain ⟨c1, f1⟩ := o1.facts
    by_cases hlt : (k : Int) ≤ hi
    · have hcell : wr.cell? ⟨w.heap.size + 1, k, none⟩ = some (.bool (belowF lo k k)) := (c1 _).trans (bools_at _ k (by omega))
      clear c1
      go_wp2
      go_roundw
      case rel =>
        refine ⟨k + 1, by omega, by omega, by go_num, o0.far (by omega) _, ?_, below_set HB.out (by omega) _⟩
        have h2 := o1.set k (.bool true)
        rw [bools_set] at h2
        rw [bools_congr (g := fun x => if x = k then true else belowF lo k x)]
        · exact h2
        · intro x hx
          unfold belowF
          split <;> rw [Bool.eq_iff_iff] <;> simp <;> omega
      case measure => simp [intOf]; omega
    · have he : setV (belowF lo k) = setV (rangeF lo hi) := by
        rcases HK.out with h | h
        · rw [← belowF_end, show (k : Int) = hi + 1 by omega]
        · exact setV_ext fun x hx => by unfold belowF rangeF; rw [Bool.eq_iff_iff]; simp; omega
      have HE := Lib.hid he; clear he
      go_wp2_with (first | (refine wpList_load_row rfl 70 (.tmp 5) rfl (w.heap.size + 1) rfl 70 _ (0, 0) _ o1 Try.underlying70 rfl (by rw [bools_size]; kernel_rfl) ?_) | (go_at_call 54; go_must (refine (rof_any _ _).mono ?_); rintro e2 w2 ⟨rfl, hb2⟩; have o2 := o0.call hb2; obtain ⟨c2, f2⟩ := Slab.facts (o2)))
      refine bodyPost_ret (v := setV (belowF lo k)) (by simp [results, Try.results30, go_sem, c2]) rfl ⟨by rw [HE.out], ?_⟩
      have hb := HB.out
      (repeat' (first | (with_reducible exact Below.refl _ _) | (with_reducible assumption) | (with_reducible refine Below.alloc ?_ ?_ _) | (with_reducible refine Below.drew ?_) | (with_reducible refine below_set ?_ ?_ _) | (with_reducible refine below_call ?_ ?_ (by assumption)) | (with_reducible exact Below.size (by assumption)) | omega | go_size))

set_option maxHeartbeats 1000000 in
theorem rhas_any (f : Nat → Bool) (b : Int) (hb0 : 0 ≤ b) (hb1 : b < 256) (w : World) :
    Calls Try.prog 27 #[setV f, .int .i64 b] w fun e w' => e = .returned (.bool (f b.toNat)) ∧ Below w.heap.size w w' := by
  have hv := words_at f b hb0 hb1
  have hx0 := wd_nonneg f (b.toNat / 64)
  go_enter Try.func27, Try.ntmps27
  go_wp2
  go_ret
  refine ⟨ret_v (congrArg Value.bool (bit_shr f b hb0)), ?_⟩
  go_grown

set_option maxRecDepth 100000 in
set_option maxHeartbeats 2000000 in
theorem rboth_or (f g : Nat → Bool) (w : World) :
    Calls Try.prog 31 #[setV f, setV g, .int .i64 1] w fun e w' => e = .returned (setV fun x => f x || g x) ∧ Below w.heap.size w w' := by
  go_enter Try.func31, Try.ntmps31
  go_wp2
  go_loopw [8] (fun i wr => ∃ k : Nat, k ≤ 256 ∧ i = .int .i64 k ∧ Slab wr w.heap.size (cells4 f) 24 ∧ Slab wr (w.heap.size + 1) (cells4 g) 24 ∧ Slab wr (w.heap.size + 1 + 1) zero4 24 ∧ Slab wr (w.heap.size + 1 + 1 + 1) (bools (fun x => (f x || g x) && decide (x < k))) 70 ∧ Below w.heap.size w wr) (fun i _ => (256 - intOf i).toNat)
  case atStart =>
    have e : Try.zeroCells70 = bools (fun x => (f x || g x) && decide (x < 0)) := by
      rw [bools_zero]
      exact bools_congr fun x _ => by simp
    refine ⟨0, by omega, rfl, (((Slab.new _ _ _).alloc _).alloc _).alloc _, ((Slab.newAt _ _ _ (by simp)).alloc _).alloc _, (Slab.newAt _ _ _ (by simp)).alloc _, ?_, by (repeat' (first | (with_reducible exact Below.refl _ _) | (with_reducible assumption) | (with_reducible refine Below.alloc ?_ ?_ _) | (with_reducible refine Below.drew ?_) | (with_reducible refine below_set ?_ ?_ _) | (with_reducible refine below_call ?_ ?_ (by assumption)) | (with_reducible exact Below.size (by assumption)) | omega | go_size))⟩
    rw [← e]
    exact Slab.newAt _ _ _ (by simp)
  case round =>
    obtain ⟨k, hk, rfl, o0, o1, o2, o3, hB⟩ := hrel
    have HB := Lib.hid hB; clear hB
    by_cases hlt : k < 256
    · have hz := o3.lt
      obtain ⟨F, hF⟩ : ∃ F : Nat → Bool, F = fun x => (f x || g x) && decide (x < k) := ⟨_, rfl⟩
      rw [← hF] at o3
      have HF := Lib.hid hF; clear hF
      obtain ⟨c0, f0⟩ := o0.facts
      obtain ⟨c1, f1⟩ := o1.facts
      have hy0 : w.heap.size < wr.heap.size := by omega
      have hy1 : w.heap.size + 1 < wr.heap.size := by omega
      go_wp2_with fail
      go_region_held3 (fun w' => (∀ i, w'.cell? ⟨w.heap.size, i, none⟩ = (cells4 f)[i]?) ∧ (∀ i, w'.cell? ⟨w.heap.size + 1, i, none⟩ = (cells4 g)[i]?)) (exact ⟨o0.cell, o1.cell⟩)
        (first | (go_at_call 27; refine (rhas_any _ _ (by omega) (by omega) _).mono ?_; rintro e1 w1 ⟨rfl, hb1⟩; have HB := Lib.hid (below_then (by first | exact HB.out | exact HB.out.drew | exact below_drewN HB.out _) hb1); have o0 := o0.callD hb1 rfl; have o1 := o1.callD hb1 rfl; have o2 := o2.callD hb1 rfl; have o3 := o3.callD hb1 rfl; have hz := o3.lt))
      have hcell : w1.cell? ⟨w.heap.size + 1 + 1 + 1, k, none⟩ = some (.bool (F k)) := (o3.cell k).trans (bools_at F k hlt)
      have hfr : w1.frozen? ⟨w.heap.size + 1 + 1 + 1, k, none⟩ = false := o3.frozen k
      cases hfk : f k <;> cases hgk : g k
      all_goals
        have HX := Lib.hid hfk; clear hfk
        have HY := Lib.hid hgk; clear hgk
        go_wp2
        go_roundw
        case rel =>
          refine ⟨k + 1, by omega, by go_num, o0.far (by omega) _, o1.far (by omega) _, o2.far (by omega) _, bools_step o3 k _ _ (fun x _ => ?_), below_set HB.out (by omega) _⟩
          rw [HF.out]
          by_cases e : x = k
          · subst e; simp [HX.out, HY.out]
          · have e2 : decide (x < k + 1) = decide (x < k) := by rw [decide_eq_decide]; omega
            simp only [e, e2, if_false]
        case measure => simp [intOf]; omega
    · obtain rfl : k = 256 := by omega
      obtain ⟨c2, f2⟩ := o2.facts
      have hz := o3.lt
      have he : setV (fun x => (f x || g x) && decide (x < 256)) = setV (fun x => f x || g x) := setV_ext fun x hx => by simp [hx]
      have HE := Lib.hid he; clear he
      go_wp2_with (first | (refine wpList_load_row rfl 70 (.tmp 7) rfl (w.heap.size + 1 + 1 + 1) rfl 70 _ (0, 0) _ o3 Try.underlying70 rfl (by rw [bools_size]; kernel_rfl) ?_) | (go_at_call 54; go_must (refine (rof_any _ _).mono ?_); rintro e4 w4 ⟨rfl, hb4⟩; have o4 := o2.call hb4; obtain ⟨c4, f4⟩ := Slab.facts (o4)))
      refine bodyPost_ret (v := setV (fun x => (f x || g x) && decide (x < 256))) (by simp [results, Try.results31, go_sem, c4]) rfl ⟨by rw [HE.out], ?_⟩
      have hb := HB.out
      (repeat' (first | (with_reducible exact Below.refl _ _) | (with_reducible assumption) | (with_reducible refine Below.alloc ?_ ?_ _) | (with_reducible refine Below.drew ?_) | (with_reducible refine below_set ?_ ?_ _) | (with_reducible refine below_call ?_ ?_ (by assumption)) | (with_reducible exact Below.size (by assumption)) | omega | go_size))

set_option maxRecDepth 100000 in
set_option maxHeartbeats 2000000 in
theorem rboth_and (f g : Nat → Bool) (w : World) :
    Calls Try.prog 31 #[setV f, setV g, .int .i64 2] w fun e w' => e = .returned (setV fun x => f x && g x) ∧ Below w.heap.size w w' := by
  go_enter Try.func31, Try.ntmps31
  go_wp2
  go_loopw [8] (fun i wr => ∃ k : Nat, k ≤ 256 ∧ i = .int .i64 k ∧ Slab wr w.heap.size (cells4 f) 24 ∧ Slab wr (w.heap.size + 1) (cells4 g) 24 ∧ Slab wr (w.heap.size + 1 + 1) zero4 24 ∧ Slab wr (w.heap.size + 1 + 1 + 1) (bools (fun x => (f x && g x) && decide (x < k))) 70 ∧ Below w.heap.size w wr) (fun i _ => (256 - intOf i).toNat)
  case atStart =>
    have e : Try.zeroCells70 = bools (fun x => (f x && g x) && decide (x < 0)) := by
      rw [bools_zero]
      exact bools_congr fun x _ => by simp
    refine ⟨0, by omega, rfl, (((Slab.new _ _ _).alloc _).alloc _).alloc _, ((Slab.newAt _ _ _ (by simp)).alloc _).alloc _, (Slab.newAt _ _ _ (by simp)).alloc _, ?_, by (repeat' (first | (with_reducible exact Below.refl _ _) | (with_reducible assumption) | (with_reducible refine Below.alloc ?_ ?_ _) | (with_reducible refine Below.drew ?_) | (with_reducible refine below_set ?_ ?_ _) | (with_reducible refine below_call ?_ ?_ (by assumption)) | (with_reducible exact Below.size (by assumption)) | omega | go_size))⟩
    rw [← e]
    exact Slab.newAt _ _ _ (by simp)
  case round =>
    obtain ⟨k, hk, rfl, o0, o1, o2, o3, hB⟩ := hrel
    have HB := Lib.hid hB; clear hB
    by_cases hlt : k < 256
    · have hz := o3.lt
      obtain ⟨F, hF⟩ : ∃ F : Nat → Bool, F = fun x => (f x && g x) && decide (x < k) := ⟨_, rfl⟩
      rw [← hF] at o3
      have HF := Lib.hid hF; clear hF
      obtain ⟨c0, f0⟩ := o0.facts
      obtain ⟨c1, f1⟩ := o1.facts
      have hy0 : w.heap.size < wr.heap.size := by omega
      have hy1 : w.heap.size + 1 < wr.heap.size := by omega
      go_wp2_with fail
      go_region_held3 (fun w' => (∀ i, w'.cell? ⟨w.heap.size, i, none⟩ = (cells4 f)[i]?) ∧ (∀ i, w'.cell? ⟨w.heap.size + 1, i, none⟩ = (cells4 g)[i]?)) (exact ⟨o0.cell, o1.cell⟩)
        (first | (go_at_call 27; refine (rhas_any _ _ (by omega) (by omega) _).mono ?_; rintro e1 w1 ⟨rfl, hb1⟩; have HB := Lib.hid (below_then (by first | exact HB.out | exact HB.out.drew | exact below_drewN HB.out _) hb1); have o0 := o0.callD hb1 rfl; have o1 := o1.callD hb1 rfl; have o2 := o2.callD hb1 rfl; have o3 := o3.callD hb1 rfl; have hz := o3.lt))
      have hcell : w1.cell? ⟨w.heap.size + 1 + 1 + 1, k, none⟩ = some (.bool (F k)) := (o3.cell k).trans (bools_at F k hlt)
      have hfr : w1.frozen? ⟨w.heap.size + 1 + 1 + 1, k, none⟩ = false := o3.frozen k
      cases hfk : f k <;> cases hgk : g k
      all_goals
        have HX := Lib.hid hfk; clear hfk
        have HY := Lib.hid hgk; clear hgk
        go_wp2
        go_roundw
        case rel =>
          refine ⟨k + 1, by omega, by go_num, o0.far (by omega) _, o1.far (by omega) _, o2.far (by omega) _, bools_step o3 k _ _ (fun x _ => ?_), below_set HB.out (by omega) _⟩
          rw [HF.out]
          by_cases e : x = k
          · subst e; simp [HX.out, HY.out]
          · have e2 : decide (x < k + 1) = decide (x < k) := by rw [decide_eq_decide]; omega
            simp only [e, e2, if_false]
        case measure => simp [intOf]; omega
    · obtain rfl : k = 256 := by omega
      obtain ⟨c2, f2⟩ := o2.facts
      have hz := o3.lt
      have he : setV (fun x => (f x && g x) && decide (x < 256)) = setV (fun x => f x && g x) := setV_ext fun x hx => by simp [hx]
      have HE := Lib.hid he; clear he
      go_wp2_with (first | (refine wpList_load_row rfl 70 (.tmp 7) rfl (w.heap.size + 1 + 1 + 1) rfl 70 _ (0, 0) _ o3 Try.underlying70 rfl (by rw [bools_size]; kernel_rfl) ?_) | (go_at_call 54; go_must (refine (rof_any _ _).mono ?_); rintro e4 w4 ⟨rfl, hb4⟩; have o4 := o2.call hb4; obtain ⟨c4, f4⟩ := Slab.facts (o4)))
      refine bodyPost_ret (v := setV (fun x => (f x && g x) && decide (x < 256))) (by simp [results, Try.results31, go_sem, c4]) rfl ⟨by rw [HE.out], ?_⟩
      have hb := HB.out
      (repeat' (first | (with_reducible exact Below.refl _ _) | (with_reducible assumption) | (with_reducible refine Below.alloc ?_ ?_ _) | (with_reducible refine Below.drew ?_) | (with_reducible refine below_set ?_ ?_ _) | (with_reducible refine below_call ?_ ?_ (by assumption)) | (with_reducible exact Below.size (by assumption)) | omega | go_size))

set_option maxRecDepth 100000 in
set_option maxHeartbeats 2000000 in
theorem rboth_less (f g : Nat → Bool) (w : World) :
    Calls Try.prog 31 #[setV f, setV g, .int .i64 3] w fun e w' => e = .returned (setV fun x => f x && !g x) ∧ Below w.heap.size w w' := by
  go_enter Try.func31, Try.ntmps31
  go_wp2
  go_loopw [8] (fun i wr => ∃ k : Nat, k ≤ 256 ∧ i = .int .i64 k ∧ Slab wr w.heap.size (cells4 f) 24 ∧ Slab wr (w.heap.size + 1) (cells4 g) 24 ∧ Slab wr (w.heap.size + 1 + 1) zero4 24 ∧ Slab wr (w.heap.size + 1 + 1 + 1) (bools (fun x => (f x && !g x) && decide (x < k))) 70 ∧ Below w.heap.size w wr) (fun i _ => (256 - intOf i).toNat)
  case atStart =>
    have e : Try.zeroCells70 = bools (fun x => (f x && !g x) && decide (x < 0)) := by
      rw [bools_zero]
      exact bools_congr fun x _ => by simp
    refine ⟨0, by omega, rfl, (((Slab.new _ _ _).alloc _).alloc _).alloc _, ((Slab.newAt _ _ _ (by simp)).alloc _).alloc _, (Slab.newAt _ _ _ (by simp)).alloc _, ?_, by (repeat' (first | (with_reducible exact Below.refl _ _) | (with_reducible assumption) | (with_reducible refine Below.alloc ?_ ?_ _) | (with_reducible refine Below.drew ?_) | (with_reducible refine below_set ?_ ?_ _) | (with_reducible refine below_call ?_ ?_ (by assumption)) | (with_reducible exact Below.size (by assumption)) | omega | go_size))⟩
    rw [← e]
    exact Slab.newAt _ _ _ (by simp)
  case round =>
    obtain ⟨k, hk, rfl, o0, o1, o2, o3, hB⟩ := hrel
    have HB := Lib.hid hB; clear hB
    by_cases hlt : k < 256
    · have hz := o3.lt
      obtain ⟨F, hF⟩ : ∃ F : Nat → Bool, F = fun x => (f x && !g x) && decide (x < k) := ⟨_, rfl⟩
      rw [← hF] at o3
      have HF := Lib.hid hF; clear hF
      obtain ⟨c0, f0⟩ := o0.facts
      obtain ⟨c1, f1⟩ := o1.facts
      have hy0 : w.heap.size < wr.heap.size := by omega
      have hy1 : w.heap.size + 1 < wr.heap.size := by omega
      go_wp2_with fail
      go_region_held3 (fun w' => (∀ i, w'.cell? ⟨w.heap.size, i, none⟩ = (cells4 f)[i]?) ∧ (∀ i, w'.cell? ⟨w.heap.size + 1, i, none⟩ = (cells4 g)[i]?)) (exact ⟨o0.cell, o1.cell⟩)
        (first | (go_at_call 27; refine (rhas_any _ _ (by omega) (by omega) _).mono ?_; rintro e1 w1 ⟨rfl, hb1⟩; have HB := Lib.hid (below_then (by first | exact HB.out | exact HB.out.drew | exact below_drewN HB.out _) hb1); have o0 := o0.callD hb1 rfl; have o1 := o1.callD hb1 rfl; have o2 := o2.callD hb1 rfl; have o3 := o3.callD hb1 rfl; have hz := o3.lt))
      have hcell : w1.cell? ⟨w.heap.size + 1 + 1 + 1, k, none⟩ = some (.bool (F k)) := (o3.cell k).trans (bools_at F k hlt)
      have hfr : w1.frozen? ⟨w.heap.size + 1 + 1 + 1, k, none⟩ = false := o3.frozen k
      cases hfk : f k <;> cases hgk : g k
      all_goals
        have HX := Lib.hid hfk; clear hfk
        have HY := Lib.hid hgk; clear hgk
        go_wp2
        go_roundw
        case rel =>
          refine ⟨k + 1, by omega, by go_num, o0.far (by omega) _, o1.far (by omega) _, o2.far (by omega) _, bools_step o3 k _ _ (fun x _ => ?_), below_set HB.out (by omega) _⟩
          rw [HF.out]
          by_cases e : x = k
          · subst e; simp [HX.out, HY.out]
          · have e2 : decide (x < k + 1) = decide (x < k) := by rw [decide_eq_decide]; omega
            simp only [e, e2, if_false]
        case measure => simp [intOf]; omega
    · obtain rfl : k = 256 := by omega
      obtain ⟨c2, f2⟩ := o2.facts
      have hz := o3.lt
      have he : setV (fun x => (f x && !g x) && decide (x < 256)) = setV (fun x => f x && !g x) := setV_ext fun x hx => by simp [hx]
      have HE := Lib.hid he; clear he
      go_wp2_with (first | (refine wpList_load_row rfl 70 (.tmp 7) rfl (w.heap.size + 1 + 1 + 1) rfl 70 _ (0, 0) _ o3 Try.underlying70 rfl (by rw [bools_size]; kernel_rfl) ?_) | (go_at_call 54; go_must (refine (rof_any _ _).mono ?_); rintro e4 w4 ⟨rfl, hb4⟩; have o4 := o2.call hb4; obtain ⟨c4, f4⟩ := Slab.facts (o4)))
      refine bodyPost_ret (v := setV (fun x => (f x && !g x) && decide (x < 256))) (by simp [results, Try.results31, go_sem, c4]) rfl ⟨by rw [HE.out], ?_⟩
      have hb := HB.out
      (repeat' (first | (with_reducible exact Below.refl _ _) | (with_reducible assumption) | (with_reducible refine Below.alloc ?_ ?_ _) | (with_reducible refine Below.drew ?_) | (with_reducible refine below_set ?_ ?_ _) | (with_reducible refine below_call ?_ ?_ (by assumption)) | (with_reducible exact Below.size (by assumption)) | omega | go_size))

end Go.Proofs.Ythppilfojicfdaa
