/- Walks of the package gimletref01: what the document says of sets. -/
import Derived.Test.YtddokdjlmdoebaaProg
import Derived.WalkKit
import Derived.WalkSpells
import Derived.WalkLawsBesides
import Derived.Handy
import Derived.Lib.Hide
import Derived.Test.YtddokdjlmdoebaaMBset
import Derived.Deep.RegionHeld3
import Derived.Test.YtddokdjlmdoebaaMMem
set_option linter.unusedVariables false
set_option linter.unusedSimpArgs false
namespace Go.Proofs.Ytddokdjlmdoebaa
open Go.RowKit SetP

/-- A list of yes and no, 256 long. -/
def bools (g : Nat → Bool) : Array Value := (Array.range 256).map fun i => .bool (g i)
theorem bools_at (g : Nat → Bool) (k : Nat) (h : k < 256) : (bools g)[k]? = some (.bool (g k)) := by
  unfold bools
  rw [Array.getElem?_map, Array.getElem?_range, if_pos h]; rfl
theorem bools_size (g : Nat → Bool) : (bools g).size = 256 := by simp [bools]
theorem bools_set (g : Nat → Bool) (k : Nat) (v : Bool) : (bools g).setIfInBounds k (.bool v) = bools (fun x => if x = k then v else g x) := by
  apply Array.ext
  · simp [bools]
  · intro i h1 h2
    have hi : i < 256 := by simpa [bools] using h2
    simp only [bools, Array.getElem_map, Array.getElem_range]
    by_cases e : k = i
    · subst e; simp
    · have e' : ¬ i = k := fun h => e h.symm
      rw [Array.getElem_setIfInBounds_ne (by simpa using hi) e]
      simp [e']
theorem bools_congr {f g : Nat → Bool} (h : ∀ x, x < 256 → f x = g x) : bools f = bools g := by
  unfold bools
  apply Array.ext
  · simp
  · intro i h1 h2
    simp only [Array.getElem_map, Array.getElem_range]
    rw [h i (by simpa using h2)]
theorem bools_step {w : World} {g : Nat} {t : TypeId} {F : Nat → Bool} (h : Slab w g (bools F) t) (k : Nat) (v : Bool) (G : Nat → Bool) (hG : ∀ x, x < 256 → G x = if x = k then v else F x) :
    Slab (w.setCell ⟨g, k, none⟩ (.bool v)) g (bools G) t := by
  have h2 := h.set k (.bool v)
  rw [bools_set] at h2
  rw [bools_congr hG]
  exact h2
set_option maxRecDepth 100000 in
theorem bools_zero : Try.zeroCells167 = bools (fun _ => false) := by kernel_rfl

theorem wd_addN (f : Nat → Bool) (b : Nat) : bits .or .u64 (wd f (b / 64)) (IntKind.u64.wrap (2 ^ (b % 64))) = wd (addB f b) (b / 64) := by
  have h := wd_add f (b : Int) (by omega) (b / 64) (by omega)
  rw [show ((b : Int) % 64).toNat = b % 64 by omega] at h
  simpa using h
theorem cells4_at (f : Nat → Bool) (i : Nat) (h : i < 4) : (cells4 f)[i]? = some (.int .u64 (wd f i)) := by
  have h : i = 0 ∨ i = 1 ∨ i = 2 ∨ i = 3 := by omega
  rcases h with rfl | rfl | rfl | rfl <;> rfl
theorem cells4_set (f : Nat → Bool) (b : Nat) (h : b < 256) : (cells4 f).setIfInBounds (b / 64) (.int .u64 (wd (addB f b) (b / 64))) = cells4 (addB f b) := by
  have h4 : b / 64 = 0 ∨ b / 64 = 1 ∨ b / 64 = 2 ∨ b / 64 = 3 := by omega
  have e0 := wd_add_other f b 0
  have e1 := wd_add_other f b 1
  have e2 := wd_add_other f b 2
  have e3 := wd_add_other f b 3
  rcases h4 with h | h | h | h <;> rw [h] at e0 e1 e2 e3 ⊢ <;> simp_all [cells4]

set_option maxRecDepth 100000 in
set_option maxHeartbeats 1000000 in
theorem rof_any (g : Nat → Bool) (w : World) :
    Calls Try.prog 118 #[.agg (bools g)] w fun e w' => e = .returned (setV g) ∧ Below w.heap.size w w' := by
  go_enter Try.func118, Try.ntmps118
  go_wp2
  go_loopw [4] (fun i wr => ∃ k : Nat, k ≤ 256 ∧ i = .int .i64 k ∧ Slab wr w.heap.size (bools g) 167 ∧ Slab wr (w.heap.size + 1) zero4 41 ∧ Slab wr (w.heap.size + 1 + 1) (cells4 (fun x => g x && decide (x < k))) 41 ∧ Below w.heap.size w wr) (fun i _ => (256 - intOf i).toNat)
  case atStart =>
    have e : zero4 = cells4 (fun x => g x && decide (x < 0)) := by
      have e : (fun x => g x && decide (x < 0)) = fun _ => false := by funext x; simp
      rw [e]; unfold zero4 cells4; rw [wd_zero, wd_zero, wd_zero, wd_zero]
    refine ⟨0, by omega, rfl, ((Slab.new _ _ _).alloc _).alloc _, (Slab.newAt _ _ _ (by simp)).alloc _, ?_, by (repeat' (first | (with_reducible exact Below.refl _ _) | (with_reducible assumption) | (with_reducible refine Below.alloc ?_ ?_ _) | (with_reducible refine Below.drew ?_) | (with_reducible refine below_set ?_ ?_ _) | (with_reducible refine below_call ?_ ?_ (by assumption)) | (with_reducible exact Below.size (by assumption)) | omega | go_size))⟩
    rw [← e]
    exact Slab.newAt _ _ _ (by simp)
  case round =>
    obtain ⟨k, hk, rfl, o0, o1, o2, hB⟩ := hrel
    have HB := Lib.hid hB; clear hB
    obtain ⟨c0, f0⟩ := Slab.facts (o0)
    obtain ⟨c1, f1⟩ := Slab.facts (o1)
    obtain ⟨c2, f2⟩ := o2.facts
    by_cases hlt : k < 256
    · have hgk := bools_at g k hlt
      have hz := o2.lt
      obtain ⟨F, hF⟩ : ∃ F : Nat → Bool, F = fun x => g x && decide (x < k) := ⟨_, rfl⟩
      rw [← hF] at o2 c2
      have HF := Lib.hid hF; clear hF
      have hcell : wr.cell? ⟨w.heap.size + 1 + 1, k / 64, none⟩ = some (.int .u64 (wd F (k / 64))) := (c2 _).trans (cells4_at F _ (by omega))
      clear c2
      have hx0 := wd_nonneg F (k / 64)
      cases hg : g k with
      | true =>
        have HG := Lib.hid hg; clear hg
        rw [HG.out] at hgk
        go_wp2
        go_region
        go_wp2
        go_roundw
        case rel =>
          have e : addB F k = fun x => g x && decide (x < k + 1) := by
            rw [HF.out]; funext x; unfold addB
            by_cases e : x = k
            · subst e; simp [HG.out]
            · rw [Bool.eq_iff_iff]; simp [e]; omega
          refine ⟨k + 1, by omega, by go_num, o0.far (by omega) _, o1.far (by omega) _, ?_, (below_set HB.out (by omega) _).drew⟩
          rw [wd_addN, ← e]
          have h2 := o2.set (k / 64) (.int .u64 (wd (addB F k) (k / 64)))
          rw [cells4_set F k hlt] at h2
          exact h2
        case measure => simp [intOf]; omega
      | false =>
        have HG := Lib.hid hg; clear hg
        rw [HG.out] at hgk
        go_wp2
        go_roundw
        case rel =>
          refine ⟨k + 1, by omega, by go_num, o0, o1, ?_, HB.out⟩
          have e : F = fun x => g x && decide (x < k + 1) := by
            rw [HF.out]; funext x
            by_cases e : x = k
            · subst e; simp [HG.out]
            · rw [Bool.eq_iff_iff]; simp; omega
          rw [← e]; exact o2
        case measure => simp [intOf]; omega
    · obtain rfl : k = 256 := by omega
      have e : setV (fun x => g x && decide (x < 256)) = setV g := setV_ext fun x hx => by simp; omega
      have HE := Lib.hid e; clear e
      have hz := o2.lt
      go_wp2
      refine bodyPost_ret (v := setV (fun x => g x && decide (x < 256))) (by simp [results, Try.results118, go_sem, c1]) rfl ⟨by rw [HE.out], ?_⟩
      have hb := HB.out
      (repeat' (first | (with_reducible exact Below.refl _ _) | (with_reducible assumption) | (with_reducible refine Below.alloc ?_ ?_ _) | (with_reducible refine Below.drew ?_) | (with_reducible refine below_set ?_ ?_ _) | (with_reducible refine below_call ?_ ?_ (by assumption)) | (with_reducible exact Below.size (by assumption)) | omega | go_size))
set_option maxRecDepth 100000 in
set_option maxHeartbeats 1000000 in
theorem rrange_any (lo hi : Int) (h0 : 0 ≤ lo) (h1 : lo < 256) (h2 : 0 ≤ hi) (h3 : hi < 256) (w : World) :
    Calls Try.prog 71 #[.int .i64 lo, .int .i64 hi] w fun e w' => e = .returned (setV (rangeF lo hi)) ∧ Below w.heap.size w w' := by
  go_enter Try.func71, Try.ntmps71
  go_wp2
  go_loopw [6] (fun i wr => ∃ k : Nat, lo ≤ k ∧ (k ≤ hi + 1 ∨ k = lo) ∧ i = .int .i64 k ∧ Slab wr w.heap.size zero4 41 ∧ Slab wr (w.heap.size + 1) (bools (belowF lo k)) 167 ∧ Below w.heap.size w wr) (fun i _ => (256 - intOf i).toNat)
  case atStart =>
    have e : Try.zeroCells167 = bools (belowF lo lo.toNat) := by
      rw [bools_zero]
      exact bools_congr fun x _ => by unfold belowF; symm; rw [Bool.and_eq_false_iff, decide_eq_false_iff_not, decide_eq_false_iff_not]; omega
    refine ⟨lo.toNat, by omega, by omega, by congr 1; omega, (Slab.new _ _ _).alloc _, ?_, by (repeat' (first | (with_reducible exact Below.refl _ _) | (with_reducible assumption) | (with_reducible refine Below.alloc ?_ ?_ _) | (with_reducible refine Below.drew ?_) | (with_reducible refine below_set ?_ ?_ _) | (with_reducible refine below_call ?_ ?_ (by assumption)) | (with_reducible exact Below.size (by assumption)) | omega | go_size))⟩
    rw [← e]
    exact Slab.newAt _ _ _ (by simp)
  case round =>
    obtain ⟨k, hk, hk', rfl, o0, o1, hB⟩ := hrel
    have HB := Lib.hid hB; clear hB
    have HK := Lib.hid hk'; clear hk'
    obtain ⟨c0, f0⟩ := Slab.facts (o0)
    have hz := o1.lt
    obtain ⟨c1, f1⟩ := o1.facts
    by_cases hlt : (k : Int) ≤ hi
    · have hcell : wr.cell? ⟨w.heap.size + 1, k, none⟩ = some (.bool (belowF lo k k)) := (c1 _).trans (bools_at _ k (by omega))
      clear c1
      go_wp2
      go_roundw
      case rel =>
        refine ⟨k + 1, by omega, by omega, by go_num, o0.far (by omega) _, ?_, below_set HB.out (by omega) _⟩
        have h2 := o1.set k (.bool true)
        rw [bools_set] at h2
        rw [bools_congr (g := fun x => if x = k then true else belowF lo k x)]
        · exact h2
        · intro x hx
          unfold belowF
          split <;> rw [Bool.eq_iff_iff] <;> simp <;> omega
      case measure => simp [intOf]; omega
    · have he : setV (belowF lo k) = setV (rangeF lo hi) := by
        rcases HK.out with h | h
        · rw [← belowF_end, show (k : Int) = hi + 1 by omega]
        · exact setV_ext fun x hx => by unfold belowF rangeF; rw [Bool.eq_iff_iff]; simp; omega
      have HE := Lib.hid he; clear he
      go_wp2_with (first | (refine wpList_load_row rfl 167 (.tmp 5) rfl (w.heap.size + 1) rfl 167 _ (0, 0) _ o1 Try.underlying167 rfl (by rw [bools_size]; kernel_rfl) ?_) | (go_at_call 118; go_must (refine (rof_any _ _).mono ?_); rintro e2 w2 ⟨rfl, hb2⟩; have o2 := o0.call hb2; obtain ⟨c2, f2⟩ := Slab.facts (o2)))
      refine bodyPost_ret (v := setV (belowF lo k)) (by simp [results, Try.results71, go_sem, c2]) rfl ⟨by rw [HE.out], ?_⟩
      have hb := HB.out
      (repeat' (first | (with_reducible exact Below.refl _ _) | (with_reducible assumption) | (with_reducible refine Below.alloc ?_ ?_ _) | (with_reducible refine Below.drew ?_) | (with_reducible refine below_set ?_ ?_ _) | (with_reducible refine below_call ?_ ?_ (by assumption)) | (with_reducible exact Below.size (by assumption)) | omega | go_size))

set_option maxRecDepth 100000 in
set_option maxHeartbeats 1000000 in
theorem rhas_any (f : Nat → Bool) (b : Int) (hb0 : 0 ≤ b) (hb1 : b < 256) (w : World) :
    Calls Try.prog 126 #[setV f, .int .i64 b] w fun e w' => e = .returned (.bool (f b.toNat)) ∧ Below w.heap.size w w' := by
  have hv := words_at f b hb0 hb1
  have hx0 := wd_nonneg f (b.toNat / 64)
  go_enter Try.func126, Try.ntmps126
  go_wp2
  go_ret
  refine ⟨ret_v (congrArg Value.bool (bit_shr f b hb0)), ?_⟩
  go_grown

set_option maxRecDepth 100000 in
set_option maxHeartbeats 2000000 in
theorem rboth_or (f g : Nat → Bool) (w : World) :
    Calls Try.prog 129 #[setV f, setV g, .int .i64 1] w fun e w' => e = .returned (setV fun x => f x || g x) ∧ Below w.heap.size w w' := by
  go_enter Try.func129, Try.ntmps129
  go_wp2
  go_loopw [8] (fun i wr => ∃ k : Nat, k ≤ 256 ∧ i = .int .i64 k ∧ Slab wr w.heap.size (cells4 f) 41 ∧ Slab wr (w.heap.size + 1) (cells4 g) 41 ∧ Slab wr (w.heap.size + 1 + 1) zero4 41 ∧ Slab wr (w.heap.size + 1 + 1 + 1) (bools (fun x => (f x || g x) && decide (x < k))) 167 ∧ Below w.heap.size w wr) (fun i _ => (256 - intOf i).toNat)
  case atStart =>
    have e : Try.zeroCells167 = bools (fun x => (f x || g x) && decide (x < 0)) := by
      rw [bools_zero]
      exact bools_congr fun x _ => by simp
    refine ⟨0, by omega, rfl, (((Slab.new _ _ _).alloc _).alloc _).alloc _, ((Slab.newAt _ _ _ (by simp)).alloc _).alloc _, (Slab.newAt _ _ _ (by simp)).alloc _, ?_, by (repeat' (first | (with_reducible exact Below.refl _ _) | (with_reducible assumption) | (with_reducible refine Below.alloc ?_ ?_ _) | (with_reducible refine Below.drew ?_) | (with_reducible refine below_set ?_ ?_ _) | (with_reducible refine below_call ?_ ?_ (by assumption)) | (with_reducible exact Below.size (by assumption)) | omega | go_size))⟩
    rw [← e]
    exact Slab.newAt _ _ _ (by simp)
  case round =>
    obtain ⟨k, hk, rfl, o0, o1, o2, o3, hB⟩ := hrel
    have HB := Lib.hid hB; clear hB
    by_cases hlt : k < 256
    · have hz := o3.lt
      obtain ⟨F, hF⟩ : ∃ F : Nat → Bool, F = fun x => (f x || g x) && decide (x < k) := ⟨_, rfl⟩
      rw [← hF] at o3
      have HF := Lib.hid hF; clear hF
      obtain ⟨c0, f0⟩ := o0.facts
      obtain ⟨c1, f1⟩ := o1.facts
      have hy0 : w.heap.size < wr.heap.size := by omega
      have hy1 : w.heap.size + 1 < wr.heap.size := by omega
      go_wp2_with fail
      go_region_held3 (fun w' => (∀ i, w'.cell? ⟨w.heap.size, i, none⟩ = (cells4 f)[i]?) ∧ (∀ i, w'.cell? ⟨w.heap.size + 1, i, none⟩ = (cells4 g)[i]?)) (exact ⟨o0.cell, o1.cell⟩)
        (first | (go_at_call 126; refine (rhas_any _ _ (by omega) (by omega) _).mono ?_; rintro e1 w1 ⟨rfl, hb1⟩; have HB := Lib.hid (below_then (by first | exact HB.out | exact HB.out.drew | exact below_drewN HB.out _) hb1); have o0 := o0.callD hb1 rfl; have o1 := o1.callD hb1 rfl; have o2 := o2.callD hb1 rfl; have o3 := o3.callD hb1 rfl; have hz := o3.lt))
      have hcell : w1.cell? ⟨w.heap.size + 1 + 1 + 1, k, none⟩ = some (.bool (F k)) := (o3.cell k).trans (bools_at F k hlt)
      have hfr : w1.frozen? ⟨w.heap.size + 1 + 1 + 1, k, none⟩ = false := o3.frozen k
      cases hfk : f k <;> cases hgk : g k
      all_goals
        have HX := Lib.hid hfk; clear hfk
        have HY := Lib.hid hgk; clear hgk
        go_wp2
        go_roundw
        case rel =>
          refine ⟨k + 1, by omega, by go_num, o0.far (by omega) _, o1.far (by omega) _, o2.far (by omega) _, bools_step o3 k _ _ (fun x _ => ?_), below_set HB.out (by omega) _⟩
          rw [HF.out]
          by_cases e : x = k
          · subst e; simp [HX.out, HY.out]
          · have e2 : decide (x < k + 1) = decide (x < k) := by rw [decide_eq_decide]; omega
            simp only [e, e2, if_false]
        case measure => simp [intOf]; omega
    · obtain rfl : k = 256 := by omega
      obtain ⟨c2, f2⟩ := o2.facts
      have hz := o3.lt
      have he : setV (fun x => (f x || g x) && decide (x < 256)) = setV (fun x => f x || g x) := setV_ext fun x hx => by simp [hx]
      have HE := Lib.hid he; clear he
      go_wp2_with (first | (refine wpList_load_row rfl 167 (.tmp 7) rfl (w.heap.size + 1 + 1 + 1) rfl 167 _ (0, 0) _ o3 Try.underlying167 rfl (by rw [bools_size]; kernel_rfl) ?_) | (go_at_call 118; go_must (refine (rof_any _ _).mono ?_); rintro e4 w4 ⟨rfl, hb4⟩; have o4 := o2.call hb4; obtain ⟨c4, f4⟩ := Slab.facts (o4)))
      refine bodyPost_ret (v := setV (fun x => (f x || g x) && decide (x < 256))) (by simp [results, Try.results129, go_sem, c4]) rfl ⟨by rw [HE.out], ?_⟩
      have hb := HB.out
      (repeat' (first | (with_reducible exact Below.refl _ _) | (with_reducible assumption) | (with_reducible refine Below.alloc ?_ ?_ _) | (with_reducible refine Below.drew ?_) | (with_reducible refine below_set ?_ ?_ _) | (with_reducible refine below_call ?_ ?_ (by assumption)) | (with_reducible exact Below.size (by assumption)) | omega | go_size))

set_option maxRecDepth 100000 in
set_option maxHeartbeats 2000000 in
theorem rboth_and (f g : Nat → Bool) (w : World) :
    Calls Try.prog 129 #[setV f, setV g, .int .i64 2] w fun e w' => e = .returned (setV fun x => f x && g x) ∧ Below w.heap.size w w' := by
  go_enter Try.func129, Try.ntmps129
  go_wp2
  go_loopw [8] (fun i wr => ∃ k : Nat, k ≤ 256 ∧ i = .int .i64 k ∧ Slab wr w.heap.size (cells4 f) 41 ∧ Slab wr (w.heap.size + 1) (cells4 g) 41 ∧ Slab wr (w.heap.size + 1 + 1) zero4 41 ∧ Slab wr (w.heap.size + 1 + 1 + 1) (bools (fun x => (f x && g x) && decide (x < k))) 167 ∧ Below w.heap.size w wr) (fun i _ => (256 - intOf i).toNat)
  case atStart =>
    have e : Try.zeroCells167 = bools (fun x => (f x && g x) && decide (x < 0)) := by
      rw [bools_zero]
      exact bools_congr fun x _ => by simp
    refine ⟨0, by omega, rfl, (((Slab.new _ _ _).alloc _).alloc _).alloc _, ((Slab.newAt _ _ _ (by simp)).alloc _).alloc _, (Slab.newAt _ _ _ (by simp)).alloc _, ?_, by (repeat' (first | (with_reducible exact Below.refl _ _) | (with_reducible assumption) | (with_reducible refine Below.alloc ?_ ?_ _) | (with_reducible refine Below.drew ?_) | (with_reducible refine below_set ?_ ?_ _) | (with_reducible refine below_call ?_ ?_ (by assumption)) | (with_reducible exact Below.size (by assumption)) | omega | go_size))⟩
    rw [← e]
    exact Slab.newAt _ _ _ (by simp)
  case round =>
    obtain ⟨k, hk, rfl, o0, o1, o2, o3, hB⟩ := hrel
    have HB := Lib.hid hB; clear hB
    by_cases hlt : k < 256
    · have hz := o3.lt
      obtain ⟨F, hF⟩ : ∃ F : Nat → Bool, F = fun x => (f x && g x) && decide (x < k) := ⟨_, rfl⟩
      rw [← hF] at o3
      have HF := Lib.hid hF; clear hF
      obtain ⟨c0, f0⟩ := o0.facts
      obtain ⟨c1, f1⟩ := o1.facts
      have hy0 : w.heap.size < wr.heap.size := by omega
      have hy1 : w.heap.size + 1 < wr.heap.size := by omega
      go_wp2_with fail
      go_region_held3 (fun w' => (∀ i, w'.cell? ⟨w.heap.size, i, none⟩ = (cells4 f)[i]?) ∧ (∀ i, w'.cell? ⟨w.heap.size + 1, i, none⟩ = (cells4 g)[i]?)) (exact ⟨o0.cell, o1.cell⟩)
        (first | (go_at_call 126; refine (rhas_any _ _ (by omega) (by omega) _).mono ?_; rintro e1 w1 ⟨rfl, hb1⟩; have HB := Lib.hid (below_then (by first | exact HB.out | exact HB.out.drew | exact below_drewN HB.out _) hb1); have o0 := o0.callD hb1 rfl; have o1 := o1.callD hb1 rfl; have o2 := o2.callD hb1 rfl; have o3 := o3.callD hb1 rfl; have hz := o3.lt))
      have hcell : w1.cell? ⟨w.heap.size + 1 + 1 + 1, k, none⟩ = some (.bool (F k)) := (o3.cell k).trans (bools_at F k hlt)
      have hfr : w1.frozen? ⟨w.heap.size + 1 + 1 + 1, k, none⟩ = false := o3.frozen k
      cases hfk : f k <;> cases hgk : g k
      all_goals
        have HX := Lib.hid hfk; clear hfk
        have HY := Lib.hid hgk; clear hgk
        go_wp2
        go_roundw
        case rel =>
          refine ⟨k + 1, by omega, by go_num, o0.far (by omega) _, o1.far (by omega) _, o2.far (by omega) _, bools_step o3 k _ _ (fun x _ => ?_), below_set HB.out (by omega) _⟩
          rw [HF.out]
          by_cases e : x = k
          · subst e; simp [HX.out, HY.out]
          · have e2 : decide (x < k + 1) = decide (x < k) := by rw [decide_eq_decide]; omega
            simp only [e, e2, if_false]
        case measure => simp [intOf]; omega
    · obtain rfl : k = 256 := by omega
      obtain ⟨c2, f2⟩ := o2.facts
      have hz := o3.lt
      have he : setV (fun x => (f x && g x) && decide (x < 256)) = setV (fun x => f x && g x) := setV_ext fun x hx => by simp [hx]
      have HE := Lib.hid he; clear he
      go_wp2_with (first | (refine wpList_load_row rfl 167 (.tmp 7) rfl (w.heap.size + 1 + 1 + 1) rfl 167 _ (0, 0) _ o3 Try.underlying167 rfl (by rw [bools_size]; kernel_rfl) ?_) | (go_at_call 118; go_must (refine (rof_any _ _).mono ?_); rintro e4 w4 ⟨rfl, hb4⟩; have o4 := o2.call hb4; obtain ⟨c4, f4⟩ := Slab.facts (o4)))
      refine bodyPost_ret (v := setV (fun x => (f x && g x) && decide (x < 256))) (by simp [results, Try.results129, go_sem, c4]) rfl ⟨by rw [HE.out], ?_⟩
      have hb := HB.out
      (repeat' (first | (with_reducible exact Below.refl _ _) | (with_reducible assumption) | (with_reducible refine Below.alloc ?_ ?_ _) | (with_reducible refine Below.drew ?_) | (with_reducible refine below_set ?_ ?_ _) | (with_reducible refine below_call ?_ ?_ (by assumption)) | (with_reducible exact Below.size (by assumption)) | omega | go_size))

set_option maxRecDepth 100000 in
set_option maxHeartbeats 2000000 in
theorem rboth_less (f g : Nat → Bool) (w : World) :
    Calls Try.prog 129 #[setV f, setV g, .int .i64 3] w fun e w' => e = .returned (setV fun x => f x && !g x) ∧ Below w.heap.size w w' := by
  go_enter Try.func129, Try.ntmps129
  go_wp2
  go_loopw [8] (fun i wr => ∃ k : Nat, k ≤ 256 ∧ i = .int .i64 k ∧ Slab wr w.heap.size (cells4 f) 41 ∧ Slab wr (w.heap.size + 1) (cells4 g) 41 ∧ Slab wr (w.heap.size + 1 + 1) zero4 41 ∧ Slab wr (w.heap.size + 1 + 1 + 1) (bools (fun x => (f x && !g x) && decide (x < k))) 167 ∧ Below w.heap.size w wr) (fun i _ => (256 - intOf i).toNat)
  case atStart =>
    have e : Try.zeroCells167 = bools (fun x => (f x && !g x) && decide (x < 0)) := by
      rw [bools_zero]
      exact bools_congr fun x _ => by simp
    refine ⟨0, by omega, rfl, (((Slab.new _ _ _).alloc _).alloc _).alloc _, ((Slab.newAt _ _ _ (by simp)).alloc _).alloc _, (Slab.newAt _ _ _ (by simp)).alloc _, ?_, by (repeat' (first | (with_reducible exact Below.refl _ _) | (with_reducible assumption) | (with_reducible refine Below.alloc ?_ ?_ _) | (with_reducible refine Below.drew ?_) | (with_reducible refine below_set ?_ ?_ _) | (with_reducible refine below_call ?_ ?_ (by assumption)) | (with_reducible exact Below.size (by assumption)) | omega | go_size))⟩
    rw [← e]
    exact Slab.newAt _ _ _ (by simp)
  case round =>
    obtain ⟨k, hk, rfl, o0, o1, o2, o3, hB⟩ := hrel
    have HB := Lib.hid hB; clear hB
    by_cases hlt : k < 256
    · have hz := o3.lt
      obtain ⟨F, hF⟩ : ∃ F : Nat → Bool, F = fun x => (f x && !g x) && decide (x < k) := ⟨_, rfl⟩
      rw [← hF] at o3
      have HF := Lib.hid hF; clear hF
      obtain ⟨c0, f0⟩ := o0.facts
      obtain ⟨c1, f1⟩ := o1.facts
      have hy0 : w.heap.size < wr.heap.size := by omega
      have hy1 : w.heap.size + 1 < wr.heap.size := by omega
      go_wp2_with fail
      go_region_held3 (fun w' => (∀ i, w'.cell? ⟨w.heap.size, i, none⟩ = (cells4 f)[i]?) ∧ (∀ i, w'.cell? ⟨w.heap.size + 1, i, none⟩ = (cells4 g)[i]?)) (exact ⟨o0.cell, o1.cell⟩)
        (first | (go_at_call 126; refine (rhas_any _ _ (by omega) (by omega) _).mono ?_; rintro e1 w1 ⟨rfl, hb1⟩; have HB := Lib.hid (below_then (by first | exact HB.out | exact HB.out.drew | exact below_drewN HB.out _) hb1); have o0 := o0.callD hb1 rfl; have o1 := o1.callD hb1 rfl; have o2 := o2.callD hb1 rfl; have o3 := o3.callD hb1 rfl; have hz := o3.lt))
      have hcell : w1.cell? ⟨w.heap.size + 1 + 1 + 1, k, none⟩ = some (.bool (F k)) := (o3.cell k).trans (bools_at F k hlt)
      have hfr : w1.frozen? ⟨w.heap.size + 1 + 1 + 1, k, none⟩ = false := o3.frozen k
      cases hfk : f k <;> cases hgk : g k
      all_goals
        have HX := Lib.hid hfk; clear hfk
        have HY := Lib.hid hgk; clear hgk
        go_wp2
        go_roundw
        case rel =>
          refine ⟨k + 1, by omega, by go_num, o0.far (by omega) _, o1.far (by omega) _, o2.far (by omega) _, bools_step o3 k _ _ (fun x _ => ?_), below_set HB.out (by omega) _⟩
          rw [HF.out]
          by_cases e : x = k
          · subst e; simp [HX.out, HY.out]
          · have e2 : decide (x < k + 1) = decide (x < k) := by rw [decide_eq_decide]; omega
            simp only [e, e2, if_false]
        case measure => simp [intOf]; omega
    · obtain rfl : k = 256 := by omega
      obtain ⟨c2, f2⟩ := o2.facts
      have hz := o3.lt
      have he : setV (fun x => (f x && !g x) && decide (x < 256)) = setV (fun x => f x && !g x) := setV_ext fun x hx => by simp [hx]
      have HE := Lib.hid he; clear he
      go_wp2_with (first | (refine wpList_load_row rfl 167 (.tmp 7) rfl (w.heap.size + 1 + 1 + 1) rfl 167 _ (0, 0) _ o3 Try.underlying167 rfl (by rw [bools_size]; kernel_rfl) ?_) | (go_at_call 118; go_must (refine (rof_any _ _).mono ?_); rintro e4 w4 ⟨rfl, hb4⟩; have o4 := o2.call hb4; obtain ⟨c4, f4⟩ := Slab.facts (o4)))
      refine bodyPost_ret (v := setV (fun x => (f x && !g x) && decide (x < 256))) (by simp [results, Try.results129, go_sem, c4]) rfl ⟨by rw [HE.out], ?_⟩
      have hb := HB.out
      (repeat' (first | (with_reducible exact Below.refl _ _) | (with_reducible assumption) | (with_reducible refine Below.alloc ?_ ?_ _) | (with_reducible refine Below.drew ?_) | (with_reducible refine below_set ?_ ?_ _) | (with_reducible refine below_call ?_ ?_ (by assumption)) | (with_reducible exact Below.size (by assumption)) | omega | go_size))

end Go.Proofs.Ytddokdjlmdoebaa

/- More walks of the package gimletref01. -/
namespace Go.Proofs.Ytddokdjlmdoebaa
open Go.RowKit SetP

set_option maxRecDepth 100000 in
set_option maxHeartbeats 2000000 in
theorem rnot_any (f : Nat → Bool) (w : World) :
    Calls Try.prog 117 #[setV f] w fun e w' => e = .returned (setV fun x => !f x) ∧ Below w.heap.size w w' := by
  have HE := Lib.hid (show setV (fun x => rangeF 0 255 x && !f x) = setV (fun x => !f x) from setV_ext fun x hx => by
    have : rangeF 0 255 x = true := by unfold rangeF; simp; omega
    rw [this]; rfl)
  go_enter Try.func117, Try.ntmps117
  go_wp2_with fail
  have o0 : Slab ((w.alloc (.cells (cells4 f) 41)).alloc (.cells zero4 41)) w.heap.size (cells4 f) 41 := (Slab.new _ _ _).alloc _
  have o1 : Slab ((w.alloc (.cells (cells4 f) 41)).alloc (.cells zero4 41)) (w.heap.size + 1) zero4 41 := Slab.newAt _ _ _ (by simp)
  have HB := Lib.hid (show Below w.heap.size w ((w.alloc (.cells (cells4 f) 41)).alloc (.cells zero4 41)) by (repeat' (first | (with_reducible exact Below.refl _ _) | (with_reducible assumption) | (with_reducible refine Below.alloc ?_ ?_ _) | (with_reducible refine Below.drew ?_) | (with_reducible refine below_set ?_ ?_ _) | (with_reducible refine below_call ?_ ?_ (by assumption)) | (with_reducible exact Below.size (by assumption)) | omega | go_size)))
  go_region_held3 (fun w' => (∀ i, w'.cell? ⟨w.heap.size, i, none⟩ = (cells4 f)[i]?)) (first | exact o0.cell | exact ((((((o0).far (by omega) _).far (by omega) _).far (by omega) _).far (by omega) _)).cell)
    (first
      | (go_at_call 71; refine (rrange_any 0 255 (by omega) (by omega) (by omega) (by omega) _).mono ?_; rintro e1 w1 ⟨rfl, hb1⟩; have HB := Lib.hid (below_then (by first | exact HB.out | exact HB.out.drew | exact below_drewN HB.out _) hb1); have o0 := o0.callD hb1 rfl; have o1 := o1.callD hb1 rfl; have hz := o1.lt)
      | (go_at_call 129; refine (rboth_less _ _ _).mono ?_; rintro e1 w1 ⟨rfl, hb1⟩; have HB := Lib.hid (below_then (by first | exact HB.out | exact HB.out.drew | exact below_drewN HB.out _) hb1); have o0 := o0.callD hb1 rfl; have o1 := o1.callD hb1 rfl; have hz := o1.lt; obtain ⟨c1, f1⟩ := Slab.facts (o1)))
  go_wp2
  refine bodyPost_ret (v := setV fun x => rangeF 0 255 x && !f x) (by simp [results, Try.results117, go_sem, c1]) rfl ⟨by rw [HE.out], ?_⟩
  have hb := HB.out
  (repeat' (first | (with_reducible exact Below.refl _ _) | (with_reducible assumption) | (with_reducible refine Below.alloc ?_ ?_ _) | (with_reducible refine Below.drew ?_) | (with_reducible refine below_set ?_ ?_ _) | (with_reducible refine below_call ?_ ?_ (by assumption)) | (with_reducible exact Below.size (by assumption)) | omega | go_size))

set_option maxRecDepth 100000 in
set_option maxHeartbeats 2000000 in
theorem rwith_some (f : Nat → Bool) (b off c : Nat) (l : List Int) (w : World) (hn' : l.length ≤ 9223372036854775807) (hb : b < w.heap.size) (hc : ∀ i, i < l.length → w.cell? ⟨b, off + i, none⟩ = some (.int .u8 (l.getD i 0)))
    (hl : ∀ i, i < l.length → 0 ≤ l.getD i 0 ∧ l.getD i 0 < 256) :
    Calls Try.prog 127 #[setV f, .slice (some ⟨b, off, none⟩) l.length c] w fun e w' => e = .returned (setV (addL f l)) ∧ Below w.heap.size w w' := by
  have Hc := Lib.hid hc; clear hc
  have Hl := Lib.hid hl; clear hl
  go_enter Try.func127, Try.ntmps127
  go_wp2
  go_loopw [5] (fun i wr => ∃ k : Nat, k ≤ l.length ∧ i = .int .i64 k ∧ Slab wr w.heap.size (cells4 (addL f (l.take k))) 41 ∧ Slab wr (w.heap.size + 1) zero4 41 ∧ Below w.heap.size w wr) (fun i _ => l.length - (intOf i).toNat)
  case atStart => exact ⟨0, Nat.zero_le _, rfl, (Slab.new _ _ _).alloc _, Slab.newAt _ _ _ (by simp), by (repeat' (first | (with_reducible exact Below.refl _ _) | (with_reducible assumption) | (with_reducible refine Below.alloc ?_ ?_ _) | (with_reducible refine Below.drew ?_) | (with_reducible refine below_set ?_ ?_ _) | (with_reducible refine below_call ?_ ?_ (by assumption)) | (with_reducible exact Below.size (by assumption)) | omega | go_size))⟩
  case round =>
    obtain ⟨k, hk, rfl, o0, o1, hB⟩ := hrel
    have hz := o1.lt
    by_cases hlt : k < l.length
    · have hcell := (hB.cell (p := ⟨b, off + k, none⟩) hb).trans (Hc.out k hlt)
      have HB := Lib.hid hB; clear hB
      obtain ⟨x0, x1⟩ := Hl.out k hlt
      have HS := Lib.hid (addL_snoc f l k hlt)
      generalize l.getD k 0 = x at *
      generalize addL f (l.take k) = F at *
      have hcell2 : wr.cell? ⟨w.heap.size, (x / 64).toNat, none⟩ = some (.int .u64 (wd F (x.toNat / 64))) := by
        rw [show (x / 64).toNat = x.toNat / 64 by omega]
        exact (o0.cell _).trans (cells4_at F _ (by omega))
      have hfr : wr.frozen? ⟨w.heap.size, (x / 64).toNat, none⟩ = false := o0.frozen _
      have hx0 := wd_nonneg F (x.toNat / 64)
      go_wp2
      go_region
      go_wp2
      go_roundw
      case rel =>
        refine ⟨k + 1, by omega, by go_num, ?_, o1.far (by omega) _, (below_set HB.out (by omega) _).drew⟩
        have h2 := o0.set (x.toNat / 64) (.int .u64 (wd (addB F x.toNat) (x.toNat / 64)))
        rw [cells4_set F x.toNat (by omega)] at h2
        rw [HS.out, wd_add _ x x0 _ rfl, show (x / 64).toNat = x.toNat / 64 by omega]
        exact h2
      case measure => simp [intOf]; omega
    · have he : l.take k = l := List.take_of_length_le (by omega)
      have He := Lib.hid he; clear he
      have HB := Lib.hid hB; clear hB
      obtain ⟨c0, f0⟩ := Slab.facts (o0)
      obtain ⟨c1, f1⟩ := Slab.facts (o1)
      have hz0 : w.heap.size < wr.heap.size := o0.lt
      go_wp2
      refine bodyPost_ret (v := setV (addL f (l.take k))) (by simp [results, Try.results127, go_sem, c1]) rfl ⟨by rw [He.out], ?_⟩
      have hb := HB.out
      (repeat' (first | (with_reducible exact Below.refl _ _) | (with_reducible assumption) | (with_reducible refine Below.alloc ?_ ?_ _) | (with_reducible refine Below.drew ?_) | (with_reducible refine below_set ?_ ?_ _) | (with_reducible refine below_call ?_ ?_ (by assumption)) | (with_reducible exact Below.size (by assumption)) | omega | go_size))

set_option maxRecDepth 100000 in
set_option maxHeartbeats 400000 in
theorem rwith_none (f : Nat → Bool) (w : World) :
    Calls Try.prog 127 #[setV f, .slice none 0 0] w fun e w' => e = .returned (setV f) ∧ Below w.heap.size w w' := by
  go_enter Try.func127, Try.ntmps127
  go_wp2
  go_rounds 1
  refine bodyPost_ret (v := setV f) (by simp [results, Try.results127, go_sem]) rfl ⟨rfl, ?_⟩
  (repeat' (first | (with_reducible exact Below.refl _ _) | (with_reducible assumption) | (with_reducible refine Below.alloc ?_ ?_ _) | (with_reducible refine Below.drew ?_) | (with_reducible refine below_set ?_ ?_ _) | (with_reducible refine below_call ?_ ?_ (by assumption)) | (with_reducible exact Below.size (by assumption)) | omega | go_size))

set_option maxRecDepth 100000 in
theorem info_byte : (Try.prog.info? 5).map (fun i => (i.zero, i.size, i.bytes)) = some (some (.int .u8 0), 1, 1) := by kernel_rfl

set_option maxRecDepth 100000 in
set_option maxHeartbeats 2000000 in
theorem rall_any (f : Nat → Bool) (w : World) :
    Calls Try.prog 78 #[setV f] w (RetRow 5 1 (bytesF f).length ((bytesF f).map (Value.int .u8)) w) := by
  obtain ⟨i0, hi, hz0, hz1, hz2⟩ := info_parts info_byte
  have HI := Lib.hid hi; clear hi
  have HZ0 := Lib.hid hz0; clear hz0
  have HZ1 := Lib.hid hz1; clear hz1
  have HZ2 := Lib.hid hz2; clear hz2
  go_enter Try.func78, Try.ntmps78
  go_wp2
  go_loopw [3, 4] (fun s i wr => ∃ (k : Nat) (A : Option Addr) (c : Nat), k ≤ 256 ∧ i = .int .i64 k ∧ s = .slice A (upto f k).length c ∧ wr.ownsRow (w.heap.size + 1) 5 1 (.slice A (upto f k).length c) (upto f k).length ((upto f k).map (Value.int .u8)) ∧
      Slab wr w.heap.size (cells4 f) 41 ∧ Below w.heap.size w wr) (fun _ i _ => (256 - intOf i).toNat)
  case atStart => exact ⟨0, none, 0, by omega, rfl, rfl, World.ownsRow_nil _ _ _ _, Slab.new _ _ _, by (repeat' (first | (with_reducible exact Below.refl _ _) | (with_reducible assumption) | (with_reducible refine Below.alloc ?_ ?_ _) | (with_reducible refine Below.drew ?_) | (with_reducible refine below_set ?_ ?_ _) | (with_reducible refine below_call ?_ ?_ (by assumption)) | (with_reducible exact Below.size (by assumption)) | omega | go_size))⟩
  case round =>
    obtain ⟨k, A, c, hk, rfl, rfl, hown, o0, hB⟩ := hrel
    have HB := Lib.hid hB; clear hB
    have hlen := upto_length f k
    have hz0 := o0.lt
    obtain ⟨c0, f0⟩ := Slab.facts (o0)
    by_cases hlt : k < 256
    · go_wp2_with fail
      refine (rhas_any f k (by omega) (by omega) _).mono ?_
      rintro e1 w1 ⟨rfl, hb1⟩
      have hz1 := hb1.size
      have HB1 := Lib.hid (below_then (by first | exact HB.out | exact HB.out.drew | exact below_drewN HB.out _) hb1)
      cases hfk : f k with
      | true =>
        have HF := Lib.hid hfk; clear hfk
        rw [show (k : Int).toNat = k from rfl, HF.out]
        have hown3 := row_call hown hb1
        go_wp2_with (at_builtin; go_must (refine wpList_append_elem _ rfl (.tmp 12) (.tmp 15) 70 rfl (w.heap.size + 1) 5 i0 _ _ _ Try.underlying70 HI.out HZ0.out HZ1.out HZ2.out rfl (by decide) _ _ _ _ rfl hown3 #[.int .u8 k] _ rfl (by first | rfl | simp) rfl (by simp [Value.oneCell']) (by unfold maxLen; omega) (by omega) (by first | omega | (simp; omega)) ?_); intro A4 q4 w4 hown4 hbl4)
        have he : upto f (k + 1) = upto f k ++ [(k : Int)] := by rw [upto_succ, HF.out]; rfl
        have hln : (upto f k).length + 1 = (upto f (k + 1)).length := by rw [he]; simp
        have he2 : (upto f k).map (Value.int .u8) ++ [Value.int .u8 k] = (upto f (k + 1)).map (Value.int .u8) := by rw [he]; simp
        have hown5 : w4.ownsRow (w.heap.size + 1) 5 1 (.slice A4 (upto f (k + 1)).length q4) (upto f (k + 1)).length ((upto f (k + 1)).map (Value.int .u8)) := by
          rw [← he2, ← hln]; exact hown4
        rw [hln]
        have HX := Lib.hid hln; clear hln he he2
        go_wp2
        go_roundw
        case rel => exact ⟨k + 1, A4, q4, by omega, by go_num, rfl, hown5, (o0.call hb1).below hbl4 (by omega), HB1.out.trans (hbl4.mono (by omega))⟩
        case measure => simp [intOf]; omega
      | false =>
        have HF := Lib.hid hfk; clear hfk
        rw [show (k : Int).toNat = k from rfl, HF.out]
        have he : upto f (k + 1) = upto f k := by rw [upto_succ, HF.out]; simp
        have HE := Lib.hid he; clear he
        go_wp2
        go_roundw
        case rel => exact ⟨k + 1, A, c, by omega, by go_num, by rw [HE.out], by rw [HE.out]; exact row_call hown hb1, o0.call hb1, HB1.out⟩
        case measure => simp [intOf]; omega
    · obtain rfl : k = 256 := by omega
      go_wp2
      go_ret
      exact ⟨A, c, rfl, row_mono hown (by omega), HB.out⟩
end Go.Proofs.Ytddokdjlmdoebaa

/- The walk of gimletref01's Runs. -/
namespace Go.Proofs.Ytddokdjlmdoebaa
open Go.RowKit SetP

theorem runsB_lastOf (f : Nat → Bool) (k : Nat) (h : f k = true) : ∃ l a, runsB f (k + 1) = l ++ [(a, (k : Int))] := by
  induction k with
  | zero => exact ⟨[], 0, by simp [runsB, h]⟩
  | succ k ih =>
    rw [runsB, h]
    by_cases e : f k = true
    · obtain ⟨l, a, hl⟩ := ih e
      refine ⟨l, a, ?_⟩
      simp only [Nat.add_sub_cancel, e, Bool.and_true, if_true]
      rw [if_pos (by simp), hl, setLast_snoc]
    · refine ⟨runsB f (k + 1), ((k + 1 : Nat) : Int), ?_⟩
      have e' : f k = false := by simpa using e
      simp [e']

theorem pairCells_at1 (l : List (Int × Int)) (a b : Int) : (pairCells (l ++ [(a, b)]))[l.length * 2 + 1]? = some (.int .u8 b) := by
  rw [pairCells_snoc, List.getElem?_append_right (by rw [pairCells_length]; omega), pairCells_length]
  rw [show l.length * 2 + 1 - l.length * 2 = 1 by omega]; rfl
theorem pairCells_set1 (l : List (Int × Int)) (a b c : Int) : (pairCells (l ++ [(a, b)])).set (l.length * 2 + 1) (.int .u8 c) = pairCells (l ++ [(a, c)]) := by
  rw [pairCells_snoc, pairCells_snoc, List.set_append_right _ _ (by rw [pairCells_length]; omega), pairCells_length]
  rw [show l.length * 2 + 1 - l.length * 2 = 1 by omega]; rfl

set_option maxRecDepth 100000 in
set_option maxHeartbeats 2000000 in
theorem rruns_any (f : Nat → Bool) (w : World) :
    Calls Try.prog 128 #[setV f] w (RetRow 178 2 (runsF f).length (pairCells (runsF f)) w) := by
  obtain ⟨i0, hi, hz0, hz1, hz2⟩ := info_parts info_pair
  have HI := Lib.hid hi; clear hi
  have HZ0 := Lib.hid hz0; clear hz0
  have HZ1 := Lib.hid hz1; clear hz1
  have HZ2 := Lib.hid hz2; clear hz2
  go_enter Try.func128, Try.ntmps128
  go_wp2
  go_loopw [3, 4] (fun s i wr => ∃ (k : Nat) (A : Option Addr) (c : Nat), k ≤ 256 ∧ i = .int .i64 k ∧ s = .slice A (runsB f k).length c ∧ wr.ownsRow (w.heap.size + 1) 178 2 (.slice A (runsB f k).length c) (runsB f k).length (pairCells (runsB f k)) ∧
      Slab wr w.heap.size (cells4 f) 41 ∧ Below w.heap.size w wr) (fun _ i _ => (256 - intOf i).toNat)
  case atStart => exact ⟨0, none, 0, by omega, rfl, rfl, World.ownsRow_nil _ _ _ _, Slab.new _ _ _, by (repeat' (first | (with_reducible exact Below.refl _ _) | (with_reducible assumption) | (with_reducible refine Below.alloc ?_ ?_ _) | (with_reducible refine Below.drew ?_) | (with_reducible refine below_set ?_ ?_ _) | (with_reducible refine below_call ?_ ?_ (by assumption)) | (with_reducible exact Below.size (by assumption)) | omega | go_size))⟩
  case round =>
    obtain ⟨k, A, c, hk, rfl, rfl, hown, o0, hB⟩ := hrel
    have HB := Lib.hid hB; clear hB
    have hlen := runsB_length f k
    have hz0 := o0.lt
    obtain ⟨c0, f0⟩ := Slab.facts (o0)
    by_cases hlt : k < 256
    · go_wp2_with fail
      refine (rhas_any f k (by omega) (by omega) _).mono ?_
      rintro e1 w1 ⟨rfl, hb1⟩
      have hz1 := hb1.size
      have HB1 := Lib.hid (below_then (by first | exact HB.out | exact HB.out.drew | exact below_drewN HB.out _) hb1)
      cases hfk : f k with
      | true =>
        have HF := Lib.hid hfk; clear hfk
        rw [show (k : Int).toNat = k from rfl, HF.out]
        have hown1 := row_call hown hb1
        have o1 := o0.call hb1
        clear hown o0 c0 f0 hb1
        obtain ⟨c0, f0⟩ := o1.facts
        rcases Nat.eq_zero_or_pos k with rfl | hpos
        · go_wp2_with (at_builtin; go_must (refine wpList_append_elem _ rfl (.tmp 29) (.tmp 35) 174 rfl (w.heap.size + 1) 178 i0 _ _ _ Try.underlying174 HI.out HZ0.out HZ1.out HZ2.out rfl (by decide) _ _ _ _ rfl hown1 #[.int .u8 0, .int .u8 0] _ rfl (by first | rfl | simp) rfl (by simp [Value.oneCell']) (by unfold maxLen; omega) (by omega) (by first | omega | (simp; omega)) ?_); intro A4 q4 w4 hown4 hbl4)
          have e1 : runsB f 1 = [(0, 0)] := by simp [runsB, HF.out]
          have e0 : runsB f 0 = [] := rfl
          go_roundw
          case rel =>
            refine ⟨1, A4, q4, by omega, rfl, by rw [e1]; rfl, ?_, o1.below hbl4 (by omega), HB1.out.trans (hbl4.mono (by omega))⟩
            rw [e1]; exact hown4
          case measure => simp [intOf]
        · obtain ⟨k, rfl⟩ : ∃ k', k = k' + 1 := ⟨k - 1, by omega⟩
          go_wp2_with fail
          refine (rhas_any f k (by omega) (by omega) _).mono ?_
          rintro e2 w2 ⟨rfl, hb2⟩
          have hz2 := hb2.size
          have HB2 := Lib.hid (below_then (by first | exact HB1.out | exact HB1.out.drew | exact below_drewN HB1.out _) hb2)
          have hown2 := row_call hown1 hb2
          have o2 := o1.call hb2
          clear hown1 o1 c0 f0 hb2
          obtain ⟨c0, f0⟩ := o2.facts
          cases hgk : f k with
          | true =>
            have HG := Lib.hid hgk; clear hgk
            rw [show (k : Int).toNat = k from rfl, HG.out]
            obtain ⟨l, a, hl⟩ := runsB_lastOf f k HG.out
            have HL := Lib.hid hl
            rw [hl] at hown2 hlen ⊢
            clear hl
            have hn : (l ++ [(a, (k : Int))]).length = l.length + 1 := by simp
            rw [hn] at hown2 hlen ⊢
            have HN := Lib.hid hn; clear hn
            obtain ⟨g, cur, rfl, hg, hc, hs, hcz, ht⟩ := row_at hown2 (by omega)
            have HC := Lib.hid hcz; clear hcz
            have HT := Lib.hid ht; clear ht
            have hcell : w2.cell? ⟨g, l.length * 2 + 1, none⟩ = some (.int .u8 k) := (hown2.cellAt _ (by omega)).trans (pairCells_at1 l a k)
            have hfr : w2.frozen? ⟨g, l.length * 2 + 1, none⟩ = false := hs.frozen _
            have hown3 := hown2.stored (l.length * 2 + 1) (.int .u8 ((k : Int) + 1))
            rw [pairCells_set1] at hown3
            have he : runsB f (k + 1 + 1) = l ++ [(a, (k : Int) + 1)] := by
              rw [runsB, HF.out]
              simp only [Nat.add_sub_cancel, HG.out, Bool.and_true, if_true]
              rw [if_pos (by simp), HL.out, setLast_snoc]
              rfl
            have hn2 : (l ++ [(a, (k : Int) + 1)]).length = l.length + 1 := by simp
            have HE := Lib.hid he; clear he
            have HN2 := Lib.hid hn2; clear hn2
            have HR := Lib.hid hown3; clear hown3 hown2 hs
            go_wp2
            go_roundw
            case rel =>
              refine ⟨k + 1 + 1, some ⟨g, 0, none⟩, c, by omega, by go_num, by rw [HE.out, HN2.out], ?_, o2.far (by omega) _, below_set HB2.out (by omega) _⟩
              rw [HE.out, HN2.out]
              exact HR.out.1
            case measure => simp [intOf]; omega
          | false =>
            have HG := Lib.hid hgk; clear hgk
            rw [show (k : Int).toNat = k from rfl, HG.out]
            go_wp2_with (at_builtin; go_must (refine wpList_append_elem _ rfl (.tmp 29) (.tmp 35) 174 rfl (w.heap.size + 1) 178 i0 _ _ _ Try.underlying174 HI.out HZ0.out HZ1.out HZ2.out rfl (by decide) _ _ _ _ rfl hown2 #[.int .u8 ((k : Int) + 1), .int .u8 ((k : Int) + 1)] _ rfl (by first | rfl | simp) rfl (by simp [Value.oneCell']) (by unfold maxLen; omega) (by omega) (by first | omega | (simp; omega)) ?_); intro A4 q4 w4 hown4 hbl4)
            have he : runsB f (k + 1 + 1) = runsB f (k + 1) ++ [((k : Int) + 1, (k : Int) + 1)] := by
              rw [runsB, HF.out]
              simp only [Nat.add_sub_cancel, HG.out, Bool.and_false, if_true]
              rfl
            have hln : (runsB f (k + 1 + 1)).length = (runsB f (k + 1)).length + 1 := by rw [he]; simp
            go_roundw
            case rel =>
              refine ⟨k + 1 + 1, A4, q4, by omega, by go_num, by rw [hln], ?_, o2.below hbl4 (by omega), HB2.out.trans (hbl4.mono (by omega))⟩
              rw [hln, he, pairCells_snoc]
              exact hown4
            case measure => simp [intOf]; omega
      | false =>
        have HF := Lib.hid hfk; clear hfk
        rw [show (k : Int).toNat = k from rfl, HF.out]
        have he : runsB f (k + 1) = runsB f k := by rw [runsB, HF.out]; simp
        have HE := Lib.hid he; clear he
        go_wp2
        go_roundw
        case rel => exact ⟨k + 1, A, c, by omega, by go_num, by rw [HE.out], by rw [HE.out]; exact row_call hown hb1, o0.call hb1, HB1.out⟩
        case measure => simp [intOf]; omega
    · obtain rfl : k = 256 := by omega
      go_wp2
      go_ret
      exact ⟨A, c, rfl, row_mono hown (by omega), HB.out⟩
end Go.Proofs.Ytddokdjlmdoebaa
