/- The statement BsetRuns, walked. -/
import Derived.Test.YthppilfojicfdaaProg
import Derived.WalkKit
import Derived.WalkSpells
import Derived.WalkLawsBesides
import Derived.Handy
import Derived.Lib.Hide
import Derived.Test.YthppilfojicfdaaLaw1a
import Derived.Test.YthppilfojicfdaaRunsP
import Derived.Deep.RegionHeld3
import Derived.BigQuiet
import Derived.Deep.QuietTactic
namespace Go.Proofs.Ythppilfojicfdaa
open Go.RowKit SetP
attribute [local go_sem] run_eq_set run_eq2

theorem range_c (lo hi : Int) (h0 : 0 ≤ lo) (h1 : lo < 256) (h2 : 0 ≤ hi) (h3 : hi < 256) (w : World) :
    Calls Try.prog 25 #[.int .u8 lo, .int .u8 hi] w fun e w' => e = .returned (setV (rngF lo hi)) ∧ Below w.heap.size w w' := range_any lo hi h0 h1 h2 h3 w
theorem or_cover (R : List (Int × Int)) (k : Nat) (h : k < R.length) : orF (coverF (R.take k)) (rngF R[k].1 R[k].2) = coverF (R.take (k + 1)) := by
  funext x; rw [coverF_take R k h]; rfl

/-- A row that lies below block g2, and holds xs. -/
def RowAt (w : World) (g2 : Nat) (A : Option Addr) (m : Nat) (xs : List Value) : Prop := 0 < m → ∃ q cur t, A = some ⟨q, 0, none⟩ ∧ q < g2 ∧ Slab w q cur t ∧ ∀ j, j < m → cur[j]? = xs[j]?
theorem RowAt.of {w : World} {B : Nat} {e : TypeId} {size : Nat} {A : Option Addr} {n c : Nat} {xs : List Value} (h : w.ownsRow B e size (.slice A n c) n xs) (g2 : Nat) (hg : w.heap.size ≤ g2) : RowAt w g2 A (n * size) xs := by
  intro hm
  obtain ⟨q, cur, rfl, _, _, hs, _, ht⟩ := row_at h (Nat.pos_of_mul_pos_right hm)
  refine ⟨q, cur, e, rfl, Nat.lt_of_lt_of_le hs.lt hg, hs, fun j hj => ?_⟩
  rw [← ht, List.getElem?_take_of_lt hj]
  simp
theorem RowAt.keep {w w' : World} {g2 : Nat} {A : Option Addr} {m : Nat} {xs : List Value} (h : RowAt w g2 A m xs) (hk : ∀ q cur t, q < g2 → Slab w q cur t → Slab w' q cur t) : RowAt w' g2 A m xs := by
  intro hm
  obtain ⟨q, cur, t, h1, h2, h3, h4⟩ := h hm
  exact ⟨q, cur, t, h1, h2, hk q cur t h2 h3, h4⟩

set_option maxRecDepth 100000 in
set_option maxHeartbeats 2000000 in
theorem runs_law (a : Nat → Bool) (w : World) : Calls Try.prog 4 #[setV a] w fun e w' => e = .returned (.bool true) ∧ Below w.heap.size w w' := by
  go_enter Try.func4, Try.ntmps4
  go_wp2_with fail
  have o0 : Slab (w.alloc (.cells (cells4 a) 24)) w.heap.size (cells4 a) 24 := Slab.new _ _ _
  refine (runs_any a _).mono ?_
  rintro e1 w1 ⟨A, c, rfl, hown, hb1⟩
  have o1 := o0.call hb1
  have HB1 : Below w.heap.size w w1 := below_then ((Below.refl _ w).alloc (Nat.le_refl _) _) hb1
  have hn := runsB_length a 256
  rw [World.size_alloc] at hown
  clear o0 hb1
  obtain ⟨R, hR⟩ : ∃ R, R = runsF a := ⟨_, rfl⟩
  have HR := Lib.hid hR
  rw [← hR] at hown ⊢
  rw [show runsB a 256 = runsF a from rfl, ← hR] at hn
  clear hR
  have HB := Lib.hid HB1; clear HB1
  go_wp2
  go_loopw [5] (fun i wr => ∃ k : Nat, k ≤ R.length ∧ i = .int .i64 k ∧ Slab wr w.heap.size (cells4 a) 24 ∧ Slab wr w1.heap.size (cells4 (coverF (R.take k))) 24 ∧ RowAt wr w1.heap.size A (R.length * 2) (pairCells R) ∧ Below w.heap.size w wr ∧ w.heap.size < w1.heap.size) (fun i _ => R.length - (intOf i).toNat)
  case atStart =>
    have e : zero4 = cells4 (coverF (R.take 0)) := by
      have e : coverF (R.take 0) = fun _ => false := by funext x; rfl
      rw [e]; unfold zero4 cells4; rw [wd_zero, wd_zero, wd_zero, wd_zero]
    exact ⟨0, by omega, rfl, o1.alloc _, by rw [← e]; exact Slab.new _ _ _, (RowAt.of hown _ (Nat.le_refl _)).keep fun q cur t _ h => h.alloc _, HB.out.alloc HB.out.size _, o1.lt⟩
  case round =>
    clear hown o1
    obtain ⟨k, hk, rfl, o0, o1, hown, hB, hz⟩ := hrel
    replace HB := Lib.hid hB; clear hB
    generalize w1.heap.size = g2 at *
    by_cases hlt : k < R.length
    · obtain ⟨q, cur, t, rfl, hq, o2, hcell⟩ := hown (by omega)
      have p1 : wr.cell? ⟨q, k * 2, none⟩ = some (.int .u8 R[k].1) := (o2.cell _).trans ((hcell _ (by omega)).trans (pairCells_at R k hlt).1)
      have p2 : wr.cell? ⟨q, k * 2 + 1, none⟩ = some (.int .u8 R[k].2) := (o2.cell _).trans ((hcell _ (by omega)).trans (pairCells_at R k hlt).2)
      obtain ⟨b0, b1, b2⟩ : 0 ≤ R[k].1 ∧ R[k].1 ≤ R[k].2 ∧ R[k].2 < 256 := by
        have := runsF_bd a k (by rw [← HR.out]; exact hlt)
        simpa [← HR.out] using this
      have hd1 : decide (R[k].2 < R[k].1) = false := by simp; omega
      have HO := Lib.hid (or_cover R k hlt)
      rcases Nat.eq_zero_or_pos k with h0 | hpos
      · have hd2 : decide (0 < k) = false := by simp; omega
        have H0 := Lib.hid h0; clear h0
        generalize R[k].1 = x at *
        generalize R[k].2 = y at *
        have hi1 : (k : Int) < (R.length : Int) := by omega
        have hi2 : (0 : Int) ≤ (k : Int) := by omega
        have HC := Lib.hid hcell; clear hcell
        have HN := Lib.hid hown; clear hown
        go_wp2
        go_quiet (fail)
        go_wp2_with fail
        have hx1 : y < 256 := b2
        have hx2 : x < 256 := by omega
        have hx3 : 0 ≤ y := by omega
        clear hd1
        obtain ⟨c1, f1⟩ := o1.facts
        go_region_with (first
          | (go_at_call 25; refine (range_c _ _ (by omega) (by omega) (by omega) (by omega) _).mono ?_; rintro e1 w1 ⟨rfl, hb1⟩; replace HB := Lib.hid (below_then (by first | exact HB.out | exact HB.out.drew | exact below_drewN HB.out _) hb1); replace o0 := o0.callD hb1 rfl; replace o1 := o1.callD hb1 rfl; replace o2 := o2.callD hb1 rfl; replace c1 := o1.cell; replace f1 := o1.frozen; clear hb1)
          | (go_at_call 24; refine (or_c _ _ _).mono ?_; rintro e1 w1 ⟨rfl, hb1⟩; replace HB := Lib.hid (below_then (by first | exact HB.out | exact HB.out.drew | exact below_drewN HB.out _) hb1); replace o0 := o0.callD hb1 rfl; replace o1 := o1.callD hb1 rfl; replace o2 := o2.callD hb1 rfl; replace c1 := o1.cell; replace f1 := o1.frozen; clear hb1))
        all_goals
          go_wp2
          go_roundw
          case rel =>
            refine ⟨k + 1, by omega, by go_num, (((((o0).far (by omega) _).far (by omega) _).far (by omega) _).far (by omega) _), ?_, fun _ => ⟨q, cur, t, rfl, hq, (((((o2).far (by omega) _).far (by omega) _).far (by omega) _).far (by omega) _), HC.out⟩, ?_, hz⟩
            · rw [← HO.out]; exact (((((o1).set 0 _).set 1 _).set 2 _).set 3 _)
            · have hb := HB.out
              (repeat' (first | (with_reducible exact Below.refl _ _) | (with_reducible assumption) | (with_reducible refine Below.alloc ?_ ?_ _) | (with_reducible refine Below.drew ?_) | (with_reducible refine below_set ?_ ?_ _) | (with_reducible refine below_call ?_ ?_ (by assumption)) | (with_reducible exact Below.size (by assumption)) | omega | go_size))
          case measure => simp [intOf]; omega
      · have hd2 : decide (0 < k) = true := by simp; omega
        have p3 : wr.cell? ⟨q, (k - 1) * 2 + 1, none⟩ = some (.int .u8 R[k - 1].2) := (o2.cell _).trans ((hcell _ (by omega)).trans (pairCells_at R (k - 1) (by omega)).2)
        obtain ⟨b3, b4⟩ : R[k - 1].2 + 2 ≤ R[k].1 ∧ 0 ≤ R[k - 1].2 := by
          have h1 := runsF_gap a (k - 1) (by rw [← HR.out]; omega)
          have h2 := runsF_bd a (k - 1) (by rw [← HR.out]; omega)
          have e : k - 1 + 1 = k := by omega
          simp only [← HR.out, e] at h1 h2
          exact ⟨h1, by omega⟩
        generalize R[k - 1].2 = z at *
        have hd4 : decide (R[k].1 < z + 2) = false := by simp; omega
        have hs1 : IntKind.i64.wrap (z + 2) = z + 2 := IntWalk.i64_in _ (by omega)
        have hs2 : IntKind.i64.wrap ((k : Int) - 1) = (k : Int) - 1 := IntWalk.i64_in _ (by omega)
        have hs3 : ((k : Int) - 1).toNat = k - 1 := by omega
        have hs4 : (0 : Int) ≤ (k : Int) - 1 := by omega
        have hs5 : (k : Int) - 1 < (R.length : Int) := by omega
        generalize R[k].1 = x at *
        generalize R[k].2 = y at *
        have hi1 : (k : Int) < (R.length : Int) := by omega
        have hi2 : (0 : Int) ≤ (k : Int) := by omega
        have HC := Lib.hid hcell; clear hcell
        have HN := Lib.hid hown; clear hown
        go_wp2
        go_quiet (fail)
        go_wp2_with fail
        have hx1 : y < 256 := b2
        have hx2 : x < 256 := by omega
        have hx3 : 0 ≤ y := by omega
        clear hd1 hd2 hd4 hs1 hs2 hs3 p3
        obtain ⟨c1, f1⟩ := o1.facts
        go_region_with (first
          | (go_at_call 25; refine (range_c _ _ (by omega) (by omega) (by omega) (by omega) _).mono ?_; rintro e1 w1 ⟨rfl, hb1⟩; replace HB := Lib.hid (below_then (by first | exact HB.out | exact HB.out.drew | exact below_drewN HB.out _) hb1); replace o0 := o0.callD hb1 rfl; replace o1 := o1.callD hb1 rfl; replace o2 := o2.callD hb1 rfl; replace c1 := o1.cell; replace f1 := o1.frozen; clear hb1)
          | (go_at_call 24; refine (or_c _ _ _).mono ?_; rintro e1 w1 ⟨rfl, hb1⟩; replace HB := Lib.hid (below_then (by first | exact HB.out | exact HB.out.drew | exact below_drewN HB.out _) hb1); replace o0 := o0.callD hb1 rfl; replace o1 := o1.callD hb1 rfl; replace o2 := o2.callD hb1 rfl; replace c1 := o1.cell; replace f1 := o1.frozen; clear hb1))
        all_goals
          go_wp2
          go_roundw
          case rel =>
            refine ⟨k + 1, by omega, by go_num, (((((o0).far (by omega) _).far (by omega) _).far (by omega) _).far (by omega) _), ?_, fun _ => ⟨q, cur, t, rfl, hq, (((((o2).far (by omega) _).far (by omega) _).far (by omega) _).far (by omega) _), HC.out⟩, ?_, hz⟩
            · rw [← HO.out]; exact (((((o1).set 0 _).set 1 _).set 2 _).set 3 _)
            · have hb := HB.out
              (repeat' (first | (with_reducible exact Below.refl _ _) | (with_reducible assumption) | (with_reducible refine Below.alloc ?_ ?_ _) | (with_reducible refine Below.drew ?_) | (with_reducible refine below_set ?_ ?_ _) | (with_reducible refine below_call ?_ ?_ (by assumption)) | (with_reducible exact Below.size (by assumption)) | omega | go_size))
          case measure => simp [intOf]; omega
    · have hse : same (coverF (R.take k)) a = true := by
        rw [List.take_of_length_le (by omega), HR.out]
        exact runsF_cover a
      obtain ⟨c0, f0⟩ := Slab.facts (o0)
      obtain ⟨c1, f1⟩ := Slab.facts (o1)
      clear hown
      go_wp2_with fail
      refine (sure1_any _).mono ?_
      rintro e9 w9 ⟨rfl, hb9⟩
      go_wp2
      go_ret
      exact ⟨rfl, below_then HB.out hb9⟩
end Go.Proofs.Ythppilfojicfdaa
