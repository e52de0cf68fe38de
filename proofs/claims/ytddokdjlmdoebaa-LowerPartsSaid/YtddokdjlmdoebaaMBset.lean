/- Walks of the package bset: each call gives back the set that the plain functions tell, and leaves what was there. -/
import Derived.Test.YtddokdjlmdoebaaProg
import Derived.WalkKit
import Derived.WalkSpells
import Derived.WalkLawsBesides
import Derived.Handy
import Derived.Lib.Hide
import Derived.Test.YtddokdjlmdoebaaMMem
import Derived.Deep.RegionHeld3
import Derived.RangeFuncFrom
import Derived.RangeFuncBound
import Derived.RangeFuncCalls
import Derived.RangeFuncLeaves
import Derived.Shelf.Abstract
import Derived.Shelf.RegionOpen
import Derived.OwnWalkIn
import Derived.TacticsInMore
import Derived.LoopNIn
import Derived.LoopIn
import Derived.ChangeKeysEq
set_option linter.unusedVariables false
set_option linter.unusedSimpArgs false
namespace Go.Proofs.Ytddokdjlmdoebaa
open Go.RowKit SetP

theorem words_at (f : Nat → Bool) (b : Int) (h0 : 0 ≤ b) (h1 : b < 256) :
    [Value.int IntKind.u64 (wd f 0), Value.int IntKind.u64 (wd f 1), Value.int IntKind.u64 (wd f 2), Value.int IntKind.u64 (wd f 3)][(b / 64).toNat]? = some (.int .u64 (wd f (b.toNat / 64))) := by
  have h : b.toNat / 64 = 0 ∨ b.toNat / 64 = 1 ∨ b.toNat / 64 = 2 ∨ b.toNat / 64 = 3 := by omega
  have e : (b / 64).toNat = b.toNat / 64 := by omega
  rw [e]
  rcases h with h | h | h | h <;> simp [h]

set_option maxRecDepth 100000 in
set_option maxHeartbeats 400000 in
theorem has_any (f : Nat → Bool) (b : Int) (hb0 : 0 ≤ b) (hb1 : b < 256) (w : World) :
    Calls Try.prog 121 #[setV f, .int .u8 b] w fun e w' => e = .returned (.bool (f b.toNat)) ∧ Below w.heap.size w w' := by
  have hv := words_at f b hb0 hb1
  have hx0 := wd_nonneg f (b.toNat / 64)
  go_enter Try.func121, Try.ntmps121
  go_wp2
  go_ret
  refine ⟨ret_v (congrArg Value.bool (bit_of f b hb0 _ rfl)), ?_⟩
  go_grown

set_option maxRecDepth 100000 in
set_option maxHeartbeats 400000 in
theorem or_any (f g : Nat → Bool) (w : World) :
    Calls Try.prog 204 #[setV f, setV g] w fun e w' => e = .returned (setV fun x => f x || g x) ∧ Below w.heap.size w w' := by
  go_enter Try.func204, Try.ntmps204
  go_wp2
  refine wp_loop_rounds 5 ?_
  rw [rounds_succ]; go_wp2; go_region; go_wp2
  rw [rounds_succ]; go_wp2; go_region; go_wp2
  rw [rounds_succ]; go_wp2; go_region; go_wp2
  rw [rounds_succ]; go_wp2; go_region; go_wp2
  rw [rounds_succ]; go_wp2
  go_returns
  refine ⟨ret_v ?_, ?_⟩
  · simp only [setV, wd_or]
  · go_grown

set_option maxRecDepth 100000 in
set_option maxHeartbeats 400000 in
theorem and_any (f g : Nat → Bool) (w : World) :
    Calls Try.prog 149 #[setV f, setV g] w fun e w' => e = .returned (setV fun x => f x && g x) ∧ Below w.heap.size w w' := by
  go_enter Try.func149, Try.ntmps149
  go_wp2
  refine wp_loop_rounds 5 ?_
  rw [rounds_succ]; go_wp2; go_region; go_wp2
  rw [rounds_succ]; go_wp2; go_region; go_wp2
  rw [rounds_succ]; go_wp2; go_region; go_wp2
  rw [rounds_succ]; go_wp2; go_region; go_wp2
  rw [rounds_succ]; go_wp2
  go_returns
  refine ⟨ret_v ?_, ?_⟩
  · simp only [setV, wd_and]
  · go_grown

set_option maxRecDepth 100000 in
set_option maxHeartbeats 400000 in
theorem not_any (f : Nat → Bool) (w : World) :
    Calls Try.prog 148 #[setV f] w fun e w' => e = .returned (setV fun x => !f x) ∧ Below w.heap.size w w' := by
  go_enter Try.func148, Try.ntmps148
  go_wp2
  go_rounds 5
  go_returns
  refine ⟨ret_v ?_, ?_⟩
  · simp only [setV, wd_xor_max]
  · go_grown

set_option maxRecDepth 100000 in
set_option maxHeartbeats 400000 in
theorem less_any (f g : Nat → Bool) (w : World) :
    Calls Try.prog 123 #[setV f, setV g] w fun e w' => e = .returned (setV fun x => f x && !g x) ∧ Below w.heap.size w w' := by
  go_enter Try.func123, Try.ntmps123
  go_wp2_with fail
  go_region_held3 (fun w' => w'.cell? ⟨w.heap.size, 0, none⟩ = some (.int .u64 (wd f 0)) ∧ w'.cell? ⟨w.heap.size, 1, none⟩ = some (.int .u64 (wd f 1)) ∧ w'.cell? ⟨w.heap.size, 2, none⟩ = some (.int .u64 (wd f 2)) ∧ w'.cell? ⟨w.heap.size, 3, none⟩ = some (.int .u64 (wd f 3)) ∧ w'.cell? ⟨w.heap.size + 1, 0, none⟩ = some (.int .u64 (wd g 0)) ∧ w'.cell? ⟨w.heap.size + 1, 1, none⟩ = some (.int .u64 (wd g 1)) ∧ w'.cell? ⟨w.heap.size + 1, 2, none⟩ = some (.int .u64 (wd g 2)) ∧ w'.cell? ⟨w.heap.size + 1, 3, none⟩ = some (.int .u64 (wd g 3))) (simp [*, go_sem])
    (first
      | (go_at_call 148; refine (not_any _ _).mono ?_; rintro e1 w1 ⟨rfl, hb1⟩; obtain ⟨hc1, hf1⟩ := bcell hb1; have hl1_0 : w.heap.size < w1.heap.size := (by have := hb1.size; first | omega | (simp at this; omega)); have hl1_1 : w.heap.size + 1 < w1.heap.size := (by have := hb1.size; first | omega | (simp at this; omega)); have hl1_2 : w.heap.size + 1 + 1 < w1.heap.size := (by have := hb1.size; first | omega | (simp at this; omega)))
      | (go_at_call 149; refine (and_any _ _ _).mono ?_; rintro e2 w2 ⟨rfl, hb2⟩; obtain ⟨hc2, hf2⟩ := bcell hb2; have hl2_0 : w.heap.size < w2.heap.size := (by have := hb2.size; first | omega | (simp at this; omega)); have hl2_1 : w.heap.size + 1 < w2.heap.size := (by have := hb2.size; first | omega | (simp at this; omega)); have hl2_2 : w.heap.size + 1 + 1 < w2.heap.size := (by have := hb2.size; first | omega | (simp at this; omega))))
  go_wp2
  refine bodyPost_ret (v := setV fun x => f x && !g x) (by simp [results, Try.results123, go_sem, *]) rfl ⟨rfl, ?_⟩
  (repeat' (first | (with_reducible exact Below.refl _ _) | (with_reducible assumption) | (with_reducible refine Below.alloc ?_ ?_ _) | (with_reducible refine Below.drew ?_) | (with_reducible refine below_set ?_ ?_ _) | (with_reducible refine below_call ?_ ?_ (by assumption)) | (with_reducible exact Below.size (by assumption)) | omega | go_size))

/-- Bytes are put in, one by one. -/
def addL (f : Nat → Bool) (l : List Int) : Nat → Bool := l.foldl (fun g b => addB g b.toNat) f
theorem addL_snoc (f : Nat → Bool) (l : List Int) (k : Nat) (hk : k < l.length) : addL f (l.take (k + 1)) = addB (addL f (l.take k)) (l.getD k 0).toNat := by
  unfold addL
  rw [List.take_succ_eq_append_getElem hk, List.foldl_append]
  simp [List.getElem?_eq_getElem hk]

abbrev cells4 (f : Nat → Bool) : Array Value := #[.int .u64 (wd f 0), .int .u64 (wd f 1), .int .u64 (wd f 2), .int .u64 (wd f 3)]
abbrev zero4 : Array Value := #[.int .u64 0, .int .u64 0, .int .u64 0, .int .u64 0]

set_option maxRecDepth 100000 in
set_option maxHeartbeats 1000000 in
theorem with_some (f : Nat → Bool) (b off c : Nat) (l : List Int) (w : World) (hn' : l.length ≤ 9223372036854775807) (hb : b < w.heap.size) (hc : ∀ i, i < l.length → w.cell? ⟨b, off + i, none⟩ = some (.int .u8 (l.getD i 0)))
    (hl : ∀ i, i < l.length → 0 ≤ l.getD i 0 ∧ l.getD i 0 < 256) :
    Calls Try.prog 124 #[setV f, .slice (some ⟨b, off, none⟩) l.length c] w fun e w' => e = .returned (setV (addL f l)) ∧ Below w.heap.size w w' := by
  have Hc := Lib.hid hc; clear hc
  have Hl := Lib.hid hl; clear hl
  go_enter Try.func124, Try.ntmps124
  go_wp2
  go_loopw [9] (fun i wr => ∃ k : Nat, k ≤ l.length ∧ i = .int .i64 k ∧ wr = (w.alloc (.cells (cells4 (addL f (l.take k))) 41)).alloc (.cells zero4 41)) (fun i _ => l.length - (intOf i).toNat)
  case atStart => exact ⟨0, Nat.zero_le _, rfl, rfl⟩
  case round =>
    obtain ⟨k, hk, rfl, rfl⟩ := hrel
    by_cases hlt : k < l.length
    · have hcell := Hc.out k hlt
      obtain ⟨x0, x1⟩ := Hl.out k hlt
      have HS := Lib.hid (addL_snoc f l k hlt)
      generalize l.getD k 0 = x at *
      have h4 : x.toNat / 64 = 0 ∨ x.toNat / 64 = 1 ∨ x.toNat / 64 = 2 ∨ x.toNat / 64 = 3 := by omega
      rcases h4 with h | h | h | h
      · have hi : (x / 64).toNat = 0 := by omega
        have H := Lib.hid h; clear h
        go_wp2
        go_roundw
        case rel => exact ⟨k + 1, by omega, by go_num, by rw [HS.out, wd_add _ x x0 0 H.out, cells4, wd_add_other _ _ 1 (by rw [H.out]; decide), wd_add_other _ _ 2 (by rw [H.out]; decide), wd_add_other _ _ 3 (by rw [H.out]; decide)]⟩
        case measure => simp [intOf]; omega
      · have hi : (x / 64).toNat = 1 := by omega
        have H := Lib.hid h; clear h
        go_wp2
        go_roundw
        case rel => exact ⟨k + 1, by omega, by go_num, by rw [HS.out, wd_add _ x x0 1 H.out, cells4, wd_add_other _ _ 0 (by rw [H.out]; decide), wd_add_other _ _ 2 (by rw [H.out]; decide), wd_add_other _ _ 3 (by rw [H.out]; decide)]⟩
        case measure => simp [intOf]; omega
      · have hi : (x / 64).toNat = 2 := by omega
        have H := Lib.hid h; clear h
        go_wp2
        go_roundw
        case rel => exact ⟨k + 1, by omega, by go_num, by rw [HS.out, wd_add _ x x0 2 H.out, cells4, wd_add_other _ _ 0 (by rw [H.out]; decide), wd_add_other _ _ 1 (by rw [H.out]; decide), wd_add_other _ _ 3 (by rw [H.out]; decide)]⟩
        case measure => simp [intOf]; omega
      · have hi : (x / 64).toNat = 3 := by omega
        have H := Lib.hid h; clear h
        go_wp2
        go_roundw
        case rel => exact ⟨k + 1, by omega, by go_num, by rw [HS.out, wd_add _ x x0 3 H.out, cells4, wd_add_other _ _ 0 (by rw [H.out]; decide), wd_add_other _ _ 1 (by rw [H.out]; decide), wd_add_other _ _ 2 (by rw [H.out]; decide)]⟩
        case measure => simp [intOf]; omega
    · have he : l.take k = l := List.take_of_length_le (by omega)
      have He := Lib.hid he; clear he
      go_wp2
      refine bodyPost_ret (v := setV (addL f (l.take k))) (by simp [results, Try.results124, go_sem]) rfl ⟨by rw [He.out], ?_⟩
      (repeat' (first | (with_reducible exact Below.refl _ _) | (with_reducible assumption) | (with_reducible refine Below.alloc ?_ ?_ _) | (with_reducible refine Below.drew ?_) | (with_reducible refine below_set ?_ ?_ _) | (with_reducible refine below_call ?_ ?_ (by assumption)) | (with_reducible exact Below.size (by assumption)) | omega | go_size))

set_option maxRecDepth 100000 in
set_option maxHeartbeats 400000 in
theorem with_none (f : Nat → Bool) (w : World) :
    Calls Try.prog 124 #[setV f, .slice none 0 0] w fun e w' => e = .returned (setV f) ∧ Below w.heap.size w w' := by
  go_enter Try.func124, Try.ntmps124
  go_wp2
  go_rounds 1
  refine bodyPost_ret (v := setV f) (by simp [results, Try.results124, go_sem]) rfl ⟨rfl, ?_⟩
  (repeat' (first | (with_reducible exact Below.refl _ _) | (with_reducible assumption) | (with_reducible refine Below.alloc ?_ ?_ _) | (with_reducible refine Below.drew ?_) | (with_reducible refine below_set ?_ ?_ _) | (with_reducible refine below_call ?_ ?_ (by assumption)) | (with_reducible exact Below.size (by assumption)) | omega | go_size))

set_option maxRecDepth 100000 in
theorem with_one (f : Nat → Bool) (x : Int) (h0 : 0 ≤ x) (h1 : x < 256) (g c : Nat) (w : World) (hc : w.cell? ⟨g, 0, none⟩ = some (.int .u8 x)) (hg : g < w.heap.size) :
    Calls Try.prog 124 #[setV f, .slice (some ⟨g, 0, none⟩) 1 c] w fun e w' => e = .returned (setV (addB f x.toNat)) ∧ Below w.heap.size w w' :=
  with_some f g 0 c [x] w (by simp) hg (fun i hi => by obtain rfl : i = 0 := by simpa using hi
                                                       simpa using hc) (fun i hi => by obtain rfl : i = 0 := by simpa using hi
                                                                                       simpa using ⟨h0, h1⟩)

/-- The bytes from one to another one. -/
def rangeF (lo hi : Int) : Nat → Bool := fun x => decide (lo ≤ (x : Int)) && decide ((x : Int) ≤ hi)
/-- The bytes from one on, below another one. -/
def belowF (lo k : Int) : Nat → Bool := fun x => decide (lo ≤ (x : Int)) && decide ((x : Int) < k)
theorem belowF_start (lo : Int) : zero4 = cells4 (belowF lo lo) := by
  have e : belowF lo lo = fun _ => false := by
    funext x; unfold belowF
    rw [Bool.and_eq_false_iff, decide_eq_false_iff_not, decide_eq_false_iff_not]; omega
  rw [e]; unfold zero4 cells4; rw [wd_zero, wd_zero, wd_zero, wd_zero]
theorem belowF_step (lo k : Int) (h : lo ≤ k) (h0 : 0 ≤ lo) : addB (belowF lo k) k.toNat = belowF lo (k + 1) := by
  funext x
  unfold addB belowF
  rw [Bool.eq_iff_iff]; simp; omega
theorem belowF_end (lo hi : Int) : belowF lo (hi + 1) = rangeF lo hi := by
  funext x
  unfold belowF rangeF
  rw [Bool.eq_iff_iff]; simp; omega

set_option maxRecDepth 100000 in
set_option maxHeartbeats 1000000 in
theorem range_any (lo hi : Int) (h0 : 0 ≤ lo) (h1 : lo < 256) (h2 : 0 ≤ hi) (h3 : hi < 256) (w : World) :
    Calls Try.prog 205 #[.int .u8 lo, .int .u8 hi] w fun e w' => e = .returned (setV (rangeF lo hi)) ∧ Below w.heap.size w w' := by
  go_enter Try.func205, Try.ntmps205
  go_wp2
  go_loopw [6] (fun i wr => ∃ k : Int, lo ≤ k ∧ (k ≤ hi + 1 ∨ k = lo) ∧ i = .int .i64 k ∧ Slab wr (w.heap.size + 1) (cells4 (belowF lo k)) 41 ∧ Slab wr w.heap.size zero4 41 ∧ Below w.heap.size w wr) (fun i _ => (256 - intOf i).toNat)
  case atStart =>
    refine ⟨lo, by omega, by omega, rfl, ?_, (Slab.new _ _ _).alloc _, by (repeat' (first | (with_reducible exact Below.refl _ _) | (with_reducible assumption) | (with_reducible refine Below.alloc ?_ ?_ _) | (with_reducible refine Below.drew ?_) | (with_reducible refine below_set ?_ ?_ _) | (with_reducible refine below_call ?_ ?_ (by assumption)) | (with_reducible exact Below.size (by assumption)) | omega | go_size))⟩
    rw [← belowF_start]
    exact Slab.newAt _ _ _ (by simp)
  case round =>
    obtain ⟨k, hk, hk', rfl, o1, o0, hb⟩ := hrel
    obtain ⟨c1, f1⟩ := Slab.facts (o1); obtain ⟨c0, f0⟩ := Slab.facts (o0)
    have hz := o1.lt
    have HB := Lib.hid hb; clear hb
    have HK := Lib.hid hk'; clear hk'
    by_cases hlt : k ≤ hi
    · go_wp2_with fail
      refine (with_one _ k (by omega) (by omega) _ _ _ (World.cell?_alloc_new _ _ _ _) (by simp)).mono ?_
      rintro e2 w2 ⟨rfl, hb2⟩
      obtain ⟨c2, f2⟩ := Slab.facts ((o1.alloc _).call hb2); obtain ⟨c3, f3⟩ := Slab.facts ((o0.alloc _).call hb2)
      go_wp2
      go_roundw
      case rel =>
        refine ⟨k + 1, by omega, .inl (by omega), rfl, ?_, ((((((o0.alloc _).call hb2).far (by omega) _).far (by omega) _).far (by omega) _).far (by omega) _), ?_⟩
        · rw [← belowF_step lo k hk h0]
          exact ((((((o1.alloc _).call hb2).set 0 _).set 1 _).set 2 _).set 3 _)
        · have hb := HB.out
          (repeat' (first | (with_reducible exact Below.refl _ _) | (with_reducible assumption) | (with_reducible refine Below.alloc ?_ ?_ _) | (with_reducible refine Below.drew ?_) | (with_reducible refine below_set ?_ ?_ _) | (with_reducible refine below_call ?_ ?_ (by assumption)) | (with_reducible exact Below.size (by assumption)) | omega | go_size))
      case measure => simp [intOf]; omega
    · have he : belowF lo k = rangeF lo hi := by
        rcases HK.out with h | h
        · rw [← belowF_end, show k = hi + 1 by omega]
        · funext x; unfold belowF rangeF; rw [Bool.eq_iff_iff]; simp; omega
      have He := Lib.hid he; clear he
      go_wp2
      refine bodyPost_ret (v := setV (belowF lo k)) (by simp [results, Try.results205, go_sem, c0]) rfl ⟨by rw [He.out], ?_⟩
      have hb := HB.out
      (repeat' (first | (with_reducible exact Below.refl _ _) | (with_reducible assumption) | (with_reducible refine Below.alloc ?_ ?_ _) | (with_reducible refine Below.drew ?_) | (with_reducible refine below_set ?_ ?_ _) | (with_reducible refine below_call ?_ ?_ (by assumption)) | (with_reducible exact Below.size (by assumption)) | omega | go_size))
end Go.Proofs.Ytddokdjlmdoebaa

/- Walks of the package bset: the next byte, the runs. -/
namespace Go.Proofs.Ytddokdjlmdoebaa
open Go.RowKit SetP

set_option maxRecDepth 100000 in
set_option maxHeartbeats 1000000 in
theorem next_neg (f : Nat → Bool) (from_ : Int) (hf0 : -9223372036854775808 ≤ from_) (hf1 : from_ < 0) (w : World) :
    Calls Try.prog 76 #[setV f, .int .i64 from_] w fun e w' => e = .returned (.int .i64 (nextF f from_)) ∧ Below w.heap.size w w' := by
  go_enter Try.func76, Try.ntmps76
  go_wp2
  go_loopw [5] (fun i wr => ∃ k : Int, 0 ≤ k ∧ from_ ≤ k ∧ (k ≤ 256 ∨ k = from_) ∧ i = .int .i64 k ∧ Slab wr w.heap.size (cells4 f) 41 ∧ Below w.heap.size w wr ∧ (∀ x : Nat, from_ ≤ x → (x : Int) < k → f x = false)) (fun i _ => (256 - intOf i).toNat)
  case atStart =>
    exact ⟨0, by omega, by omega, by omega, rfl, Slab.new _ _ _, by (repeat' (first | (with_reducible exact Below.refl _ _) | (with_reducible assumption) | (with_reducible refine Below.alloc ?_ ?_ _) | (with_reducible refine Below.drew ?_) | (with_reducible refine below_set ?_ ?_ _) | (with_reducible refine below_call ?_ ?_ (by assumption)) | (with_reducible exact Below.size (by assumption)) | omega | go_size)), fun x h1 h2 => by omega⟩
  case round =>
    obtain ⟨k, hk0, hk, hk', rfl, o0, hb, hs⟩ := hrel
    obtain ⟨c0, f0⟩ := Slab.facts (o0)
    have HB := Lib.hid hb; clear hb
    have HK := Lib.hid hk'; clear hk'
    have HS := Lib.hid hs; clear hs
    by_cases hlt : k < 256
    · cases hfk : f k.toNat with
      | true =>
        have HF := Lib.hid hfk; clear hfk
        go_wp2_with fail
        refine (has_any f k (by omega) (by omega) _).mono ?_
        rintro e1 w1 ⟨rfl, hb1⟩
        rw [HF.out]
        go_wp2
        go_ret
        have he : nextF f from_ = k := by
          rw [nextF_some (n := k.toNat) (by omega) (by omega) HF.out fun x h1 h2 => HS.out x h1 (by omega)]
          omega
        refine ⟨by rw [he]; rfl, ?_⟩
        have hb := HB.out
        (repeat' (first | (with_reducible exact Below.refl _ _) | (with_reducible assumption) | (with_reducible refine Below.alloc ?_ ?_ _) | (with_reducible refine Below.drew ?_) | (with_reducible refine below_set ?_ ?_ _) | (with_reducible refine below_call ?_ ?_ (by assumption)) | (with_reducible exact Below.size (by assumption)) | omega | go_size))
      | false =>
        have HF := Lib.hid hfk; clear hfk
        go_wp2_with fail
        refine (has_any f k (by omega) (by omega) _).mono ?_
        rintro e1 w1 ⟨rfl, hb1⟩
        rw [HF.out]
        go_wp2
        go_roundw
        case rel =>
          have hb := HB.out
          refine ⟨k + 1, by omega, by omega, by omega, rfl, o0.call hb1, by (repeat' (first | (with_reducible exact Below.refl _ _) | (with_reducible assumption) | (with_reducible refine Below.alloc ?_ ?_ _) | (with_reducible refine Below.drew ?_) | (with_reducible refine below_set ?_ ?_ _) | (with_reducible refine below_call ?_ ?_ (by assumption)) | (with_reducible exact Below.size (by assumption)) | omega | go_size)), fun x h1 h2 => ?_⟩
          by_cases e : (x : Int) = k
          · rw [← HF.out, ← e]; rfl
          · exact HS.out x h1 (by omega)
        case measure => simp [intOf]; omega
    · go_wp2
      go_ret
      have he : nextF f from_ = -1 := nextF_none fun x h1 h2 => HS.out x h1 (by omega)
      exact ⟨by rw [he]; rfl, HB.out⟩
set_option maxRecDepth 100000 in
set_option maxHeartbeats 1000000 in
theorem next_pos (f : Nat → Bool) (from_ : Int) (hf0 : 0 ≤ from_) (hf1 : from_ ≤ 9223372036854775807) (w : World) :
    Calls Try.prog 76 #[setV f, .int .i64 from_] w fun e w' => e = .returned (.int .i64 (nextF f from_)) ∧ Below w.heap.size w w' := by
  go_enter Try.func76, Try.ntmps76
  go_wp2
  go_loopw [5] (fun i wr => ∃ k : Int, 0 ≤ k ∧ from_ ≤ k ∧ (k ≤ 256 ∨ k = from_) ∧ i = .int .i64 k ∧ Slab wr w.heap.size (cells4 f) 41 ∧ Below w.heap.size w wr ∧ (∀ x : Nat, from_ ≤ x → (x : Int) < k → f x = false)) (fun i _ => (256 - intOf i).toNat)
  case atStart =>
    exact ⟨from_, by omega, by omega, by omega, rfl, Slab.new _ _ _, by (repeat' (first | (with_reducible exact Below.refl _ _) | (with_reducible assumption) | (with_reducible refine Below.alloc ?_ ?_ _) | (with_reducible refine Below.drew ?_) | (with_reducible refine below_set ?_ ?_ _) | (with_reducible refine below_call ?_ ?_ (by assumption)) | (with_reducible exact Below.size (by assumption)) | omega | go_size)), fun x h1 h2 => by omega⟩
  case round =>
    obtain ⟨k, hk0, hk, hk', rfl, o0, hb, hs⟩ := hrel
    obtain ⟨c0, f0⟩ := Slab.facts (o0)
    have HB := Lib.hid hb; clear hb
    have HK := Lib.hid hk'; clear hk'
    have HS := Lib.hid hs; clear hs
    by_cases hlt : k < 256
    · cases hfk : f k.toNat with
      | true =>
        have HF := Lib.hid hfk; clear hfk
        go_wp2_with fail
        refine (has_any f k (by omega) (by omega) _).mono ?_
        rintro e1 w1 ⟨rfl, hb1⟩
        rw [HF.out]
        go_wp2
        go_ret
        have he : nextF f from_ = k := by
          rw [nextF_some (n := k.toNat) (by omega) (by omega) HF.out fun x h1 h2 => HS.out x h1 (by omega)]
          omega
        refine ⟨by rw [he]; rfl, ?_⟩
        have hb := HB.out
        (repeat' (first | (with_reducible exact Below.refl _ _) | (with_reducible assumption) | (with_reducible refine Below.alloc ?_ ?_ _) | (with_reducible refine Below.drew ?_) | (with_reducible refine below_set ?_ ?_ _) | (with_reducible refine below_call ?_ ?_ (by assumption)) | (with_reducible exact Below.size (by assumption)) | omega | go_size))
      | false =>
        have HF := Lib.hid hfk; clear hfk
        go_wp2_with fail
        refine (has_any f k (by omega) (by omega) _).mono ?_
        rintro e1 w1 ⟨rfl, hb1⟩
        rw [HF.out]
        go_wp2
        go_roundw
        case rel =>
          have hb := HB.out
          refine ⟨k + 1, by omega, by omega, by omega, rfl, o0.call hb1, by (repeat' (first | (with_reducible exact Below.refl _ _) | (with_reducible assumption) | (with_reducible refine Below.alloc ?_ ?_ _) | (with_reducible refine Below.drew ?_) | (with_reducible refine below_set ?_ ?_ _) | (with_reducible refine below_call ?_ ?_ (by assumption)) | (with_reducible exact Below.size (by assumption)) | omega | go_size)), fun x h1 h2 => ?_⟩
          by_cases e : (x : Int) = k
          · rw [← HF.out, ← e]; rfl
          · exact HS.out x h1 (by omega)
        case measure => simp [intOf]; omega
    · go_wp2
      go_ret
      have he : nextF f from_ = -1 := nextF_none fun x h1 h2 => HS.out x h1 (by omega)
      exact ⟨by rw [he]; rfl, HB.out⟩
set_option maxRecDepth 100000 in
theorem next_any (f : Nat → Bool) (from_ : Int) (hf0 : -9223372036854775808 ≤ from_) (hf1 : from_ ≤ 9223372036854775807) (w : World) :
    Calls Try.prog 76 #[setV f, .int .i64 from_] w fun e w' => e = .returned (.int .i64 (nextF f from_)) ∧ Below w.heap.size w w' := by
  by_cases h : from_ < 0
  · exact next_neg f from_ hf0 h w
  · exact next_pos f from_ (by omega) hf1 w
def mAll (v : Value) : Nat := if intOf v < 0 then 0 else (257 - intOf v).toNat
theorem mAll_eq (z : Int) : mAll (.int .i64 z) = if z < 0 then 0 else (257 - z).toNat := rfl
theorem mAll_lt' (f : Nat → Bool) (m : Nat) (k : Int) (hm : m < 256) (hk : (m : Int) < k) : mAll (.int .i64 (nextF f k)) < mAll (.int .i64 m) := by
  rw [mAll_eq, mAll_eq]
  rcases nextF_cases f k with ⟨e, _⟩ | ⟨q, e, h, _⟩
  · rw [e, if_pos (by omega), if_neg (by omega)]; omega
  · rw [e, if_neg (by omega), if_neg (by omega)]; omega
theorem mAll_lt (f : Nat → Bool) (m : Nat) (hm : m < 256) : mAll (.int .i64 (nextF f ((m : Int) + 1))) < mAll (.int .i64 m) := mAll_lt' f m _ hm (by omega)

set_option maxRecDepth 100000 in
theorem info_pair : (Try.prog.info? 178).map (fun i => (i.zero, i.size, i.bytes)) = some (some (.agg #[.int .u8 0, .int .u8 0]), 2, 2) := by kernel_rfl

set_option maxRecDepth 100000 in
set_option maxHeartbeats 2000000 in
theorem runs_any (f : Nat → Bool) (w : World) :
    Calls Try.prog 122 #[setV f] w (RetRow 178 2 (runsF f).length (pairCells (runsF f)) w) := by
  obtain ⟨i0, hi, hz0, hz1, hz2⟩ := info_parts info_pair
  have HI := Lib.hid hi; clear hi
  have HZ0 := Lib.hid hz0; clear hz0
  have HZ1 := Lib.hid hz1; clear hz1
  have HZ2 := Lib.hid hz2; clear hz2
  go_enter Try.func122, Try.ntmps122
  go_wp2_with fail
  refine (not_any f _).mono ?_
  rintro e1 w1 ⟨rfl, hb1⟩
  have o1 : Slab w1 w.heap.size (cells4 f) 41 := (Slab.new _ _ _).call hb1
  obtain ⟨c1, f1⟩ := Slab.facts (o1)
  have hl1_0 : w.heap.size < w1.heap.size := (by have := hb1.size; first | omega | (simp at this; omega))
  go_wp2_with fail
  have o3 : Slab (w1.alloc (.cells (cells4 (fun x => !f x)) 41)) w1.heap.size (cells4 (fun x => !f x)) 41 := Slab.new _ _ _
  refine (next_any f 0 (by omega) (by omega) _).mono ?_
  rintro e2 w2 ⟨rfl, hb2⟩
  have o1' : Slab w2 w.heap.size (cells4 f) 41 := (o1.alloc _).call hb2
  have o3' : Slab w2 w1.heap.size (cells4 (fun x => !f x)) 41 := o3.call hb2
  have hB2 : Below w.heap.size w w2 := by (repeat' (first | (with_reducible exact Below.refl _ _) | (with_reducible assumption) | (with_reducible refine Below.alloc ?_ ?_ _) | (with_reducible refine Below.drew ?_) | (with_reducible refine below_set ?_ ?_ _) | (with_reducible refine below_call ?_ ?_ (by assumption)) | (with_reducible exact Below.size (by assumption)) | omega | go_size))
  have hz2 : w1.heap.size + 1 ≤ w2.heap.size := by simpa using hb2.size
  clear o1 o3 c1 f1 hb1 hb2
  have HL := Lib.hid hl1_0; clear hl1_0
  generalize w1.heap.size = g2 at *
  clear w1
  obtain ⟨nb0, nb1⟩ := nextF_bounds f 0
  go_wp2_with fail
  go_loopw [3, 5] (fun s b wr => ∃ (k : Nat) (A : Option Addr) (c : Nat), k ≤ 256 ∧ (k = 0 ∨ f k = false) ∧ b = .int .i64 (nextF f k) ∧ s = .slice A (runsB f k).length c ∧ wr.ownsRow (g2 + 1) 178 2 (.slice A (runsB f k).length c) (runsB f k).length (pairCells (runsB f k)) ∧
      Slab wr w.heap.size (cells4 f) 41 ∧ Slab wr g2 (cells4 (fun x => !f x)) 41 ∧ Below w.heap.size w wr ∧ g2 + 1 ≤ wr.heap.size) (fun _ b _ => mAll b)
  case atStart => exact ⟨0, none, 0, by omega, .inl rfl, rfl, rfl, World.ownsRow_nil _ _ _ _, o1', o3', hB2, hz2⟩
  case round =>
    clear o1' o3' hB2 hz2
    obtain ⟨k, A, c, hk, hh, rfl, rfl, hown, o1, o2, hB, hz⟩ := hrel
    have HH := Lib.hid hh; clear hh
    have HB := Lib.hid hB; clear hB
    have hlen := runsB_length f k
    obtain ⟨c1, f1⟩ := Slab.facts (o1)
    obtain ⟨c2, f2⟩ := Slab.facts (o2)
    rcases nextF_cases f k with ⟨e, _⟩ | ⟨b, e, _, hb256, _⟩
    · have HE := Lib.hid e; clear e
      rw [HE.out]
      go_wp2
      go_ret
      have hL := HL.out
      have he : runsF f = runsB f k := runsB_end hk HE.out
      rw [he]
      exact ⟨A, c, rfl, row_mono hown (by omega), HB.out⟩
    · have HE := Lib.hid e; clear e
      rw [HE.out]
      go_wp2_with fail
      refine (next_any (fun x => !f x) b (by omega) (by omega) _).mono ?_
      rintro e3 w3 ⟨rfl, hb3⟩
      rcases nextF_cases (fun x => !f x) b with ⟨e', _⟩ | ⟨n, e', _, hn256, _⟩
      · have HE' := Lib.hid e'; clear e'
        rw [HE'.out]
        have hown3 := row_call hown hb3
        have hz3 := hb3.size
        go_wp2_with (at_builtin; go_must (refine wpList_append_elem _ rfl (.tmp 18) (.tmp 22) 174 rfl (g2 + 1) 178 i0 _ _ _ Try.underlying174 HI.out HZ0.out HZ1.out HZ2.out rfl (by decide) _ _ _ _ rfl hown3 #[.int .u8 b, .int .u8 255] _ rfl (by first | rfl | simp) rfl (by simp [Value.oneCell']) (by unfold maxLen; omega) (by omega) (by first | omega | (simp; omega)) ?_); intro A4 q4 w4 hown4 hbl4)
        go_ret
        have hL := HL.out
        have hB3 : Below w.heap.size w w3 := below_call HB.out (by omega) hb3
        have he : runsF f = runsB f k ++ [((b : Int), 255)] := runsB_last hk HH.out HE.out HE'.out
        rw [he, pairCells_snoc, List.length_append]
        exact ⟨A4, q4, rfl, row_mono hown4 (by omega), hB3.trans (hbl4.mono (by omega))⟩
      · have HE' := Lib.hid e'; clear e'
        rw [HE'.out]
        have hown3 := row_call hown hb3
        have hz3 := hb3.size
        obtain ⟨hst, hbn, _, hfn⟩ := runsB_step hk HH.out HE.out HE'.out
        have HS := Lib.hid hst; clear hst
        have HF := Lib.hid hfn; clear hfn
        have hL := HL.out
        go_wp2_with (at_builtin; go_must (refine wpList_append_elem _ rfl (.tmp 24) (.tmp 31) 174 rfl (g2 + 1) 178 i0 _ _ _ Try.underlying174 HI.out HZ0.out HZ1.out HZ2.out rfl (by decide) _ _ _ _ rfl hown3 #[.int .u8 b, .int .u8 ((n : Int) - 1)] _ rfl (by first | rfl | simp) rfl (by simp [Value.oneCell']) (by unfold maxLen; omega) (by omega) (by first | omega | (simp; omega)) ?_); intro A4 q4 w4 hown4 hbl4; have o5 := (o1.call hb3).below hbl4 (by omega); obtain ⟨c5, f5⟩ := Slab.facts (o5))
        refine (next_any f n (by omega) (by omega) _).mono ?_
        rintro e7 w7 ⟨rfl, hb7⟩
        have hL := HL.out
        have hB3 : Below w.heap.size w w3 := below_call HB.out (by omega) hb3
        have hB4 : Below w.heap.size w w4 := hB3.trans (hbl4.mono (by omega))
        have hz4 := hbl4.size
        have hB7 : Below w.heap.size w w7 := hB4.trans (hb7.mono hB4.size)
        have hz7 := hb7.size
        have o6 := ((o2.call hb3).below hbl4 (by omega)).call hb7
        have o8 := o5.call hb7
        have hown7 := row_call hown4 hb7
        rw [← pairCells_snoc, ← HS.out] at hown7
        have hln : (runsB f k).length + 1 = (runsB f n).length := by rw [HS.out]; simp
        rw [hln] at hown7 ⊢
        have HLN := Lib.hid hln; clear hln
        clear hown3 hown4 hown hB3 hB4 hbl4 hb3
        go_wp2
        go_roundw
        case rel => exact ⟨n, A4, q4, by omega, .inr HF.out, rfl, rfl, hown7, o8, o6, hB7, by omega⟩
        case measure => exact mAll_lt' f b n hb256 (by omega)
end Go.Proofs.Ytddokdjlmdoebaa

/- Walks of the package bset: the iterator over the bytes of a set, and how many there are. -/
namespace Go.Proofs.Ytddokdjlmdoebaa
open Go.RowKit Go.Shelf SetP
attribute [local go_sem] Oper.semAt_some

set_option maxRecDepth 100000 in
set_option maxHeartbeats 400000 in
theorem all_any (f : Nat → Bool) (w : World) :
    Calls Try.prog 119 #[setV f] w fun e w' => e = .returned (.func (.func 146) #[] #[.pointer (some ⟨w.heap.size, 0, none⟩)]) ∧ w' = w.alloc (.cells (cells4 f) 41) := by
  go_enter Try.func119, Try.ntmps119
  go_wp2
  go_ret
  exact ⟨rfl, rfl⟩

theorem slab_own {β : Type} (B g : Nat) (cs : β → Array Value) (t : TypeId) : OwnFrom B (fun (s : β) W => Slab W g (cs s) t) := fun s W W' row h hg hr =>
  h.grown hg (fun e => by
    obtain ⟨_, o, ho, hc⟩ := hr g e.symm
    unfold Slab at h; rw [h] at ho; cases ho; simp [Obj.isCells] at hc)

/-- One block lies as it lay. -/
def KeepBlk (b : Nat) (W W' : World) : Prop := W'.heap[b]? = W.heap[b]?
theorem keepBlk_t {b : Nat} {A B C : World} (h : KeepBlk b A B) (k : KeepBlk b B C) : KeepBlk b A C := k.trans h
theorem keepBlk_b {b : Nat} {w : World} (hb : b < w.heap.size) (W : World) (l : Nat) (o o' : Obj) (hl : w.heap.size ≤ l) (_ : W.heap[l]? = some o) (_ : o.isCells = false) (_ : o.isWalk = false) : KeepBlk b W (W.putObj l o') :=
  World.putObj_heap_other (by omega)
theorem keepBlk_set {b : Nat} (W : World) {p : Addr} (h : b ≠ p.block) (u : Value) : KeepBlk b W (W.setCell p u) := Below.heap_setCell W p u b h

set_option maxRecDepth 100000 in
set_option maxHeartbeats 1000000 in
theorem all1_in (n l Bn : Nat) (f : Nat → Bool) (J Jx : List Int → World → Prop)
    (hn : 1 ≤ n)
    (hJ : ∀ s W W', J s W → Below W.heap.size W W' → J s W')
    (hY : ∀ pre x W, J pre W → pre.length < 256 → YieldAt Fence.wide (n - 1) Try.prog l #[.int .u8 x] W fun e W' =>
      (e = .returned (.bool true) ∧ J (pre ++ [x]) W' ∧ KeepBlk Bn W W') ∨ (e = .returned (.bool false) ∧ Jx (pre ++ [x]) W'))
    (W : World) (hBn : Slab W Bn (cells4 f) 41) (h0 : J [] W) :
    CallsIn Fence.wide n Try.prog 146 #[.func (.yield l) #[] #[], .pointer (some ⟨Bn, 0, none⟩)] W fun e W' => (∃ v, e = .returned v) ∧
      ((∃ ys, ys = bytesF f ∧ J ys W') ∨ (∃ pre, pre <+: bytesF f ∧ Jx pre W')) := by
  refine callsIn_of_wp Try.func146 rfl trivial ?_ rfl
  simp only [Try.ntmps146, List.size_toArray, List.length_cons, List.length_nil, Nat.reduceAdd, Nat.reduceSub, Array.replicate_succ, Array.replicate_zero, List.push_toArray, List.append_toArray, List.nil_append, List.cons_append]
  obtain ⟨c0, f0⟩ := hBn.facts
  have HJ := Lib.hid hJ; clear hJ
  have HY := Lib.hid hY; clear hY
  gi_wp2_with fail
  refine ⟨trivial, (callsIn_wide.2 (next_any f 0 (by omega) (by omega) _)).mono ?_⟩
  rintro e1 w1 ⟨rfl, hb1⟩
  obtain ⟨nb0, nb1⟩ := nextF_bounds f 0
  gi_wp2
  gi_loopw [3] (fun p wr => ∃ k : Nat, k ≤ 256 ∧ p = .int .i64 (nextF f k) ∧ Slab wr Bn (cells4 f) 41 ∧ J (upto f k) wr)
    (fun p _ => mAll p)
  case atStart =>
    exact ⟨0, by omega, rfl, hBn.call hb1, HJ.out _ _ _ h0 hb1⟩
  case round =>
    obtain ⟨k, hk, rfl, o0, hJs⟩ := hrel
    rcases nextF_cases f k with ⟨e, _⟩ | ⟨m, e, _⟩
    · have HU := Lib.hid (upto_end hk e)
      rw [e]
      clear e
      gi_wp2
      go_end0
      exact ⟨⟨_, rfl⟩, .inl ⟨_, rfl, HU.out ▸ hJs⟩⟩
    · obtain ⟨hu, hkm, hm⟩ := upto_next hk e
      have HU := Lib.hid hu; clear hu
      rw [e]
      clear e
      obtain ⟨fn, tmps, assign, body, hy, hR⟩ := HY.out (upto f k) m wr hJs (by have := upto_length f k; omega)
      obtain ⟨c3, f3⟩ := o0.facts
      gi_wp2
      refine hR.mono ?_
      rintro e W3 (⟨rfl, hJ3, hk3⟩ | ⟨rfl, hJx3⟩)
      · have o3 : Slab W3 Bn (cells4 f) 41 := hk3.trans o0
        obtain ⟨c4, f4⟩ := o3.facts
        gi_wp2_with fail
        refine ⟨trivial, (callsIn_wide.2 (next_any f (m + 1) (by omega) (by omega) _)).mono ?_⟩
        rintro e5 w5 ⟨rfl, hb5⟩
        obtain ⟨nb2, nb3⟩ := nextF_bounds f (m + 1)
        gi_wp2
        go_roundw
        case rel => exact ⟨m + 1, by omega, by go_num, o3.call hb5, HU.out ▸ HJ.out _ _ _ hJ3 hb5⟩
        case measure => exact mAll_lt f m hm
      · gi_wp2
        refine bodyPost_ret (results_none rfl _ _ _) rfl ?_
        exact ⟨⟨_, rfl⟩, .inr ⟨_, by rw [← HU.out]; exact upto_prefix f (by omega), hJx3⟩⟩
set_option maxRecDepth 100000 in
/-- What All hands back goes through all bytes of the set, ascending, or through a first part of them. -/
theorem all_stops (n Bn : Nat) (hn : 1 ≤ n) (f : Nat → Bool) (w : World) (hBn : Slab w Bn (cells4 f) 41) :
    SeqStopsK Fence.wide n Try.prog 146 #[.pointer (some ⟨Bn, 0, none⟩)] (fun x : Int => #[Value.int .u8 x]) (KeepBlk Bn) (fun ys => ys = bytesF f) (fun pre => pre <+: bytesF f) 256 w := fun l J Jx W hW hJ _ hY h0 =>
  all1_in n l Bn f J Jx hn (fun s W1 W2 h hb => hJ s W1 W2 none h (below_grown hb none) (by simp)) hY W (hBn.call hW) h0

set_option maxRecDepth 100000 in
set_option maxHeartbeats 2000000 in
theorem count_any (f : Nat → Bool) (w : World) :
    Calls Try.prog 74 #[setV f] w fun e w' => e = .returned (.int .i64 (bytesF f).length) ∧ Below w.heap.size w w' := by
  refine (callsIn_wide (n := 6)).1 ?_
  refine callsIn_of_wp_marks Try.func74 rfl trivial ?_ rfl
  simp only [Try.ntmps74, List.size_toArray, List.length_cons, List.length_nil, Nat.reduceAdd, Nat.reduceSub, Array.replicate_succ, Array.replicate_zero, List.push_toArray, List.append_toArray, List.nil_append, List.cons_append]
  gi_wp2_with fail
  refine ⟨trivial, (callsIn_wide.2 (all_any f _)).mono ?_⟩
  rintro e1 w1 ⟨rfl, rfl⟩
  gi_wp2
  have hB0 : Below w.heap.size w (((w.alloc (.cells (cells4 f) 41)).alloc (.cells #[.int .i64 0] 3)).alloc (.cells (cells4 f) 41)) := by (repeat' (first | (with_reducible exact Below.refl _ _) | (with_reducible assumption) | (with_reducible refine Below.alloc ?_ ?_ _) | (with_reducible refine Below.drew ?_) | (with_reducible refine below_set ?_ ?_ _) | (with_reducible refine below_call ?_ ?_ (by assumption)) | (with_reducible exact Below.size (by assumption)) | omega | go_size))
  refine wpIn_rangeFunc_ownF rfl (by omega) (gf := 146) (lb := #[.pointer (some ⟨w.heap.size + 1 + 1, 0, none⟩)]) rfl trivial (enters_of Try.func146 (by kernel_rfl) rfl)
    (all_stops 5 (w.heap.size + 1 + 1) (by omega) f _ (Slab.newAt _ _ _ (by simp))) keepBlk_t (keepBlk_b (by simp)) (Below.refl _ _) (fun _ => rfl)
    (fun pre W => Slab W (w.heap.size + 1) #[.int .i64 pre.length] 3 ∧ Below w.heap.size w W)
    (fun _ _ _ => False)
    (OwnFrom.and (slab_own _ _ (fun pre : List Int => #[.int .i64 pre.length]) _) (ownFrom_below (Nat.le_refl _) (by simp; omega)))
    (fun _ _ _ _ _ hs _ _ => hs)
    ⟨(Slab.newAt _ _ _ (by simp)).alloc _, hB0⟩
    (fun x => { tmps := #[setV f, .pointer (some ⟨w.heap.size, 0, none⟩), .int .i64 0, .pointer (some ⟨w.heap.size + 1, 0, none⟩), setV f, .func (.func 146) #[] #[.pointer (some ⟨w.heap.size + 1 + 1, 0, none⟩)], .int .u8 x, undef, undef, undef], defers := [] }) ?assign ?body ?done ?stop
  case assign =>
    intro l x W K hK
    gi_wp2
    simpa using hK
  case body =>
    rintro l pre x W ⟨o1, hB⟩ hlen
    obtain ⟨c1, f1⟩ := o1.facts
    have HB := Lib.hid hB; clear hB
    gi_wp2
    have hB := HB.out
    refine ⟨KeepsOthers.setCell _ _ _, keepBlk_set W (by simp) _, ?_, hB.setCell (p := ⟨w.heap.size + 1, 0, none⟩) (by simp) _⟩
    have e : ((pre.length : Int) + 1) = ((pre ++ [x]).length : Int) := by simp
    rw [e]
    exact o1.set 0 _
  case done =>
    rintro D ys W hD rfl ⟨o1, hB⟩ hK
    obtain ⟨c1, f1⟩ := o1.facts
    gi_wp2
    refine ⟨by simp, .inl ⟨_, _, rfl, run_takeDeferred hK, ?_⟩⟩
    exact ⟨_, results_tmp rfl _ _ _, rfl, hB.trans (belowK_b (w := w) (Nat.le_refl _) W D _ _ (by simp at hD; omega) hK rfl rfl)⟩
  case stop =>
    rintro D c pre W _ _ h _
    exact h.elim
end Go.Proofs.Ytddokdjlmdoebaa

/- Equality of sets, as the walk meets it. -/
namespace Go.Proofs.Ytddokdjlmdoebaa
open Go.RowKit SetP

set_option maxRecDepth 100000 in
set_option maxHeartbeats 2000000 in
theorem run_eq4 (w : World) (a b c d a' b' c' d' : Int) :
    (Op.equalIn 10000 41 (.agg #[.int .u64 a, .int .u64 b, .int .u64 c, .int .u64 d]) (.agg #[.int .u64 a', .int .u64 b', .int .u64 c', .int .u64 d'])).run Try.prog w =
      .ok (a == a' && (b == b' && (c == c' && d == d'))) w := by
  obtain ⟨i0, hi, _⟩ := info_parts (show (Try.prog.info? 39).map (fun i => (i.zero, i.size, i.bytes)) = some (some (.int .u64 0), 1, 8) by kernel_rfl)
  have hC : Try.prog.cellsOf 39 = 1 := by kernel_rfl
  rw [show (10000 : Nat) = 9999 + 1 from rfl, run_equalIn_array w 9999 _ _ Try.underlying41 hi, hC]
  have hq : ∀ x y, (Op.equalIn 9999 39 (.int .u64 x) (.int .u64 y)).run Try.prog w = .ok (x == y) w := fun x y => run_equalIn_int w 9998 _ _ .u64 x y Try.underlying39
  simp only [Op.eqItems, List.range, List.range.loop, part, isAgg, Sem.run_bind, run_underlying Try.underlying39, Result.andThen_ok]
  simp [hq]
  by_cases e1 : a = a' <;> by_cases e2 : b = b' <;> by_cases e3 : c = c' <;> by_cases e4 : d = d' <;> simp [e1, e2, e3, e4]

set_option maxRecDepth 100000 in
theorem run_eq_set (w : World) (f g : Nat → Bool) : (Op.equalIn 10000 41 (setV f) (setV g)).run Try.prog w = .ok (same f g) w := by
  rw [run_eq4, same_words]
set_option maxRecDepth 100000 in
theorem run_eq_set0 (w : World) (f : Nat → Bool) : (Op.equalIn 10000 41 (setV f) (.agg #[.int .u64 0, .int .u64 0, .int .u64 0, .int .u64 0])).run Try.prog w = .ok (same f (fun _ => false)) w := by
  have h := run_eq_set w f (fun _ => false)
  unfold setV at h ⊢
  rw [wd_zero, wd_zero, wd_zero, wd_zero] at h
  exact h
end Go.Proofs.Ytddokdjlmdoebaa

/- Equality of arrays of two bytes, as the walk meets it. -/
namespace Go.Proofs.Ytddokdjlmdoebaa
open Go.RowKit SetP

set_option maxRecDepth 100000 in
set_option maxHeartbeats 2000000 in
theorem run_eq2 (w : World) (a b a' b' : Int) :
    (Op.equalIn 10000 178 (.agg #[.int .u8 a, .int .u8 b]) (.agg #[.int .u8 a', .int .u8 b'])).run Try.prog w = .ok (a == a' && b == b') w := by
  obtain ⟨i0, hi, _⟩ := info_parts (show (Try.prog.info? 5).map (fun i => (i.zero, i.size, i.bytes)) = some (some (.int .u8 0), 1, 1) by kernel_rfl)
  have hC : Try.prog.cellsOf 5 = 1 := by kernel_rfl
  rw [show (10000 : Nat) = 9999 + 1 from rfl, run_equalIn_array w 9999 _ _ Try.underlying178 hi, hC]
  have hq : ∀ x y, (Op.equalIn 9999 5 (.int .u8 x) (.int .u8 y)).run Try.prog w = .ok (x == y) w := fun x y => run_equalIn_int w 9998 _ _ .u8 x y Try.underlying5
  simp only [Op.eqItems, List.range, List.range.loop, part, isAgg, Sem.run_bind, run_underlying Try.underlying5, Result.andThen_ok]
  simp [hq]
  by_cases e1 : a = a' <;> by_cases e2 : b = b' <;> simp [e1, e2]
end Go.Proofs.Ytddokdjlmdoebaa
