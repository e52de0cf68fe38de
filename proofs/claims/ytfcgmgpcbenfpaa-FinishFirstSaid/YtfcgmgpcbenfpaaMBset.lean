/- Walks of the package bset: each call gives back the set that the plain functions tell, and leaves what was there. -/
import Derived.Test.YtfcgmgpcbenfpaaProg
import Derived.WalkKit
import Derived.WalkSpells
import Derived.WalkLawsBesides
import Derived.Handy
import Derived.Lib.Hide
import Derived.Test.YtfcgmgpcbenfpaaMMem
import Derived.Deep.RegionHeld3
import Derived.RangeFuncFrom
import Derived.RangeFuncBound
import Derived.RangeFuncCalls
import Derived.RangeFuncLeaves
import Derived.Shelf.Abstract
import Derived.Shelf.RegionOpen
import Derived.OwnWalkIn
import Derived.TacticsInMore
import Derived.LoopNIn
import Derived.LoopIn
import Derived.ChangeKeysEq
set_option linter.unusedVariables false
set_option linter.unusedSimpArgs false
namespace Go.Proofs.Ytfcgmgpcbenfpaa
open Go.RowKit SetP

theorem words_at (f : Nat → Bool) (b : Int) (h0 : 0 ≤ b) (h1 : b < 256) :
    [Value.int IntKind.u64 (wd f 0), Value.int IntKind.u64 (wd f 1), Value.int IntKind.u64 (wd f 2), Value.int IntKind.u64 (wd f 3)][(b / 64).toNat]? = some (.int .u64 (wd f (b.toNat / 64))) := by
  have h : b.toNat / 64 = 0 ∨ b.toNat / 64 = 1 ∨ b.toNat / 64 = 2 ∨ b.toNat / 64 = 3 := by omega
  have e : (b / 64).toNat = b.toNat / 64 := by omega
  rw [e]
  rcases h with h | h | h | h <;> simp [h]

set_option maxRecDepth 100000 in
set_option maxHeartbeats 400000 in
theorem or_any (f g : Nat → Bool) (w : World) :
    Calls Try.prog 86 #[setV f, setV g] w fun e w' => e = .returned (setV fun x => f x || g x) ∧ Below w.heap.size w w' := by
  go_enter Try.func86, Try.ntmps86
  go_wp2
  refine wp_loop_rounds 5 ?_
  rw [rounds_succ]; go_wp2; go_region; go_wp2
  rw [rounds_succ]; go_wp2; go_region; go_wp2
  rw [rounds_succ]; go_wp2; go_region; go_wp2
  rw [rounds_succ]; go_wp2; go_region; go_wp2
  rw [rounds_succ]; go_wp2
  go_returns
  refine ⟨ret_v ?_, ?_⟩
  · simp only [setV, wd_or]
  · go_grown

set_option maxRecDepth 100000 in
set_option maxHeartbeats 400000 in
theorem and_any (f g : Nat → Bool) (w : World) :
    Calls Try.prog 91 #[setV f, setV g] w fun e w' => e = .returned (setV fun x => f x && g x) ∧ Below w.heap.size w w' := by
  go_enter Try.func91, Try.ntmps91
  go_wp2
  refine wp_loop_rounds 5 ?_
  rw [rounds_succ]; go_wp2; go_region; go_wp2
  rw [rounds_succ]; go_wp2; go_region; go_wp2
  rw [rounds_succ]; go_wp2; go_region; go_wp2
  rw [rounds_succ]; go_wp2; go_region; go_wp2
  rw [rounds_succ]; go_wp2
  go_returns
  refine ⟨ret_v ?_, ?_⟩
  · simp only [setV, wd_and]
  · go_grown

set_option maxRecDepth 100000 in
set_option maxHeartbeats 400000 in
theorem not_any (f : Nat → Bool) (w : World) :
    Calls Try.prog 76 #[setV f] w fun e w' => e = .returned (setV fun x => !f x) ∧ Below w.heap.size w w' := by
  go_enter Try.func76, Try.ntmps76
  go_wp2
  go_rounds 5
  go_returns
  refine ⟨ret_v ?_, ?_⟩
  · simp only [setV, wd_xor_max]
  · go_grown

set_option maxRecDepth 100000 in
set_option maxHeartbeats 400000 in
theorem less_any (f g : Nat → Bool) (w : World) :
    Calls Try.prog 89 #[setV f, setV g] w fun e w' => e = .returned (setV fun x => f x && !g x) ∧ Below w.heap.size w w' := by
  go_enter Try.func89, Try.ntmps89
  go_wp2_with fail
  go_region_held3 (fun w' => w'.cell? ⟨w.heap.size, 0, none⟩ = some (.int .u64 (wd f 0)) ∧ w'.cell? ⟨w.heap.size, 1, none⟩ = some (.int .u64 (wd f 1)) ∧ w'.cell? ⟨w.heap.size, 2, none⟩ = some (.int .u64 (wd f 2)) ∧ w'.cell? ⟨w.heap.size, 3, none⟩ = some (.int .u64 (wd f 3)) ∧ w'.cell? ⟨w.heap.size + 1, 0, none⟩ = some (.int .u64 (wd g 0)) ∧ w'.cell? ⟨w.heap.size + 1, 1, none⟩ = some (.int .u64 (wd g 1)) ∧ w'.cell? ⟨w.heap.size + 1, 2, none⟩ = some (.int .u64 (wd g 2)) ∧ w'.cell? ⟨w.heap.size + 1, 3, none⟩ = some (.int .u64 (wd g 3))) (simp [*, go_sem])
    (first
      | (go_at_call 76; refine (not_any _ _).mono ?_; rintro e1 w1 ⟨rfl, hb1⟩; obtain ⟨hc1, hf1⟩ := bcell hb1; have hl1_0 : w.heap.size < w1.heap.size := (by have := hb1.size; first | omega | (simp at this; omega)); have hl1_1 : w.heap.size + 1 < w1.heap.size := (by have := hb1.size; first | omega | (simp at this; omega)); have hl1_2 : w.heap.size + 1 + 1 < w1.heap.size := (by have := hb1.size; first | omega | (simp at this; omega)))
      | (go_at_call 91; refine (and_any _ _ _).mono ?_; rintro e2 w2 ⟨rfl, hb2⟩; obtain ⟨hc2, hf2⟩ := bcell hb2; have hl2_0 : w.heap.size < w2.heap.size := (by have := hb2.size; first | omega | (simp at this; omega)); have hl2_1 : w.heap.size + 1 < w2.heap.size := (by have := hb2.size; first | omega | (simp at this; omega)); have hl2_2 : w.heap.size + 1 + 1 < w2.heap.size := (by have := hb2.size; first | omega | (simp at this; omega))))
  go_wp2
  refine bodyPost_ret (v := setV fun x => f x && !g x) (by simp [results, Try.results89, go_sem, *]) rfl ⟨rfl, ?_⟩
  (repeat' (first | (with_reducible exact Below.refl _ _) | (with_reducible assumption) | (with_reducible refine Below.alloc ?_ ?_ _) | (with_reducible refine Below.drew ?_) | (with_reducible refine below_set ?_ ?_ _) | (with_reducible refine below_call ?_ ?_ (by assumption)) | (with_reducible exact Below.size (by assumption)) | omega | go_size))

/-- Bytes are put in, one by one. -/
def addL (f : Nat → Bool) (l : List Int) : Nat → Bool := l.foldl (fun g b => addB g b.toNat) f
theorem addL_snoc (f : Nat → Bool) (l : List Int) (k : Nat) (hk : k < l.length) : addL f (l.take (k + 1)) = addB (addL f (l.take k)) (l.getD k 0).toNat := by
  unfold addL
  rw [List.take_succ_eq_append_getElem hk, List.foldl_append]
  simp [List.getElem?_eq_getElem hk]

abbrev cells4 (f : Nat → Bool) : Array Value := #[.int .u64 (wd f 0), .int .u64 (wd f 1), .int .u64 (wd f 2), .int .u64 (wd f 3)]
abbrev zero4 : Array Value := #[.int .u64 0, .int .u64 0, .int .u64 0, .int .u64 0]

set_option maxRecDepth 100000 in
set_option maxHeartbeats 1000000 in
theorem with_some (f : Nat → Bool) (b off c : Nat) (l : List Int) (w : World) (hn' : l.length ≤ 9223372036854775807) (hb : b < w.heap.size) (hc : ∀ i, i < l.length → w.cell? ⟨b, off + i, none⟩ = some (.int .u8 (l.getD i 0)))
    (hl : ∀ i, i < l.length → 0 ≤ l.getD i 0 ∧ l.getD i 0 < 256) :
    Calls Try.prog 88 #[setV f, .slice (some ⟨b, off, none⟩) l.length c] w fun e w' => e = .returned (setV (addL f l)) ∧ Below w.heap.size w w' := by
  have Hc := Lib.hid hc; clear hc
  have Hl := Lib.hid hl; clear hl
  go_enter Try.func88, Try.ntmps88
  go_wp2
  go_loopw [9] (fun i wr => ∃ k : Nat, k ≤ l.length ∧ i = .int .i64 k ∧ wr = (w.alloc (.cells (cells4 (addL f (l.take k))) 49)).alloc (.cells zero4 49)) (fun i _ => l.length - (intOf i).toNat)
  case atStart => exact ⟨0, Nat.zero_le _, rfl, rfl⟩
  case round =>
    obtain ⟨k, hk, rfl, rfl⟩ := hrel
    by_cases hlt : k < l.length
    · have hcell := Hc.out k hlt
      obtain ⟨x0, x1⟩ := Hl.out k hlt
      have HS := Lib.hid (addL_snoc f l k hlt)
      generalize l.getD k 0 = x at *
      have h4 : x.toNat / 64 = 0 ∨ x.toNat / 64 = 1 ∨ x.toNat / 64 = 2 ∨ x.toNat / 64 = 3 := by omega
      rcases h4 with h | h | h | h
      · have hi : (x / 64).toNat = 0 := by omega
        have H := Lib.hid h; clear h
        go_wp2
        go_roundw
        case rel => exact ⟨k + 1, by omega, by go_num, by rw [HS.out, wd_add _ x x0 0 H.out, cells4, wd_add_other _ _ 1 (by rw [H.out]; decide), wd_add_other _ _ 2 (by rw [H.out]; decide), wd_add_other _ _ 3 (by rw [H.out]; decide)]⟩
        case measure => simp [intOf]; omega
      · have hi : (x / 64).toNat = 1 := by omega
        have H := Lib.hid h; clear h
        go_wp2
        go_roundw
        case rel => exact ⟨k + 1, by omega, by go_num, by rw [HS.out, wd_add _ x x0 1 H.out, cells4, wd_add_other _ _ 0 (by rw [H.out]; decide), wd_add_other _ _ 2 (by rw [H.out]; decide), wd_add_other _ _ 3 (by rw [H.out]; decide)]⟩
        case measure => simp [intOf]; omega
      · have hi : (x / 64).toNat = 2 := by omega
        have H := Lib.hid h; clear h
        go_wp2
        go_roundw
        case rel => exact ⟨k + 1, by omega, by go_num, by rw [HS.out, wd_add _ x x0 2 H.out, cells4, wd_add_other _ _ 0 (by rw [H.out]; decide), wd_add_other _ _ 1 (by rw [H.out]; decide), wd_add_other _ _ 3 (by rw [H.out]; decide)]⟩
        case measure => simp [intOf]; omega
      · have hi : (x / 64).toNat = 3 := by omega
        have H := Lib.hid h; clear h
        go_wp2
        go_roundw
        case rel => exact ⟨k + 1, by omega, by go_num, by rw [HS.out, wd_add _ x x0 3 H.out, cells4, wd_add_other _ _ 0 (by rw [H.out]; decide), wd_add_other _ _ 1 (by rw [H.out]; decide), wd_add_other _ _ 2 (by rw [H.out]; decide)]⟩
        case measure => simp [intOf]; omega
    · have he : l.take k = l := List.take_of_length_le (by omega)
      have He := Lib.hid he; clear he
      go_wp2
      refine bodyPost_ret (v := setV (addL f (l.take k))) (by simp [results, Try.results88, go_sem]) rfl ⟨by rw [He.out], ?_⟩
      (repeat' (first | (with_reducible exact Below.refl _ _) | (with_reducible assumption) | (with_reducible refine Below.alloc ?_ ?_ _) | (with_reducible refine Below.drew ?_) | (with_reducible refine below_set ?_ ?_ _) | (with_reducible refine below_call ?_ ?_ (by assumption)) | (with_reducible exact Below.size (by assumption)) | omega | go_size))

set_option maxRecDepth 100000 in
set_option maxHeartbeats 400000 in
theorem with_none (f : Nat → Bool) (w : World) :
    Calls Try.prog 88 #[setV f, .slice none 0 0] w fun e w' => e = .returned (setV f) ∧ Below w.heap.size w w' := by
  go_enter Try.func88, Try.ntmps88
  go_wp2
  go_rounds 1
  refine bodyPost_ret (v := setV f) (by simp [results, Try.results88, go_sem]) rfl ⟨rfl, ?_⟩
  (repeat' (first | (with_reducible exact Below.refl _ _) | (with_reducible assumption) | (with_reducible refine Below.alloc ?_ ?_ _) | (with_reducible refine Below.drew ?_) | (with_reducible refine below_set ?_ ?_ _) | (with_reducible refine below_call ?_ ?_ (by assumption)) | (with_reducible exact Below.size (by assumption)) | omega | go_size))

set_option maxRecDepth 100000 in
theorem with_one (f : Nat → Bool) (x : Int) (h0 : 0 ≤ x) (h1 : x < 256) (g c : Nat) (w : World) (hc : w.cell? ⟨g, 0, none⟩ = some (.int .u8 x)) (hg : g < w.heap.size) :
    Calls Try.prog 88 #[setV f, .slice (some ⟨g, 0, none⟩) 1 c] w fun e w' => e = .returned (setV (addB f x.toNat)) ∧ Below w.heap.size w w' :=
  with_some f g 0 c [x] w (by simp) hg (fun i hi => by obtain rfl : i = 0 := by simpa using hi
                                                       simpa using hc) (fun i hi => by obtain rfl : i = 0 := by simpa using hi
                                                                                       simpa using ⟨h0, h1⟩)

/-- The bytes from one to another one. -/
def rangeF (lo hi : Int) : Nat → Bool := fun x => decide (lo ≤ (x : Int)) && decide ((x : Int) ≤ hi)
/-- The bytes from one on, below another one. -/
def belowF (lo k : Int) : Nat → Bool := fun x => decide (lo ≤ (x : Int)) && decide ((x : Int) < k)
theorem belowF_start (lo : Int) : zero4 = cells4 (belowF lo lo) := by
  have e : belowF lo lo = fun _ => false := by
    funext x; unfold belowF
    rw [Bool.and_eq_false_iff, decide_eq_false_iff_not, decide_eq_false_iff_not]; omega
  rw [e]; unfold zero4 cells4; rw [wd_zero, wd_zero, wd_zero, wd_zero]
theorem belowF_step (lo k : Int) (h : lo ≤ k) (h0 : 0 ≤ lo) : addB (belowF lo k) k.toNat = belowF lo (k + 1) := by
  funext x
  unfold addB belowF
  rw [Bool.eq_iff_iff]; simp; omega
theorem belowF_end (lo hi : Int) : belowF lo (hi + 1) = rangeF lo hi := by
  funext x
  unfold belowF rangeF
  rw [Bool.eq_iff_iff]; simp; omega

set_option maxRecDepth 100000 in
set_option maxHeartbeats 1000000 in
theorem range_any (lo hi : Int) (h0 : 0 ≤ lo) (h1 : lo < 256) (h2 : 0 ≤ hi) (h3 : hi < 256) (w : World) :
    Calls Try.prog 87 #[.int .u8 lo, .int .u8 hi] w fun e w' => e = .returned (setV (rangeF lo hi)) ∧ Below w.heap.size w w' := by
  go_enter Try.func87, Try.ntmps87
  go_wp2
  go_loopw [6] (fun i wr => ∃ k : Int, lo ≤ k ∧ (k ≤ hi + 1 ∨ k = lo) ∧ i = .int .i64 k ∧ Slab wr (w.heap.size + 1) (cells4 (belowF lo k)) 49 ∧ Slab wr w.heap.size zero4 49 ∧ Below w.heap.size w wr) (fun i _ => (256 - intOf i).toNat)
  case atStart =>
    refine ⟨lo, by omega, by omega, rfl, ?_, (Slab.new _ _ _).alloc _, by (repeat' (first | (with_reducible exact Below.refl _ _) | (with_reducible assumption) | (with_reducible refine Below.alloc ?_ ?_ _) | (with_reducible refine Below.drew ?_) | (with_reducible refine below_set ?_ ?_ _) | (with_reducible refine below_call ?_ ?_ (by assumption)) | (with_reducible exact Below.size (by assumption)) | omega | go_size))⟩
    rw [← belowF_start]
    exact Slab.newAt _ _ _ (by simp)
  case round =>
    obtain ⟨k, hk, hk', rfl, o1, o0, hb⟩ := hrel
    obtain ⟨c1, f1⟩ := Slab.facts (o1); obtain ⟨c0, f0⟩ := Slab.facts (o0)
    have hz := o1.lt
    have HB := Lib.hid hb; clear hb
    have HK := Lib.hid hk'; clear hk'
    by_cases hlt : k ≤ hi
    · go_wp2_with fail
      refine (with_one _ k (by omega) (by omega) _ _ _ (World.cell?_alloc_new _ _ _ _) (by simp)).mono ?_
      rintro e2 w2 ⟨rfl, hb2⟩
      obtain ⟨c2, f2⟩ := Slab.facts ((o1.alloc _).call hb2); obtain ⟨c3, f3⟩ := Slab.facts ((o0.alloc _).call hb2)
      go_wp2
      go_roundw
      case rel =>
        refine ⟨k + 1, by omega, .inl (by omega), rfl, ?_, ((((((o0.alloc _).call hb2).far (by omega) _).far (by omega) _).far (by omega) _).far (by omega) _), ?_⟩
        · rw [← belowF_step lo k hk h0]
          exact ((((((o1.alloc _).call hb2).set 0 _).set 1 _).set 2 _).set 3 _)
        · have hb := HB.out
          (repeat' (first | (with_reducible exact Below.refl _ _) | (with_reducible assumption) | (with_reducible refine Below.alloc ?_ ?_ _) | (with_reducible refine Below.drew ?_) | (with_reducible refine below_set ?_ ?_ _) | (with_reducible refine below_call ?_ ?_ (by assumption)) | (with_reducible exact Below.size (by assumption)) | omega | go_size))
      case measure => simp [intOf]; omega
    · have he : belowF lo k = rangeF lo hi := by
        rcases HK.out with h | h
        · rw [← belowF_end, show k = hi + 1 by omega]
        · funext x; unfold belowF rangeF; rw [Bool.eq_iff_iff]; simp; omega
      have He := Lib.hid he; clear he
      go_wp2
      refine bodyPost_ret (v := setV (belowF lo k)) (by simp [results, Try.results87, go_sem, c0]) rfl ⟨by rw [He.out], ?_⟩
      have hb := HB.out
      (repeat' (first | (with_reducible exact Below.refl _ _) | (with_reducible assumption) | (with_reducible refine Below.alloc ?_ ?_ _) | (with_reducible refine Below.drew ?_) | (with_reducible refine below_set ?_ ?_ _) | (with_reducible refine below_call ?_ ?_ (by assumption)) | (with_reducible exact Below.size (by assumption)) | omega | go_size))
end Go.Proofs.Ytfcgmgpcbenfpaa

/- Walks of the package bset: the next byte, the runs. -/
namespace Go.Proofs.Ytfcgmgpcbenfpaa
open Go.RowKit SetP

def mAll (v : Value) : Nat := if intOf v < 0 then 0 else (257 - intOf v).toNat
theorem mAll_eq (z : Int) : mAll (.int .i64 z) = if z < 0 then 0 else (257 - z).toNat := rfl
theorem mAll_lt' (f : Nat → Bool) (m : Nat) (k : Int) (hm : m < 256) (hk : (m : Int) < k) : mAll (.int .i64 (nextF f k)) < mAll (.int .i64 m) := by
  rw [mAll_eq, mAll_eq]
  rcases nextF_cases f k with ⟨e, _⟩ | ⟨q, e, h, _⟩
  · rw [e, if_pos (by omega), if_neg (by omega)]; omega
  · rw [e, if_neg (by omega), if_neg (by omega)]; omega
theorem mAll_lt (f : Nat → Bool) (m : Nat) (hm : m < 256) : mAll (.int .i64 (nextF f ((m : Int) + 1))) < mAll (.int .i64 m) := mAll_lt' f m _ hm (by omega)

end Go.Proofs.Ytfcgmgpcbenfpaa

/- Walks of the package bset: the iterator over the bytes of a set, and how many there are. -/
namespace Go.Proofs.Ytfcgmgpcbenfpaa
open Go.RowKit Go.Shelf SetP
attribute [local go_sem] Oper.semAt_some

theorem slab_own {β : Type} (B g : Nat) (cs : β → Array Value) (t : TypeId) : OwnFrom B (fun (s : β) W => Slab W g (cs s) t) := fun s W W' row h hg hr =>
  h.grown hg (fun e => by
    obtain ⟨_, o, ho, hc⟩ := hr g e.symm
    unfold Slab at h; rw [h] at ho; cases ho; simp [Obj.isCells] at hc)

/-- One block lies as it lay. -/
def KeepBlk (b : Nat) (W W' : World) : Prop := W'.heap[b]? = W.heap[b]?
theorem keepBlk_t {b : Nat} {A B C : World} (h : KeepBlk b A B) (k : KeepBlk b B C) : KeepBlk b A C := k.trans h
theorem keepBlk_b {b : Nat} {w : World} (hb : b < w.heap.size) (W : World) (l : Nat) (o o' : Obj) (hl : w.heap.size ≤ l) (_ : W.heap[l]? = some o) (_ : o.isCells = false) (_ : o.isWalk = false) : KeepBlk b W (W.putObj l o') :=
  World.putObj_heap_other (by omega)
theorem keepBlk_set {b : Nat} (W : World) {p : Addr} (h : b ≠ p.block) (u : Value) : KeepBlk b W (W.setCell p u) := Below.heap_setCell W p u b h

end Go.Proofs.Ytfcgmgpcbenfpaa

/- Equality of sets, as the walk meets it. -/
namespace Go.Proofs.Ytfcgmgpcbenfpaa
open Go.RowKit SetP

set_option maxRecDepth 100000 in
set_option maxHeartbeats 2000000 in
theorem run_eq4 (w : World) (a b c d a' b' c' d' : Int) :
    (Op.equalIn 10000 49 (.agg #[.int .u64 a, .int .u64 b, .int .u64 c, .int .u64 d]) (.agg #[.int .u64 a', .int .u64 b', .int .u64 c', .int .u64 d'])).run Try.prog w =
      .ok (a == a' && (b == b' && (c == c' && d == d'))) w := by
  obtain ⟨i0, hi, _⟩ := info_parts (show (Try.prog.info? 47).map (fun i => (i.zero, i.size, i.bytes)) = some (some (.int .u64 0), 1, 8) by kernel_rfl)
  have hC : Try.prog.cellsOf 47 = 1 := by kernel_rfl
  rw [show (10000 : Nat) = 9999 + 1 from rfl, run_equalIn_array w 9999 _ _ Try.underlying49 hi, hC]
  have hq : ∀ x y, (Op.equalIn 9999 47 (.int .u64 x) (.int .u64 y)).run Try.prog w = .ok (x == y) w := fun x y => run_equalIn_int w 9998 _ _ .u64 x y Try.underlying47
  simp only [Op.eqItems, List.range, List.range.loop, part, isAgg, Sem.run_bind, run_underlying Try.underlying47, Result.andThen_ok]
  simp [hq]
  by_cases e1 : a = a' <;> by_cases e2 : b = b' <;> by_cases e3 : c = c' <;> by_cases e4 : d = d' <;> simp [e1, e2, e3, e4]

set_option maxRecDepth 100000 in
theorem run_eq_set (w : World) (f g : Nat → Bool) : (Op.equalIn 10000 49 (setV f) (setV g)).run Try.prog w = .ok (same f g) w := by
  rw [run_eq4, same_words]
set_option maxRecDepth 100000 in
theorem run_eq_set0 (w : World) (f : Nat → Bool) : (Op.equalIn 10000 49 (setV f) (.agg #[.int .u64 0, .int .u64 0, .int .u64 0, .int .u64 0])).run Try.prog w = .ok (same f (fun _ => false)) w := by
  have h := run_eq_set w f (fun _ => false)
  unfold setV at h ⊢
  rw [wd_zero, wd_zero, wd_zero, wd_zero] at h
  exact h
end Go.Proofs.Ytfcgmgpcbenfpaa

/- Equality of arrays of two bytes, as the walk meets it. -/
namespace Go.Proofs.Ytfcgmgpcbenfpaa
open Go.RowKit SetP

end Go.Proofs.Ytfcgmgpcbenfpaa
