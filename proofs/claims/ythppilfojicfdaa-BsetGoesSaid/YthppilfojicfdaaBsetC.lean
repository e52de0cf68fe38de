/- Walks of the package bset: the iterator over the bytes of a set, and how many there are. -/
import Derived.Test.YthppilfojicfdaaProg
import Derived.WalkKit
import Derived.WalkSpells
import Derived.WalkLawsBesides
import Derived.Handy
import Derived.Lib.Hide
import Derived.RangeFuncFrom
import Derived.RangeFuncBound
import Derived.RangeFuncCalls
import Derived.RangeFuncLeaves
import Derived.Shelf.Abstract
import Derived.Shelf.RegionOpen
import Derived.OwnWalkIn
import Derived.TacticsInMore
import Derived.LoopNIn
import Derived.LoopIn
import Derived.Test.YthppilfojicfdaaBsetB
namespace Go.Proofs.Ythppilfojicfdaa
open Go.RowKit Go.Shelf SetP
attribute [local go_sem] Oper.semAt_some

set_option maxHeartbeats 400000 in
theorem all_any (f : Nat → Bool) (w : World) :
    Calls Try.prog 17 #[setV f] w fun e w' => e = .returned (.func (.func 53) #[] #[.pointer (some ⟨w.heap.size, 0, none⟩)]) ∧ w' = w.alloc (.cells (cells4 f) 24) := by
  go_enter Try.func17, Try.ntmps17
  go_wp2
  go_ret
  exact ⟨rfl, rfl⟩

theorem slab_own {β : Type} (B g : Nat) (cs : β → Array Value) (t : TypeId) : OwnFrom B (fun (s : β) W => Slab W g (cs s) t) := fun s W W' row h hg hr =>
  h.grown hg (fun e => by
    obtain ⟨_, o, ho, hc⟩ := hr g e.symm
    unfold Slab at h; rw [h] at ho; cases ho; simp [Obj.isCells] at hc)

/-- One block lies as it lay. -/
def KeepBlk (b : Nat) (W W' : World) : Prop := W'.heap[b]? = W.heap[b]?
theorem keepBlk_t {b : Nat} {A B C : World} (h : KeepBlk b A B) (k : KeepBlk b B C) : KeepBlk b A C := k.trans h
theorem keepBlk_b {b : Nat} {w : World} (hb : b < w.heap.size) (W : World) (l : Nat) (o o' : Obj) (hl : w.heap.size ≤ l) (_ : W.heap[l]? = some o) (_ : o.isCells = false) (_ : o.isWalk = false) : KeepBlk b W (W.putObj l o') :=
  World.putObj_heap_other (by omega)
theorem keepBlk_set {b : Nat} (W : World) {p : Addr} (h : b ≠ p.block) (u : Value) : KeepBlk b W (W.setCell p u) := Below.heap_setCell W p u b h

set_option maxRecDepth 100000 in
set_option maxHeartbeats 1000000 in
theorem all1_in (n l Bn : Nat) (f : Nat → Bool) (J Jx : List Int → World → Prop)
    (hn : 1 ≤ n)
    (hJ : ∀ s W W', J s W → Below W.heap.size W W' → J s W')
    (hY : ∀ pre x W, J pre W → pre.length < 256 → YieldAt Fence.wide (n - 1) Try.prog l #[.int .u8 x] W fun e W' =>
      (e = .returned (.bool true) ∧ J (pre ++ [x]) W' ∧ KeepBlk Bn W W') ∨ (e = .returned (.bool false) ∧ Jx (pre ++ [x]) W'))
    (W : World) (hBn : Slab W Bn (cells4 f) 24) (h0 : J [] W) :
    CallsIn Fence.wide n Try.prog 53 #[.func (.yield l) #[] #[], .pointer (some ⟨Bn, 0, none⟩)] W fun e W' => (∃ v, e = .returned v) ∧
      ((∃ ys, ys = bytesF f ∧ J ys W') ∨ (∃ pre, pre <+: bytesF f ∧ Jx pre W')) := by
  refine callsIn_of_wp Try.func53 rfl trivial ?_ rfl
  simp only [Try.ntmps53, List.size_toArray, List.length_cons, List.length_nil, Nat.reduceAdd, Nat.reduceSub, Array.replicate_succ, Array.replicate_zero, List.push_toArray, List.append_toArray, List.nil_append, List.cons_append]
  obtain ⟨c0, f0⟩ := hBn.facts
  have HJ := Lib.hid hJ; clear hJ
  have HY := Lib.hid hY; clear hY
  gi_wp2_with fail
  refine ⟨trivial, (callsIn_wide.2 (next_any f 0 (by omega) (by omega) _)).mono ?_⟩
  rintro e1 w1 ⟨rfl, hb1⟩
  obtain ⟨nb0, nb1⟩ := nextF_bounds f 0
  gi_wp2
  gi_loopw [3] (fun p wr => ∃ k : Nat, k ≤ 256 ∧ p = .int .i64 (nextF f k) ∧ Slab wr Bn (cells4 f) 24 ∧ J (upto f k) wr)
    (fun p _ => mAll p)
  case atStart =>
    exact ⟨0, by omega, rfl, hBn.call hb1, HJ.out _ _ _ h0 hb1⟩
  case round =>
    obtain ⟨k, hk, rfl, o0, hJs⟩ := hrel
    rcases nextF_cases f k with ⟨e, _⟩ | ⟨m, e, _⟩
    · have HU := Lib.hid (upto_end hk e)
      rw [e]
      clear e
      gi_wp2
      go_end0
      exact ⟨⟨_, rfl⟩, .inl ⟨_, rfl, HU.out ▸ hJs⟩⟩
    · obtain ⟨hu, hkm, hm⟩ := upto_next hk e
      have HU := Lib.hid hu; clear hu
      rw [e]
      clear e
      obtain ⟨fn, tmps, assign, body, hy, hR⟩ := HY.out (upto f k) m wr hJs (by have := upto_length f k; omega)
      obtain ⟨c3, f3⟩ := o0.facts
      gi_wp2
      refine hR.mono ?_
      rintro e W3 (⟨rfl, hJ3, hk3⟩ | ⟨rfl, hJx3⟩)
      · have o3 : Slab W3 Bn (cells4 f) 24 := hk3.trans o0
        obtain ⟨c4, f4⟩ := o3.facts
        gi_wp2_with fail
        refine ⟨trivial, (callsIn_wide.2 (next_any f (m + 1) (by omega) (by omega) _)).mono ?_⟩
        rintro e5 w5 ⟨rfl, hb5⟩
        obtain ⟨nb2, nb3⟩ := nextF_bounds f (m + 1)
        gi_wp2
        go_roundw
        case rel => exact ⟨m + 1, by omega, by go_num, o3.call hb5, HU.out ▸ HJ.out _ _ _ hJ3 hb5⟩
        case measure => exact mAll_lt f m hm
      · gi_wp2
        refine bodyPost_ret (results_none rfl _ _ _) rfl ?_
        exact ⟨⟨_, rfl⟩, .inr ⟨_, by rw [← HU.out]; exact upto_prefix f (by omega), hJx3⟩⟩
/-- What All hands back goes through all bytes of the set, ascending, or through a first part of them. -/
theorem all_stops (n Bn : Nat) (hn : 1 ≤ n) (f : Nat → Bool) (w : World) (hBn : Slab w Bn (cells4 f) 24) :
    SeqStopsK Fence.wide n Try.prog 53 #[.pointer (some ⟨Bn, 0, none⟩)] (fun x : Int => #[Value.int .u8 x]) (KeepBlk Bn) (fun ys => ys = bytesF f) (fun pre => pre <+: bytesF f) 256 w := fun l J Jx W hW hJ _ hY h0 =>
  all1_in n l Bn f J Jx hn (fun s W1 W2 h hb => hJ s W1 W2 none h (below_grown hb none) (by simp)) hY W (hBn.call hW) h0

set_option maxRecDepth 100000 in
set_option maxHeartbeats 2000000 in
theorem count_any (f : Nat → Bool) (w : World) :
    Calls Try.prog 20 #[setV f] w fun e w' => e = .returned (.int .i64 (bytesF f).length) ∧ Below w.heap.size w w' := by
  refine (callsIn_wide (n := 6)).1 ?_
  refine callsIn_of_wp_marks Try.func20 rfl trivial ?_ rfl
  simp only [Try.ntmps20, List.size_toArray, List.length_cons, List.length_nil, Nat.reduceAdd, Nat.reduceSub, Array.replicate_succ, Array.replicate_zero, List.push_toArray, List.append_toArray, List.nil_append, List.cons_append]
  gi_wp2_with fail
  refine ⟨trivial, (callsIn_wide.2 (all_any f _)).mono ?_⟩
  rintro e1 w1 ⟨rfl, rfl⟩
  gi_wp2
  have hB0 : Below w.heap.size w (((w.alloc (.cells (cells4 f) 24)).alloc (.cells #[.int .i64 0] 3)).alloc (.cells (cells4 f) 24)) := by (repeat' (first | (with_reducible exact Below.refl _ _) | (with_reducible assumption) | (with_reducible refine Below.alloc ?_ ?_ _) | (with_reducible refine Below.drew ?_) | (with_reducible refine below_set ?_ ?_ _) | (with_reducible refine below_call ?_ ?_ (by assumption)) | (with_reducible exact Below.size (by assumption)) | omega | go_size))
  refine wpIn_rangeFunc_ownF rfl (by omega) (gf := 53) (lb := #[.pointer (some ⟨w.heap.size + 1 + 1, 0, none⟩)]) rfl trivial (enters_of Try.func53 (by kernel_rfl) rfl)
    (all_stops 5 (w.heap.size + 1 + 1) (by omega) f _ (Slab.newAt _ _ _ (by simp))) keepBlk_t (keepBlk_b (by simp)) (Below.refl _ _) (fun _ => rfl)
    (fun pre W => Slab W (w.heap.size + 1) #[.int .i64 pre.length] 3 ∧ Below w.heap.size w W)
    (fun _ _ _ => False)
    (OwnFrom.and (slab_own _ _ (fun pre : List Int => #[.int .i64 pre.length]) _) (ownFrom_below (Nat.le_refl _) (by simp; omega)))
    (fun _ _ _ _ _ hs _ _ => hs)
    ⟨(Slab.newAt _ _ _ (by simp)).alloc _, hB0⟩
    (fun x => { tmps := #[setV f, .pointer (some ⟨w.heap.size, 0, none⟩), .int .i64 0, .pointer (some ⟨w.heap.size + 1, 0, none⟩), setV f, .func (.func 53) #[] #[.pointer (some ⟨w.heap.size + 1 + 1, 0, none⟩)], .int .u8 x, undef, undef, undef], defers := [] }) ?assign ?body ?done ?stop
  case assign =>
    intro l x W K hK
    gi_wp2
    simpa using hK
  case body =>
    rintro l pre x W ⟨o1, hB⟩ hlen
    obtain ⟨c1, f1⟩ := o1.facts
    have HB := Lib.hid hB; clear hB
    gi_wp2
    have hB := HB.out
    refine ⟨KeepsOthers.setCell _ _ _, keepBlk_set W (by simp) _, ?_, hB.setCell (p := ⟨w.heap.size + 1, 0, none⟩) (by simp) _⟩
    have e : ((pre.length : Int) + 1) = ((pre ++ [x]).length : Int) := by simp
    rw [e]
    exact o1.set 0 _
  case done =>
    rintro D ys W hD rfl ⟨o1, hB⟩ hK
    obtain ⟨c1, f1⟩ := o1.facts
    gi_wp2
    refine ⟨by simp, .inl ⟨_, _, rfl, run_takeDeferred hK, ?_⟩⟩
    exact ⟨_, results_tmp rfl _ _ _, rfl, hB.trans (belowK_b (w := w) (Nat.le_refl _) W D _ _ (by simp at hD; omega) hK rfl rfl)⟩
  case stop =>
    rintro D c pre W _ _ h _
    exact h.elim
end Go.Proofs.Ythppilfojicfdaa
