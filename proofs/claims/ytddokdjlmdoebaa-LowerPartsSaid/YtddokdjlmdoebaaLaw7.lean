/- Are two lists of nodes one: the walk, for lists that are. -/
import Derived.Test.YtddokdjlmdoebaaProg
import Derived.WalkKit
import Derived.WalkSpells
import Derived.WalkLawsBesides
import Derived.Handy
import Derived.Lib.Hide
import Derived.Test.YtddokdjlmdoebaaParA
import Derived.Test.YtddokdjlmdoebaaMBset
import Derived.Deep.QuietTactic
import Derived.BigQuiet
set_option linter.unusedVariables false
set_option linter.unusedSimpArgs false
namespace Go.Proofs.Ytddokdjlmdoebaa
open Go.RowKit SetP BrkP LexP AstP
set_option maxRecDepth 100000 in
set_option maxHeartbeats 2000000 in
theorem run_eq4m (w : World) (a b c d : Int) :
    (Op.equalIn 9999 41 (.agg #[.int .u64 a, .int .u64 b, .int .u64 c, .int .u64 d]) (.agg #[.int .u64 a, .int .u64 b, .int .u64 c, .int .u64 d])).run Try.prog w = .ok true w := by
  obtain ⟨i0, hi, _⟩ := info_parts (show (Try.prog.info? 39).map (fun i => (i.zero, i.size, i.bytes)) = some (some (.int .u64 0), 1, 8) by kernel_rfl)
  have hC : Try.prog.cellsOf 39 = 1 := by kernel_rfl
  rw [show (9999 : Nat) = 9998 + 1 from rfl, run_equalIn_array w 9998 _ _ Try.underlying41 hi, hC]
  have hq : ∀ x y, (Op.equalIn 9998 39 (.int .u64 x) (.int .u64 y)).run Try.prog w = .ok (x == y) w := fun x y => run_equalIn_int w 9997 _ _ .u64 x y Try.underlying39
  simp only [Op.eqItems, List.range, List.range.loop, part, isAgg, Sem.run_bind, run_underlying Try.underlying39, Result.andThen_ok]
  simp [hq]
set_option maxRecDepth 100000 in
set_option maxHeartbeats 2000000 in
theorem run_eq_nd_same (w : World) (x : Nd) :
    (Op.equalIn 10000 43 (.agg (ndCells x)) (.agg (ndCells x))).run Try.prog w = .ok true w := by
  have hp : Try.prog.stoodInHeld 43 = false := by kernel_rfl
  rw [show (10000 : Nat) = 9999 + 1 from rfl, run_equalIn_struct w 9999 43 _ _ (by rw [Program.fieldsOf, Try.underlying43]) hp]
  rw [Program.fieldsOf, Try.underlying43]
  have hn : ∀ x, (Op.equalIn 9999 3 (.int .i64 x) (.int .i64 x)).run Try.prog w = .ok true w := fun x => by rw [run_equalIn_int w 9998 _ _ .i64 x x Try.underlying3]; simp
  have hs : ∀ f : Nat → Bool, (Op.equalIn 9999 41 (.agg #[.int .u64 (wd f 0), .int .u64 (wd f 1), .int .u64 (wd f 2), .int .u64 (wd f 3)]) (.agg #[.int .u64 (wd f 0), .int .u64 (wd f 1), .int .u64 (wd f 2), .int .u64 (wd f 3)])).run Try.prog w = .ok true w := fun f => run_eq4m w _ _ _ _
  obtain ⟨k, a, e, m, f⟩ := x
  simp [Op.eqFields, part, isAgg, run_underlying Try.underlying3, run_underlying Try.underlying41, hn, hs]
attribute [local go_sem] run_eq_nd_same
set_option maxRecDepth 100000 in
set_option maxHeartbeats 2000000 in
theorem same06_any (A A' : Option Addr) (c c' : Nat) (L : List Nd) (w : World) (h : NodesAt w w.heap.size A L) (h' : NodesAt w w.heap.size A' L) :
    Calls Try.prog 32 #[.slice A L.length c, .slice A' L.length c'] w fun e w' => e = .returned (.bool true) ∧ Below w.heap.size w w' := by
  have hlen := h.1
  have H := Lib.hid h; have H' := Lib.hid h'
  clear h h'
  obtain ⟨N, hN⟩ : ∃ N, L.length = N := ⟨_, rfl⟩
  rw [hN] at hlen ⊢
  have HN := Lib.hid hN; clear hN
  go_enter Try.func32, Try.ntmps32
  go_wp2
  go_loopw [5] (fun i wr => ∃ k : Nat, k ≤ N ∧ i = .int .i64 k ∧ Below w.heap.size w wr) (fun i _ => N - (intOf i).toNat)
  case atStart => exact ⟨0, by omega, rfl, Below.refl _ _⟩
  case round =>
    obtain ⟨k, hk, rfl, hB⟩ := hrel
    have HB := Lib.hid hB; clear hB
    by_cases hlt : k < N
    · obtain ⟨b, off, rfl, hb, hn⟩ := (H.out.below HB.out).node (k := k) (by rw [HN.out]; exact hlt)
      obtain ⟨b', off', rfl, hb', hn'⟩ := (H'.out.below HB.out).node (k := k) (by rw [HN.out]; exact hlt)
      generalize L.getD k ndEmpty = x at *
      obtain ⟨n0, n1, n2, n3, n4, n5, n6, n7⟩ := hn
      obtain ⟨m0, m1, m2, m3, m4, m5, m6, m7⟩ := hn'
      have E := fun w => run_eq_nd_same w x
      unfold ndCells at E
      go_wp2_with fail
      go_quiet (fail)
      go_wp2
      go_roundw
      case rel => exact ⟨k + 1, by omega, by go_num, below_drewN HB.out _⟩
      case measure => simp [intOf]; omega
    · go_wp2
      go_ret
      exact ⟨rfl, HB.out⟩
theorem flatD_length7 (l : List Nd) : (l.flatMap fun x => (ndCells x).toList).length = l.length * 8 := by
  induction l with
  | nil => rfl
  | cons x l ih => rw [List.flatMap_cons, List.length_append, ih, List.length_cons]; simp; omega
theorem flatD_get (L : List Nd) (j f : Nat) (hj : j < L.length) (hf : f < 8) : (L.flatMap fun x => (ndCells x).toList)[j * 8 + f]? = (ndCells (L.getD j ndEmpty))[f]? := by
  induction L generalizing j with
  | nil => simp at hj
  | cons x L ih =>
    rw [List.flatMap_cons]
    cases j with
    | zero => rw [Nat.zero_mul, Nat.zero_add, List.getElem?_append_left (by simpa using hf)]; simp
    | succ j =>
      rw [List.getElem?_append_right (by simp; omega)]
      have := ih j (by simpa using hj)
      rw [show (j + 1) * 8 + f - (ndCells x).toList.length = j * 8 + f by simp; omega]
      rw [this]; rfl
theorem NodesAt.of_row {w : World} {base n c : Nat} {A : Option Addr} {L : List Nd} (h : w.ownsRow base 43 8 (.slice A n c) n (L.flatMap fun x => (ndCells x).toList)) (hn : L.length = n) (hb : n ≤ 1000000000000) : NodesAt w w.heap.size A L := by
  refine ⟨by omega, ?_⟩
  rcases Nat.eq_zero_or_pos n with h0 | h0
  · exact .inl (by omega)
  · obtain ⟨g, rfl, _, hg, _, hc⟩ := row_cell h h0
    refine .inr ⟨g, 0, rfl, hg, fun j hj f hf => ?_⟩
    rw [Nat.zero_add, hc _ (by omega), flatD_get L j f hj hf]
end Go.Proofs.Ytddokdjlmdoebaa
