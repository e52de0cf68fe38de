/- Are two lists of nodes one: the walk, for lists that are. -/
import Derived.Test.YtddokdjlmdoebaaProg
import Derived.WalkKit
import Derived.WalkSpells
import Derived.WalkLawsBesides
import Derived.Handy
import Derived.Lib.Hide
import Derived.Test.YtddokdjlmdoebaaParA
import Derived.Test.YtddokdjlmdoebaaMBset
import Derived.Deep.QuietTactic
import Derived.BigQuiet
import Derived.Test.YtddokdjlmdoebaaMPrn
import Derived.Test.YtddokdjlmdoebaaParZ
set_option linter.unusedVariables false
set_option linter.unusedSimpArgs false
namespace Go.Proofs.Ytddokdjlmdoebaa
open Go.RowKit SetP BrkP LexP AstP
set_option maxRecDepth 100000 in
set_option maxHeartbeats 2000000 in
theorem run_eq4m (w : World) (a b c d : Int) :
    (Op.equalIn 9999 41 (.agg #[.int .u64 a, .int .u64 b, .int .u64 c, .int .u64 d]) (.agg #[.int .u64 a, .int .u64 b, .int .u64 c, .int .u64 d])).run Try.prog w = .ok true w := by
  obtain ⟨i0, hi, _⟩ := info_parts (show (Try.prog.info? 39).map (fun i => (i.zero, i.size, i.bytes)) = some (some (.int .u64 0), 1, 8) by kernel_rfl)
  have hC : Try.prog.cellsOf 39 = 1 := by kernel_rfl
  rw [show (9999 : Nat) = 9998 + 1 from rfl, run_equalIn_array w 9998 _ _ Try.underlying41 hi, hC]
  have hq : ∀ x y, (Op.equalIn 9998 39 (.int .u64 x) (.int .u64 y)).run Try.prog w = .ok (x == y) w := fun x y => run_equalIn_int w 9997 _ _ .u64 x y Try.underlying39
  simp only [Op.eqItems, List.range, List.range.loop, part, isAgg, Sem.run_bind, run_underlying Try.underlying39, Result.andThen_ok]
  simp [hq]
set_option maxRecDepth 100000 in
set_option maxHeartbeats 2000000 in
theorem run_eq_nd_same (w : World) (x : Nd) :
    (Op.equalIn 10000 43 (.agg (ndCells x)) (.agg (ndCells x))).run Try.prog w = .ok true w := by
  have hp : Try.prog.stoodInHeld 43 = false := by kernel_rfl
  rw [show (10000 : Nat) = 9999 + 1 from rfl, run_equalIn_struct w 9999 43 _ _ (by rw [Program.fieldsOf, Try.underlying43]) hp]
  rw [Program.fieldsOf, Try.underlying43]
  have hn : ∀ x, (Op.equalIn 9999 3 (.int .i64 x) (.int .i64 x)).run Try.prog w = .ok true w := fun x => by rw [run_equalIn_int w 9998 _ _ .i64 x x Try.underlying3]; simp
  have hs : ∀ f : Nat → Bool, (Op.equalIn 9999 41 (.agg #[.int .u64 (wd f 0), .int .u64 (wd f 1), .int .u64 (wd f 2), .int .u64 (wd f 3)]) (.agg #[.int .u64 (wd f 0), .int .u64 (wd f 1), .int .u64 (wd f 2), .int .u64 (wd f 3)])).run Try.prog w = .ok true w := fun f => run_eq4m w _ _ _ _
  obtain ⟨k, a, e, m, f⟩ := x
  simp [Op.eqFields, part, isAgg, run_underlying Try.underlying3, run_underlying Try.underlying41, hn, hs]
attribute [local go_sem] run_eq_nd_same
set_option maxRecDepth 100000 in
set_option maxHeartbeats 2000000 in
theorem same06_any (A A' : Option Addr) (c c' : Nat) (L : List Nd) (w : World) (h : NodesAt w w.heap.size A L) (h' : NodesAt w w.heap.size A' L) :
    Calls Try.prog 32 #[.slice A L.length c, .slice A' L.length c'] w fun e w' => e = .returned (.bool true) ∧ Below w.heap.size w w' := by
  have hlen := h.1
  have H := Lib.hid h; have H' := Lib.hid h'
  clear h h'
  obtain ⟨N, hN⟩ : ∃ N, L.length = N := ⟨_, rfl⟩
  rw [hN] at hlen ⊢
  have HN := Lib.hid hN; clear hN
  go_enter Try.func32, Try.ntmps32
  go_wp2
  go_loopw [5] (fun i wr => ∃ k : Nat, k ≤ N ∧ i = .int .i64 k ∧ Below w.heap.size w wr) (fun i _ => N - (intOf i).toNat)
  case atStart => exact ⟨0, by omega, rfl, Below.refl _ _⟩
  case round =>
    obtain ⟨k, hk, rfl, hB⟩ := hrel
    have HB := Lib.hid hB; clear hB
    by_cases hlt : k < N
    · obtain ⟨b, off, rfl, hb, hn⟩ := (H.out.below HB.out).node (k := k) (by rw [HN.out]; exact hlt)
      obtain ⟨b', off', rfl, hb', hn'⟩ := (H'.out.below HB.out).node (k := k) (by rw [HN.out]; exact hlt)
      generalize L.getD k ndEmpty = x at *
      obtain ⟨n0, n1, n2, n3, n4, n5, n6, n7⟩ := hn
      obtain ⟨m0, m1, m2, m3, m4, m5, m6, m7⟩ := hn'
      have E := fun w => run_eq_nd_same w x
      unfold ndCells at E
      go_wp2_with fail
      go_quiet (fail)
      go_wp2
      go_roundw
      case rel => exact ⟨k + 1, by omega, by go_num, below_drewN HB.out _⟩
      case measure => simp [intOf]; omega
    · go_wp2
      go_ret
      exact ⟨rfl, HB.out⟩
theorem flatD_length7 (l : List Nd) : (l.flatMap fun x => (ndCells x).toList).length = l.length * 8 := by
  induction l with
  | nil => rfl
  | cons x l ih => rw [List.flatMap_cons, List.length_append, ih, List.length_cons]; simp; omega
theorem flatD_get (L : List Nd) (j f : Nat) (hj : j < L.length) (hf : f < 8) : (L.flatMap fun x => (ndCells x).toList)[j * 8 + f]? = (ndCells (L.getD j ndEmpty))[f]? := by
  induction L generalizing j with
  | nil => simp at hj
  | cons x L ih =>
    rw [List.flatMap_cons]
    cases j with
    | zero => rw [Nat.zero_mul, Nat.zero_add, List.getElem?_append_left (by simpa using hf)]; simp
    | succ j =>
      rw [List.getElem?_append_right (by simp; omega)]
      have := ih j (by simpa using hj)
      rw [show (j + 1) * 8 + f - (ndCells x).toList.length = j * 8 + f by simp; omega]
      rw [this]; rfl
theorem NodesAt.of_row {w : World} {base n c : Nat} {A : Option Addr} {L : List Nd} (h : w.ownsRow base 43 8 (.slice A n c) n (L.flatMap fun x => (ndCells x).toList)) (hn : L.length = n) (hb : n ≤ 1000000000000) : NodesAt w w.heap.size A L := by
  refine ⟨by omega, ?_⟩
  rcases Nat.eq_zero_or_pos n with h0 | h0
  · exact .inl (by omega)
  · obtain ⟨g, rfl, _, hg, _, hc⟩ := row_cell h h0
    refine .inr ⟨g, 0, rfl, hg, fun j hj f hf => ?_⟩
    rw [Nat.zero_add, hc _ (by omega), flatD_get L j f hj hf]
end Go.Proofs.Ytddokdjlmdoebaa

/- ParseTells, walked; what must come whatever the input is. -/
namespace Go.Proofs.Ytddokdjlmdoebaa
open Go.RowKit SetP BrkP LexP AstP ParP
set_option maxRecDepth 100000 in
theorem p7a_any (w : World) : Calls Try.prog 30 #[.string s7a] w (RetParse (l7, 0, 0) w) := by
  have := pparse_any s7a (by decide) w
  rwa [parse7a] at this
set_option maxRecDepth 100000 in
theorem p7b_any (w : World) : Calls Try.prog 30 #[.string s7b] w (RetParse ([], 8, 2) w) := by
  have := pparse_any s7b (by decide) w
  rwa [parse7b] at this
set_option maxRecDepth 100000 in
theorem p7c_any (w : World) : Calls Try.prog 30 #[.string s7c] w (RetParse ([], 7, 3) w) := by
  have := pparse_any s7c (by decide) w
  rwa [parse7c] at this
set_option maxRecDepth 100000 in
theorem o7d_any (w : World) : Calls Try.prog 33 #[.string s7d] w fun e w' => e = .returned (.int .i64 1) ∧ Below w.heap.size w w' := by
  have := popen_any s7d (by decide) w
  rwa [open7d] at this
set_option maxRecDepth 100000 in
set_option maxHeartbeats 2000000 in
theorem sure7_any (w : World) : Calls Try.prog 29 #[] w fun e w' => e = .returned (.bool true) ∧ Below w.heap.size w w' := by
  go_enter Try.func29, Try.ntmps29
  go_wp2_with fail
  refine (p7a_any _).mono ?_
  rintro e1 w1 ⟨A, c, rfl, hown, hb1⟩
  obtain ⟨g, rfl, hgb, hgl, hgc, hcell⟩ := row_cell hown (by decide)
  have k24 : w1.cell? ⟨g, 24, none⟩ = some (.int .i64 6) := (hcell 24 (by decide)).trans rfl
  have k49 : w1.cell? ⟨g, 49, none⟩ = some (.int .i64 2) := (hcell 49 (by decide)).trans rfl
  have hgc7 : 7 ≤ c := hgc
  have HB1 := Lib.hid hb1
  clear hb1 hown hcell hgc
  go_wp2_with fail
  refine (p7b_any _).mono ?_
  rintro e2 w2 ⟨A2, c2, rfl, hown2, hb2⟩
  have fc2 := (bcell hb2).1
  rw [← fc2 g _ hgl] at k24 k49
  have hgl2 : g < w2.heap.size := Nat.lt_of_lt_of_le hgl hb2.size
  have HB2 := Lib.hid (below_then HB1.out hb2)
  clear hb2 hown2 fc2 HB1 hgl
  go_wp2_with fail
  refine (p7c_any _).mono ?_
  rintro e3 w3 ⟨A3, c3, rfl, hown3, hb3⟩
  have fc3 := (bcell hb3).1
  rw [← fc3 g _ hgl2] at k24 k49
  have HB3 := Lib.hid (below_then HB2.out hb3)
  clear hb3 hown3 fc3 HB2 hgl2
  go_wp2_with fail
  refine (o7d_any _).mono ?_
  rintro e4 w4 ⟨rfl, hb4⟩
  have HB4 := Lib.hid (below_then HB3.out hb4)
  clear hb4 HB3 k24 k49
  go_wp2
  go_ret
  exact ⟨rfl, HB4.out⟩
set_option maxRecDepth 100000 in
set_option maxHeartbeats 2000000 in
theorem tells7_any (s : ByteArray) (w : World) : Calls Try.prog 7 #[.string s] w fun e w' => e = .returned (.bool true) ∧ Below w.heap.size w w' := by
  by_cases h : 300 < (s.size : Int)
  · have e : decide (300 < (s.size : Int)) = true := by simpa using h
    go_enter Try.func7, Try.ntmps7
    go_wp2_with fail
    refine (sure7_any _).mono ?_
    rintro e1 w1 ⟨rfl, hb1⟩
    go_wp2
    go_ret
    exact ⟨rfl, hb1⟩
  have e : decide (300 < (s.size : Int)) = false := by simpa using h
  have hsz : s.size ≤ 300 := by omega
  clear h
  have C1 := pparse_any s (by omega)
  have C2 := rparse_any s (by omega)
  have C3 := popen_any s (by omega)
  have C4 := ropen_any s (by omega)
  generalize openF s = N at *
  obtain ⟨⟨L, er, p⟩, hR⟩ : ∃ R, parseF s = R := ⟨_, rfl⟩
  have hlen : L.length ≤ 1000000 := by
    have : (parseF s).1.length ≤ 1000000 := by
      rcases read7 s with ⟨y, h, hb⟩ | ⟨er, p, h, h0⟩
      · have hp : parseF s = if 1 < y.lv.length then ([], 2, (s.size : Int)) else ((endRows y).out, 0, 0) := by unfold parseF; rw [h]; rfl
        rw [hp]
        split
        · simp
        · obtain ⟨o, lv, G⟩ := y
          have ho := hb.out
          cases lv with
          | nil => exact absurd rfl hb.ne
          | cons pr v =>
          obtain ⟨p, r⟩ := pr
          have l1 := rowN_le p
          have l2 := rowsN_le (r + 1)
          show (o ++ rowN p ++ rowsN (r + 1)).length ≤ _
          rw [List.length_append, List.length_append]
          simp only at ho
          omega
      · rw [(parse_bad7 h).1]; simp
    rw [hR] at this
    exact this
  rw [hR] at C1 C2
  clear hR
  have t1 : (er == er) = true := by simp
  have t2 : (p == p) = true := by simp
  have t3 : ((N : Int) == (N : Int)) = true := by simp
  go_enter Try.func7, Try.ntmps7
  go_wp2_with fail
  refine (C1 _).mono ?_
  rintro e1 w1 ⟨A, c, rfl, hown, hb1⟩
  have HN1 := Lib.hid (NodesAt.of_row hown rfl (by simp only; omega))
  have HB1 := Lib.hid hb1
  clear C1 hb1 hown
  go_wp2_with fail
  refine (C2 _).mono ?_
  rintro e2 w2 ⟨A2, c2, rfl, hown2, hb2⟩
  have HN2 := Lib.hid (NodesAt.of_row hown2 rfl (by simp only; omega))
  have HN12 := Lib.hid ((HN1.out.below hb2).more hb2.size)
  have HB2 := Lib.hid (below_then HB1.out hb2)
  clear C2 hb2 hown2 HB1 HN1
  have C5 := same06_any A A2 c c2 L w2 HN12.out HN2.out
  simp only
  go_wp2_with fail
  refine C5.mono ?_
  rintro e3 w3 ⟨rfl, hb3⟩
  have HB3 := Lib.hid (below_then HB2.out hb3)
  clear C5 hb3 HB2
  go_wp2_with fail
  refine (C3 _).mono ?_
  rintro e4 w4 ⟨rfl, hb4⟩
  have HB4 := Lib.hid (below_then HB3.out hb4)
  clear C3 hb4 HB3
  go_wp2_with fail
  refine (C4 _).mono ?_
  rintro e5 w5 ⟨rfl, hb5⟩
  have HB5 := Lib.hid (below_then HB4.out hb5)
  clear C4 hb5 HB4
  go_wp2_with fail
  refine (sure7_any _).mono ?_
  rintro e6 w6 ⟨rfl, hb6⟩
  have HB6 := below_then HB5.out hb6
  clear hb6
  go_wp2
  go_ret
  exact ⟨rfl, HB6⟩
end Go.Proofs.Ytddokdjlmdoebaa
