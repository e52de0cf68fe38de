/- The statements of stage 5, walked: what must come whatever the input is; are two lists of words one. -/
import Derived.Test.YtddokdjlmdoebaaProg
import Derived.WalkKit
import Derived.WalkSpells
import Derived.WalkLawsBesides
import Derived.Handy
import Derived.Lib.Hide
import Derived.Test.YtddokdjlmdoebaaLexD
import Derived.Test.YtddokdjlmdoebaaLexE
import Derived.Test.YtddokdjlmdoebaaMBset
import Derived.Deep.QuietTactic
import Derived.BigQuiet
set_option linter.unusedVariables false
set_option linter.unusedSimpArgs false
namespace Go.Proofs.Ytddokdjlmdoebaa
open Go.RowKit SetP BrkP LexP
set_option maxRecDepth 100000 in
set_option maxHeartbeats 2000000 in
theorem run_eq4n (w : World) (a b c d a' b' c' d' : Int) :
    (Op.equalIn 9999 41 (.agg #[.int .u64 a, .int .u64 b, .int .u64 c, .int .u64 d]) (.agg #[.int .u64 a', .int .u64 b', .int .u64 c', .int .u64 d'])).run Try.prog w =
      .ok (a == a' && (b == b' && (c == c' && d == d'))) w := by
  obtain ⟨i0, hi, _⟩ := info_parts (show (Try.prog.info? 39).map (fun i => (i.zero, i.size, i.bytes)) = some (some (.int .u64 0), 1, 8) by kernel_rfl)
  have hC : Try.prog.cellsOf 39 = 1 := by kernel_rfl
  rw [show (9999 : Nat) = 9998 + 1 from rfl, run_equalIn_array w 9998 _ _ Try.underlying41 hi, hC]
  have hq : ∀ x y, (Op.equalIn 9998 39 (.int .u64 x) (.int .u64 y)).run Try.prog w = .ok (x == y) w := fun x y => run_equalIn_int w 9997 _ _ .u64 x y Try.underlying39
  simp only [Op.eqItems, List.range, List.range.loop, part, isAgg, Sem.run_bind, run_underlying Try.underlying39, Result.andThen_ok]
  simp [hq]
  by_cases e1 : a = a' <;> by_cases e2 : b = b' <;> by_cases e3 : c = c' <;> by_cases e4 : d = d' <;> simp [e1, e2, e3, e4]
set_option maxRecDepth 100000 in
set_option maxHeartbeats 2000000 in
theorem run_eq_word (w : World) (x y : Wd) :
    (Op.equalIn 10000 57 (wdV x) (wdV y)).run Try.prog w = .ok (x.kind == y.kind && (x.at_ == y.at_ && (x.stop == y.stop && (same x.set y.set && (x.n == y.n && x.m == y.m))))) w := by
  have hp : Try.prog.stoodInHeld 57 = false := by kernel_rfl
  rw [show (10000 : Nat) = 9999 + 1 from rfl, run_equalIn_struct w 9999 57 _ _ (by rw [Program.fieldsOf, Try.underlying57]) hp]
  rw [Program.fieldsOf, Try.underlying57]
  have hq : ∀ x y, (Op.equalIn 9999 3 (.int .i64 x) (.int .i64 y)).run Try.prog w = .ok (x == y) w := fun x y => run_equalIn_int w 9998 _ _ .i64 x y Try.underlying3
  have hs : ∀ f g : Nat → Bool, (Op.equalIn 9999 41 (.agg #[.int .u64 (wd f 0), .int .u64 (wd f 1), .int .u64 (wd f 2), .int .u64 (wd f 3)]) (.agg #[.int .u64 (wd g 0), .int .u64 (wd g 1), .int .u64 (wd g 2), .int .u64 (wd g 3)])).run Try.prog w = .ok (same f g) w := fun f g => by rw [run_eq4n, same_words]
  obtain ⟨k, a, e, f, n, m⟩ := x
  obtain ⟨k', a', e', g, n', m'⟩ := y
  simp [Op.eqFields, part, isAgg, run_underlying Try.underlying3, run_underlying Try.underlying41, hq, hs]
  by_cases e1 : k = k' <;> by_cases e2 : a = a' <;> by_cases e3 : e = e' <;> by_cases e5 : n = n' <;> by_cases e6 : m = m' <;> cases hsm : same f g <;> simp [e1, e2, e3, e5, e6, hsm]
set_option maxRecDepth 100000 in
theorem run_eq_word_same (w : World) (x : Wd) : (Op.equalIn 10000 57 (wdV x) (wdV x)).run Try.prog w = .ok true w := by
  rw [run_eq_word, same_iff.2 fun _ _ => rfl]; simp
theorem all_at {s : ByteArray} {a : Nat} {x : Wd} (acc : List Wd) (h : a < s.size) (hw : nextW s a = ⟨x, 0, 0⟩) {e : Nat} (he : x.stop = (e : Int)) : allGo s a acc = allGo s e (acc ++ [x]) := by
  rw [allGo_word h acc (by rw [hw]) (by rw [hw]; exact he), hw]
abbrev s5a : ByteArray := ⟨#[97, 123, 50, 125, 124, 91, 98, 99, 93]⟩
abbrev s5b : ByteArray := ⟨#[97, 94]⟩
theorem nx5_0 : nextW s5a 0 = ⟨⟨1, 0, 1, addB noSet 97, 0, 0⟩, 0, 0⟩ := by
  rw [show (0 : Int) = ((0 : Nat) : Int) from rfl, nextW_in (by decide), show bt s5a 0 = 97 by decide]; rfl
theorem nx5_1 : nextW s5a 1 = ⟨⟨5, 1, 4, noSet, 2, 2⟩, 0, 0⟩ := by
  have h : BraceP.readF s5a.data.toList ((1 : Nat) : Int) = (2, 2, 4, 0, 0) := by decide +kernel
  rw [show (1 : Int) = ((1 : Nat) : Int) from rfl, nextW_in (by decide), show bt s5a 1 = 123 by decide]
  rw [show wordB s5a 1 123 = cntA ((1 : Nat) : Int) (BraceP.readF s5a.data.toList ((1 : Nat) : Int)) from rfl, h]; rfl
theorem nx5_4 : nextW s5a 4 = ⟨⟨4, 4, 5, noSet, 0, 0⟩, 0, 0⟩ := by
  rw [show (4 : Int) = ((4 : Nat) : Int) from rfl, nextW_in (by decide), show bt s5a 4 = 124 by decide]; rfl
theorem nx5_5 : nextW s5a 5 = ⟨⟨1, 5, 9, (readB s5a 5).set, 0, 0⟩, 0, 0⟩ := by
  have h0 : (readB s5a 5).err = 0 := by decide +kernel
  have h1 : (readB s5a 5).stop = 9 := by decide +kernel
  rw [show (5 : Int) = ((5 : Nat) : Int) from rfl, nextW_in (by decide), show bt s5a 5 = 91 by decide]
  show brkA _ (readB s5a 5) = _
  unfold brkA
  rw [if_pos h0, h1]; rfl
theorem nx5_b : nextW s5b 1 = badA 3 2 := by
  rw [show (1 : Int) = ((1 : Nat) : Int) from rfl, nextW_in (by decide), show bt s5b 1 = 94 by decide]; rfl
theorem nx5_b0 : nextW s5b 0 = ⟨⟨1, 0, 1, addB noSet 97, 0, 0⟩, 0, 0⟩ := by
  rw [show (0 : Int) = ((0 : Nat) : Int) from rfl, nextW_in (by decide), show bt s5b 0 = 97 by decide]; rfl
abbrev l5 : List Wd := [⟨1, 0, 1, addB noSet 97, 0, 0⟩, ⟨5, 1, 4, noSet, 2, 2⟩, ⟨4, 4, 5, noSet, 0, 0⟩, ⟨1, 5, 9, (readB s5a 5).set, 0, 0⟩]
theorem all5a : allGo s5a 0 [] = (l5, 0, 0) := by
  rw [all_at (e := 1) [] (by decide) nx5_0 rfl, all_at (e := 4) _ (by decide) nx5_1 rfl, all_at (e := 5) _ (by decide) nx5_4 rfl, all_at (e := 9) _ (by decide) nx5_5 rfl, allGo_end (by decide)]; rfl
theorem all5b : allGo s5b 0 [] = ([], 3, 2) := by
  rw [all_at (e := 1) [] (by decide) nx5_b0 rfl, allGo_bad (by decide) _ (by rw [show ((1 : Nat) : Int) = 1 from rfl, nx5_b]; decide), show ((1 : Nat) : Int) = 1 from rfl, nx5_b]; rfl
theorem text5 : textW (addB noSet 97) = [97] := by decide +kernel
set_option maxRecDepth 100000 in
theorem all5a_any (w : World) : Calls Try.prog 38 #[.string s5a] w (RetAll (l5, 0, 0) w) := by
  have := lall_any s5a (by decide) w
  rwa [all5a] at this
set_option maxRecDepth 100000 in
theorem all5b_any (w : World) : Calls Try.prog 38 #[.string s5b] w (RetAll ([], 3, 2) w) := by
  have := lall_any s5b (by decide) w
  rwa [all5b] at this
set_option maxRecDepth 100000 in
theorem text5_any (w : World) : Calls Try.prog 41 #[setV (addB noSet 97)] w fun e w' => e = .returned (.string ⟨#[97]⟩) ∧ Below w.heap.size w w' := by
  have := ltext_any (addB noSet 97) w
  rwa [text5] at this
set_option maxRecDepth 100000 in
set_option maxHeartbeats 2000000 in
theorem sure5_any (w : World) : Calls Try.prog 35 #[] w fun e w' => e = .returned (.bool true) ∧ Below w.heap.size w w' := by
  generalize hF : (readB s5a 5).set = F
  have C1 := all5a_any w
  unfold l5 at C1
  rw [hF] at C1
  clear hF
  have C3 := text5_any
  unfold setV at C3
  obtain ⟨x0, hx0⟩ : ∃ x, wd (addB noSet 97) 0 = x := ⟨_, rfl⟩
  obtain ⟨x1, hx1⟩ : ∃ x, wd (addB noSet 97) 1 = x := ⟨_, rfl⟩
  obtain ⟨x2, hx2⟩ : ∃ x, wd (addB noSet 97) 2 = x := ⟨_, rfl⟩
  obtain ⟨x3, hx3⟩ : ∃ x, wd (addB noSet 97) 3 = x := ⟨_, rfl⟩
  rw [hx0, hx1, hx2, hx3] at C3
  go_enter Try.func35, Try.ntmps35
  go_wp2_with fail
  refine C1.mono ?_
  rintro e1 w1 ⟨A, c, rfl, hown, hb1⟩
  clear C1
  obtain ⟨g, rfl, hgb, hgl, hgc, hcell⟩ := row_cell hown (by show 0 < 4; decide)
  have k0 := hcell 3 (by show 3 < 4 * 9; decide)
  have k1 := hcell 4 (by show 4 < 4 * 9; decide)
  have k2 := hcell 5 (by show 5 < 4 * 9; decide)
  have k3 := hcell 6 (by show 6 < 4 * 9; decide)
  have k9 := hcell 9 (by show 9 < 4 * 9; decide)
  have k16 := hcell 16 (by show 16 < 4 * 9; decide)
  have k29 := hcell 29 (by show 29 < 4 * 9; decide)
  simp [flatW] at k0 k1 k2 k3 k9 k16 k29
  rw [hx0] at k0
  rw [hx1] at k1
  rw [hx2] at k2
  rw [hx3] at k3
  have hgc4 : 4 ≤ c := hgc
  clear hx0 hx1 hx2 hx3 hcell hgc hown
  have HB1 := Lib.hid hb1; clear hb1
  go_wp2_with fail
  refine (all5b_any _).mono ?_
  rintro e2 w2 ⟨A2, c2, rfl, hown2, hb2⟩
  clear hown2
  have fc := (bcell hb2).1
  rw [← fc g _ hgl] at k0 k1 k2 k3 k9 k16 k29
  have HB2 := Lib.hid (below_then HB1.out hb2)
  clear hb2 fc HB1
  go_wp2_with fail
  refine (C3 _).mono ?_
  rintro e3 w3 ⟨rfl, hb3⟩
  have HB3 := Lib.hid (below_then HB2.out hb3)
  clear hb3 HB2 C3
  go_wp2
  go_ret
  exact ⟨rfl, HB3.out⟩
/-- The cells of one word. -/
def Word9 (w : World) (b o : Nat) (x : Wd) : Prop :=
  w.cell? ⟨b, o, none⟩ = some (.int .i64 x.kind) ∧ w.cell? ⟨b, o + 1, none⟩ = some (.int .i64 x.at_) ∧ w.cell? ⟨b, o + 2, none⟩ = some (.int .i64 x.stop) ∧ w.cell? ⟨b, o + 3, none⟩ = some (.int .u64 (wd x.set 0)) ∧
  w.cell? ⟨b, o + 4, none⟩ = some (.int .u64 (wd x.set 1)) ∧ w.cell? ⟨b, o + 5, none⟩ = some (.int .u64 (wd x.set 2)) ∧ w.cell? ⟨b, o + 6, none⟩ = some (.int .u64 (wd x.set 3)) ∧ w.cell? ⟨b, o + 7, none⟩ = some (.int .i64 x.n) ∧ w.cell? ⟨b, o + 8, none⟩ = some (.int .i64 x.m)
theorem WordsAt.word {w : World} {B : Nat} {A : Option Addr} {L : List Wd} (h : WordsAt w B A L) {k : Nat} (hk : k < L.length) : ∃ b, A = some ⟨b, 0, none⟩ ∧ b < B ∧ Word9 w b (k * 9) (L.getD k wd0) := by
  rcases h.2 with h2 | ⟨b, rfl, hb, hc⟩
  · omega
  · exact ⟨b, rfl, hb, hc k hk 0 (by omega), hc k hk 1 (by omega), hc k hk 2 (by omega), hc k hk 3 (by omega), hc k hk 4 (by omega), hc k hk 5 (by omega), hc k hk 6 (by omega), hc k hk 7 (by omega), hc k hk 8 (by omega)⟩
attribute [local go_sem] run_eq_word_same
set_option maxRecDepth 100000 in
set_option maxHeartbeats 2000000 in
theorem same5_any (A A' : Option Addr) (c c' : Nat) (L : List Wd) (w : World) (h : WordsAt w w.heap.size A L) (h' : WordsAt w w.heap.size A' L) :
    Calls Try.prog 40 #[.slice A L.length c, .slice A' L.length c'] w fun e w' => e = .returned (.bool true) ∧ Below w.heap.size w w' := by
  have hlen := h.1
  have H := Lib.hid h; have H' := Lib.hid h'
  clear h h'
  obtain ⟨N, hN⟩ : ∃ N, L.length = N := ⟨_, rfl⟩
  rw [hN] at hlen ⊢
  have HN := Lib.hid hN; clear hN
  go_enter Try.func40, Try.ntmps40
  go_wp2
  go_loopw [5] (fun i wr => ∃ k : Nat, k ≤ N ∧ i = .int .i64 k ∧ Below w.heap.size w wr) (fun i _ => N - (intOf i).toNat)
  case atStart => exact ⟨0, by omega, rfl, Below.refl _ _⟩
  case round =>
    obtain ⟨k, hk, rfl, hB⟩ := hrel
    have HB := Lib.hid hB; clear hB
    by_cases hlt : k < N
    · obtain ⟨b, rfl, hb, hn⟩ := (H.out.below HB.out).word (k := k) (by rw [HN.out]; exact hlt)
      obtain ⟨b', rfl, hb', hn'⟩ := (H'.out.below HB.out).word (k := k) (by rw [HN.out]; exact hlt)
      generalize L.getD k wd0 = x at *
      obtain ⟨n0, n1, n2, n3, n4, n5, n6, n7, n8⟩ := hn
      obtain ⟨m0, m1, m2, m3, m4, m5, m6, m7, m8⟩ := hn'
      have E := fun w => run_eq_word_same w x
      unfold wdV at E
      go_wp2_with fail
      go_quiet (fail)
      go_wp2
      go_roundw
      case rel => exact ⟨k + 1, by omega, by go_num, below_drewN HB.out _⟩
      case measure => simp [intOf]; omega
    · go_wp2
      go_ret
      exact ⟨rfl, HB.out⟩
end Go.Proofs.Ytddokdjlmdoebaa
