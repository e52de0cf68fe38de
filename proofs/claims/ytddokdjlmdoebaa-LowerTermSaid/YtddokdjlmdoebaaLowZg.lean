/- Walks of the package lower: Lower, of any tree within any limits. -/
import Derived.Test.YtddokdjlmdoebaaProg
import Derived.WalkKit
import Derived.WalkSpells
import Derived.WalkLawsBesides
import Derived.Handy
import Derived.Lib.Hide
import Derived.Test.YtddokdjlmdoebaaMLoZ
import Derived.Test.YtddokdjlmdoebaaMLoG
set_option linter.unusedVariables false
set_option linter.unusedSimpArgs false
namespace Go.Proofs.Ytddokdjlmdoebaa
open Go.RowKit SetP AstP LowP ParP
set_option maxRecDepth 100000 in
set_option maxHeartbeats 2000000 in
theorem lower_big1 (A : Option Addr) (c : Nat) (L : List Nd) (hR : rightF L = true) (hlen : L.length ≤ 100000) (T P S n1 n2 : Int) (hs : sizeF L = (n1, n2)) (h1 : min T 400 < n1)
    (w : World) (hL : NodesAt w w.heap.size A L) :
    Calls Try.prog 22 #[.slice A L.length c, .agg #[.int .i64 T, .int .i64 P, .int .i64 S]] w fun e w' => e = .returned (.tuple #[.slice none 0 0, .int .i64 10]) ∧ Below w.heap.size w w' := by
  have HB0 := Lib.hid ((Below.refl w.heap.size w).alloc (Nat.le_refl _) (.cells #[.int .i64 T, .int .i64 P, .int .i64 S] 30))
  have o0 : Slab (w.alloc (.cells #[.int .i64 T, .int .i64 P, .int .i64 S] 30)) w.heap.size #[.int .i64 T, .int .i64 P, .int .i64 S] 30 := Slab.new _ _ _
  have O0 := Lib.hid o0
  have CR := fun w1 (hb : Below w.heap.size w w1) => right_any A c L w1 ((hL.below hb).more hb.size)
  have CS := fun w1 (hb : Below w.heap.size w w1) => lsize_any A c L (by omega) w1 ((hL.below hb).more hb.size)
  rw [hR] at CR
  rw [hs] at CS
  have HCR := Lib.hid CR
  have HCS := Lib.hid CS
  have hm1 : decide (min T 400 < n1) = true := decide_eq_true h1
  clear CR CS hL hR hs o0
  go_enter Try.func22, Try.ntmps22
  go_wp2_with fail
  refine (HCR.out _ HB0.out).mono ?_
  rintro e1 w1 ⟨rfl, hb1⟩
  have HB1 := Lib.hid (below_then HB0.out hb1)
  have O1 := Lib.hid (O0.out.call hb1)
  go_wp2_with fail
  refine (HCS.out _ HB1.out).mono ?_
  rintro e2 w2 ⟨rfl, hb2⟩
  have HB2 := Lib.hid (below_then HB1.out hb2)
  have O2 := Lib.hid (O1.out.call hb2)
  obtain ⟨c2, f2⟩ := O2.out.facts
  clear hb1 hb2 HCR HCS
  go_wp2_with fail
  all_goals
    refine bodyPost_ret (v := .tuple #[.slice none 0 0, .int .i64 10]) (by simp [results, Try.results22, go_sem]) rfl ⟨rfl, HB2.out⟩
set_option maxRecDepth 100000 in
set_option maxHeartbeats 2000000 in
theorem lower_big2 (A : Option Addr) (c : Nat) (L : List Nd) (hR : rightF L = true) (hlen : L.length ≤ 100000) (T P S n1 n2 : Int) (hs : sizeF L = (n1, n2)) (h1 : n1 ≤ T) (h0 : n1 ≤ 400) (h2 : min (max P 0) 64 < n2)
    (w : World) (hL : NodesAt w w.heap.size A L) :
    Calls Try.prog 22 #[.slice A L.length c, .agg #[.int .i64 T, .int .i64 P, .int .i64 S]] w fun e w' => e = .returned (.tuple #[.slice none 0 0, .int .i64 10]) ∧ Below w.heap.size w w' := by
  have HB0 := Lib.hid ((Below.refl w.heap.size w).alloc (Nat.le_refl _) (.cells #[.int .i64 T, .int .i64 P, .int .i64 S] 30))
  have o0 : Slab (w.alloc (.cells #[.int .i64 T, .int .i64 P, .int .i64 S] 30)) w.heap.size #[.int .i64 T, .int .i64 P, .int .i64 S] 30 := Slab.new _ _ _
  have O0 := Lib.hid o0
  have CR := fun w1 (hb : Below w.heap.size w w1) => right_any A c L w1 ((hL.below hb).more hb.size)
  have CS := fun w1 (hb : Below w.heap.size w w1) => lsize_any A c L (by omega) w1 ((hL.below hb).more hb.size)
  rw [hR] at CR
  rw [hs] at CS
  have HCR := Lib.hid CR
  have HCS := Lib.hid CS
  have hm1 : decide (min T 400 < n1) = false := decide_eq_false (by omega)
  have hm2 : decide (min (max P 0) 64 < n2) = true := decide_eq_true h2
  clear CR CS hL hR hs o0
  go_enter Try.func22, Try.ntmps22
  go_wp2_with fail
  refine (HCR.out _ HB0.out).mono ?_
  rintro e1 w1 ⟨rfl, hb1⟩
  have HB1 := Lib.hid (below_then HB0.out hb1)
  have O1 := Lib.hid (O0.out.call hb1)
  go_wp2_with fail
  refine (HCS.out _ HB1.out).mono ?_
  rintro e2 w2 ⟨rfl, hb2⟩
  have HB2 := Lib.hid (below_then HB1.out hb2)
  have O2 := Lib.hid (O1.out.call hb2)
  obtain ⟨c2, f2⟩ := O2.out.facts
  clear hb1 hb2 HCR HCS
  go_wp2_with fail
  all_goals
    refine bodyPost_ret (v := .tuple #[.slice none 0 0, .int .i64 10]) (by simp [results, Try.results22, go_sem]) rfl ⟨rfl, HB2.out⟩
/-- What Lower tells of a tree within limits: the term, or the error. -/
def lowTermF (L : List Nd) (T P : Int) : List Tm × Int :=
  if rightF L then (if min T 400 < (sizeF L).1 ∨ min (max P 0) 64 < (sizeF L).2 then ([], 10) else (termAt L (L.length - 1), 0)) else ([], 11)
/-- What a call hands back that makes a term, or an error. -/
def RetLow (X : List Tm) (er : Int) (w : World) (e : Ending) (w' : World) : Prop :=
  ∃ A c, e = .returned (.tuple #[.slice A X.length c, .int .i64 er]) ∧ w'.ownsRow w.heap.size 47 8 (.slice A X.length c) X.length (flatT X) ∧ Below w.heap.size w w'
theorem retLow_none {er : Int} {w w' : World} {e : Ending} (h : e = .returned (.tuple #[.slice none 0 0, .int .i64 er]) ∧ Below w.heap.size w w') : RetLow [] er w e w' := ⟨none, 0, h.1, World.ownsRow_nil _ _ _ _, h.2⟩
set_option maxRecDepth 100000 in
theorem lower_any (A : Option Addr) (c : Nat) (L : List Nd) (hlen : L.length ≤ 100000) (T P S : Int) (w : World) (hL : NodesAt w w.heap.size A L) :
    Calls Try.prog 22 #[.slice A L.length c, .agg #[.int .i64 T, .int .i64 P, .int .i64 S]] w (RetLow (lowTermF L T P).1 (lowTermF L T P).2 w) := by
  unfold lowTermF
  cases hR : rightF L with
  | false =>
    rw [if_neg (by decide)]
    exact (lower_not A c L hR T P S w hL).mono fun _ _ h => retLow_none h
  | true =>
    rw [if_pos rfl]
    obtain ⟨⟨n1, n2⟩, hs⟩ : ∃ p, sizeF L = p := ⟨_, rfl⟩
    rw [hs]
    simp only
    by_cases h1 : min T 400 < n1
    · rw [if_pos (.inl h1)]
      exact (lower_big1 A c L hR hlen T P S n1 n2 hs h1 w hL).mono fun _ _ h => retLow_none h
    · by_cases h2 : min (max P 0) 64 < n2
      · rw [if_pos (.inr h2)]
        exact (lower_big2 A c L hR hlen T P S n1 n2 hs (by omega) (by omega) h2 w hL).mono fun _ _ h => retLow_none h
      · rw [if_neg (by omega)]
        obtain ⟨hF, hok, _⟩ := right_parts hR
        have hpos := (root_size hF).1
        have hb := szAt_bd hF hok (L.length - 1) (by omega)
        have hs2 := hs
        rw [sizeF_right hR] at hs2
        rw [hs2] at hb
        unfold Bd at hb
        simp only at hb
        obtain ⟨lo, hG, _⟩ := good_term hR (by rw [hs]; show n1 ≤ 400; omega) (by rw [hs]; show n2 ≤ 64; omega)
        exact lower_ok A c L hR hlen T P S n1 n2 hs (by omega) (by omega) (by omega) (by omega) (by omega) lo hG w hL
end Go.Proofs.Ytddokdjlmdoebaa
