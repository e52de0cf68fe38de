/- Walks of the package bracket: the reader's methods. -/
import Derived.Test.YthppilfojicfdaaProg
import Derived.WalkKit
import Derived.WalkSpells
import Derived.WalkLawsBesides
import Derived.Handy
import Derived.Lib.Hide
import Derived.Test.YthppilfojicfdaaBrkP
import Derived.Deep.RegionHeld3
import Derived.Lib.QuietBelow
import Derived.BigQuiet
import Derived.IntWalk
import Derived.Deep.QuietTactic
namespace Go.Proofs.Ythppilfojicfdaa
open Go.RowKit SetP BrkP Go.Sort

/-- A reader's block: its text, its place, its set, an error, and the error's place. -/
abbrev rdCells (s : ByteArray) (i : Int) (f : Nat → Bool) (e p : Int) : Array Value := #[.string s, .int .i64 i, .int .u64 (wd f 0), .int .u64 (wd f 1), .int .u64 (wd f 2), .int .u64 (wd f 3), .int .i64 e, .int .i64 p]
abbrev RdAt (w : World) (g : Nat) (s : ByteArray) (i : Int) (f : Nat → Bool) (e p : Int) : Prop := Slab w g (rdCells s i f e p) 79
abbrev rp (g : Nat) : Value := .pointer (some ⟨g, 0, none⟩)
/-- What becomes of the reader. -/
def ResAt (s : ByteArray) (R : Res) (g : Nat) (w : World) : Prop := match R with
  | .go i f => RdAt w g s i f 0 0
  | .bad e p => ∃ i f, RdAt w g s i f e p
abbrev Unit0 (e : Ending) : Prop := e = .returned (.tuple #[])

set_option maxRecDepth 100000 in
set_option maxHeartbeats 2000000 in
theorem marks_any (b : UInt8) (w : World) : Calls Try.prog 68 #[.int .u8 (b.toNat : Int)] w fun e w' => e = .returned (.bool (marksB b)) ∧ w' = w := by
  have hb : b.toNat < 256 := b.toNat_lt
  have key : ∀ k : UInt8, (b == k) = ((b.toNat : Int) == (k.toNat : Int)) := fun k => by
    rw [Bool.eq_iff_iff]; simp [← UInt8.toNat_inj]; omega
  have hm : marksB b = (((b.toNat : Int) == 58) || (((b.toNat : Int) == 46) || ((b.toNat : Int) == 61))) := by
    unfold marksB; rw [key 58, key 46, key 61]; rfl
  rw [hm]
  clear hm key
  go_enter Try.func68, Try.ntmps68
  cases h1 : ((b.toNat : Int) == 58) with
  | true => go_wp2; go_ret; exact ⟨rfl, rfl⟩
  | false =>
  cases h2 : ((b.toNat : Int) == 46) with
  | true => go_wp2; go_ret; exact ⟨rfl, rfl⟩
  | false => go_wp2; go_ret; exact ⟨rfl, rfl⟩

set_option maxRecDepth 100000 in
set_option maxHeartbeats 2000000 in
theorem fail_in (s : ByteArray) (i : Int) (f : Nat → Bool) (e p : Int) (g : Nat) (w : World) (o : RdAt w g s i f e p) (er a : Int) (h0 : 0 ≤ a) (ha : a < s.size) (hs : s.size ≤ 4611686018427387904) :
    Calls Try.prog 66 #[rp g, .int .i64 er, .int .i64 a] w fun e w' => Unit0 e ∧ RdAt w' g s i f er (a + 1) ∧ Only g w w' := by
  have d : decide ((s.size : Int) ≤ a) = false := by simpa using ha
  obtain ⟨c0, f0⟩ := Slab.facts (o)
  go_enter Try.func66, Try.ntmps66
  go_wp2
  first | go_end0 | refine bodyPost_ret (results_none rfl _ _ _) rfl ?_
  exact ⟨rfl, (o.set 6 _).set 7 _, ((Only.refl g w).set 6 _).set 7 _⟩
set_option maxRecDepth 100000 in
set_option maxHeartbeats 2000000 in
theorem fail_out (s : ByteArray) (i : Int) (f : Nat → Bool) (e p : Int) (g : Nat) (w : World) (o : RdAt w g s i f e p) (er a : Int) (ha : s.size ≤ a) (hs : s.size ≤ 4611686018427387904) :
    Calls Try.prog 66 #[rp g, .int .i64 er, .int .i64 a] w fun e w' => Unit0 e ∧ RdAt w' g s i f 2 s.size ∧ Only g w w' := by
  have d : decide ((s.size : Int) ≤ a) = true := by simpa using ha
  obtain ⟨c0, f0⟩ := Slab.facts (o)
  go_enter Try.func66, Try.ntmps66
  go_wp2
  go_quiet (fail)
  go_wp2
  first | go_end0 | refine bodyPost_ret (results_none rfl _ _ _) rfl ?_
  refine ⟨rfl, ?_, (((Only.refl g w).drewN _).set 6 _).set 7 _⟩
  have := ((o.drewN nq).set 6 (.int .i64 2)).set 7 (.int .i64 s.size)
  exact this

set_option maxRecDepth 100000 in
set_option maxHeartbeats 2000000 in
theorem at_in (s : ByteArray) (i : Int) (f : Nat → Bool) (e p : Int) (g : Nat) (w : World) (o : RdAt w g s i f e p) (k : Nat) (hk : k < s.size) (_hs : s.size ≤ 4611686018427387904) :
    Calls Try.prog 59 #[rp g, .int .i64 k] w fun e w' => e = .returned (.int .u8 ((bt s k).toNat : Int)) ∧ w' = w := by
  have d : decide (s.size ≤ k) = false := by simpa using hk
  rw [bt_at s k hk]
  obtain ⟨c0, f0⟩ := Slab.facts (o)
  go_enter Try.func59, Try.ntmps59
  go_wp2
  go_ret
  exact ⟨rfl, rfl⟩
set_option maxRecDepth 100000 in
set_option maxHeartbeats 2000000 in
theorem at_out (s : ByteArray) (i : Int) (f : Nat → Bool) (e p : Int) (g : Nat) (w : World) (o : RdAt w g s i f e p) (k : Nat) (hk : s.size ≤ k) (hs : s.size ≤ 4611686018427387904) :
    Calls Try.prog 59 #[rp g, .int .i64 k] w fun e w' => e = .returned (.int .u8 0) ∧ RdAt w' g s i f 2 s.size ∧ Only g w w' := by
  have d : decide (s.size ≤ k) = true := by simpa using hk
  obtain ⟨c0, f0⟩ := Slab.facts (o)
  go_enter Try.func59, Try.ntmps59
  go_wp2_with fail
  refine (fail_out s i f e p g _ o 2 k (by omega) hs).mono ?_
  rintro e1 w1 ⟨rfl, o1, h1⟩
  go_wp2
  go_ret
  exact ⟨rfl, o1, h1⟩

set_option maxRecDepth 100000 in
set_option maxHeartbeats 2000000 in
theorem one_any (s : ByteArray) (i : Nat) (f : Nat → Bool) (e p : Int) (g : Nat) (w : World) (o : RdAt w g s i f e p) (c : UInt8) (hi : i ≤ 4611686018427387904) :
    Calls Try.prog 75 #[rp g, .int .u8 (c.toNat : Int)] w fun e' w' => Unit0 e' ∧ RdAt w' g s (i + 1 : Nat) (addB f c.toNat) e p ∧ Only g w w' := by
  have hc : c.toNat < 256 := c.toNat_lt
  obtain ⟨c0, f0⟩ := Slab.facts (o)
  go_enter Try.func75, Try.ntmps75
  have o1 := o.alloc (.cells #[.int .u8 (c.toNat : Int)] 5)
  go_wp2_with fail
  refine (with_one f c.toNat (by omega) (by omega) _ _ _ (World.cell?_alloc_new _ _ _ _) (by simp)).mono ?_
  rintro e1 w1 ⟨rfl, hb1⟩
  have o2 := o1.call hb1
  have h2 := ((Only.refl g w).alloc (.cells #[.int .u8 (c.toNat : Int)] 5)).call hb1
  clear hb1 o1 c0 f0 o
  obtain ⟨c2, f2⟩ := Slab.facts (o2)
  go_wp2
  first | go_end0 | refine bodyPost_ret (results_none rfl _ _ _) rfl ?_
  refine ⟨rfl, ?_, ((((h2.set 2 _).set 3 _).set 4 _).set 5 _).set 1 _⟩
  have := ((((o2.set 2 (.int .u64 (wd (addB f c.toNat) 0))).set 3 (.int .u64 (wd (addB f c.toNat) 1))).set 4 (.int .u64 (wd (addB f c.toNat) 2))).set 5 (.int .u64 (wd (addB f c.toNat) 3))).set 1 (.int .i64 (i + 1 : Nat))
  exact this

theorem extract_size (s : ByteArray) (a b : Nat) : (s.extract a b).size ≤ s.size := by simp; omega
theorem beq_int (b k : UInt8) : ((b.toNat : Int) == (k.toNat : Int)) = (b == k) := by
  rw [Bool.eq_iff_iff]; simp [← UInt8.toNat_inj]; omega
theorem bne_int (b k : UInt8) : ((b.toNat : Int) != (k.toNat : Int)) = !(b == k) := by
  unfold bne; rw [beq_int]
theorem RdAt.put {w : World} {g : Nat} {s : ByteArray} {i : Int} {f : Nat → Bool} {e p : Int} (o : RdAt w g s i f e p) (h : Nat → Bool) :
    RdAt ((((w.setCell ⟨g, 2, none⟩ (.int .u64 (wd h 0))).setCell ⟨g, 3, none⟩ (.int .u64 (wd h 1))).setCell ⟨g, 4, none⟩ (.int .u64 (wd h 2))).setCell ⟨g, 5, none⟩ (.int .u64 (wd h 3))) g s i h e p :=
  (((o.set 2 _).set 3 _).set 4 _).set 5 _
theorem RdAt.goto {w : World} {g : Nat} {s : ByteArray} {i : Int} {f : Nat → Bool} {e p : Int} (o : RdAt w g s i f e p) (i' : Int) : RdAt (w.setCell ⟨g, 1, none⟩ (.int .i64 i')) g s i' f e p := o.set 1 _
theorem Only.put {g : Nat} {a w : World} (o : Only g a w) (u0 u1 u2 u3 : Value) : Only g a ((((w.setCell ⟨g, 2, none⟩ u0).setCell ⟨g, 3, none⟩ u1).setCell ⟨g, 4, none⟩ u2).setCell ⟨g, 5, none⟩ u3) :=
  (((o.set 2 _).set 3 _).set 4 _).set 5 _
set_option maxRecDepth 100000 in
set_option maxHeartbeats 2000000 in
theorem close_any (s : ByteArray) (i : Int) (f : Nat → Bool) (g : Nat) (w : World) (o : RdAt w g s i f 0 0) (from_ j : Nat) (hj : j < s.size) (hs : s.size ≤ 4611686018427387904) :
    Calls Try.prog 74 #[rp g, .string (s.extract from_ j), .int .i64 j] w fun e w' => Unit0 e ∧ ResAt s (closeF s from_ j f) g w' ∧ Only g w w' := by
  have C := of_any (s.extract from_ j)
  unfold ofV at C
  have hgl := o.lt
  obtain ⟨R, hR⟩ : ∃ R, closeF s from_ j f = R := ⟨_, rfl⟩
  rw [hR]
  have HR := Lib.hid hR; clear hR
  cases hc : clsOf (s.extract from_ j) with
  | none =>
    rw [hc] at C
    simp only at C
    have HC := Lib.hid hc; clear hc
    go_enter Try.func74, Try.ntmps74
    go_wp2_with fail
    refine (C _).mono ?_
    rintro e1 w1 ⟨rfl, hb1⟩
    have o1 := (o.call hb1).alloc (.cells zero4 24)
    have h1 := ((Only.refl g w).call hb1).alloc (.cells zero4 24)
    clear hb1 o C
    go_wp2_with fail
    refine (fail_in s i f 0 0 g _ o1 5 j (by omega) (by omega) hs).mono ?_
    rintro e2 w2 ⟨rfl, o2, h2⟩
    go_wp2
    first | go_end0 | refine bodyPost_ret (results_none rfl _ _ _) rfl ?_
    exact ⟨rfl, by rw [← HR.out]; unfold closeF; rw [HC.out]; exact ⟨_, _, o2⟩, h1.trans h2⟩
  | some k =>
    rw [hc] at C
    simp only at C
    have HC := Lib.hid hc; clear hc
    go_enter Try.func74, Try.ntmps74
    go_wp2_with fail
    refine (C _).mono ?_
    rintro e1 w1 ⟨rfl, hb1⟩
    have o1 := (o.call hb1).alloc (.cells (cells4 (cls k)) 24)
    have q1 : Slab (w1.alloc (.cells (cells4 (cls k)) 24)) w1.heap.size (cells4 (cls k)) 24 := Slab.new _ _ _
    have h1 := ((Only.refl g w).call hb1).alloc (.cells (cells4 (cls k)) 24)
    have hz1 := hb1.size
    have hne : w1.heap.size ≠ g := by omega
    clear hb1 o C
    by_cases hj1 : s.size ≤ j + 1
    · go_wp2_with fail
      refine (at_out s i f 0 0 g _ o1 (j + 1) hj1 hs).mono ?_
      rintro e2 w2 ⟨rfl, o2, h2⟩
      have q2 := q1.only h2 hne
      have H2 := Lib.hid (h1.trans h2)
      clear o1 q1 h1 h2 hz1
      obtain ⟨c2, f2⟩ := Slab.facts (o2)
      obtain ⟨c3, f3⟩ := Slab.facts (q2)
      go_wp2_with fail
      go_region_with ((go_at_call 24; refine (or_any _ _ _).mono ?_; rintro e4 w4 ⟨rfl, hb4⟩; have o4 := o2.callD hb4 rfl; have h4 := (H2.out.drew).call hb4; clear hb4; obtain ⟨ca4, fa4⟩ := o4.facts))
      all_goals
        go_wp2
        first | go_end0 | refine bodyPost_ret (results_none rfl _ _ _) rfl ?_
        exact ⟨rfl, by rw [← HR.out]; unfold closeF; rw [HC.out]; simp only; rw [if_pos hj1]; exact ⟨_, _, RdAt.goto (RdAt.put o4 _) _⟩, (h4.put _ _ _ _).set 1 _⟩
    · go_wp2_with fail
      refine (at_in s i f 0 0 g _ o1 (j + 1) (by omega) hs).mono ?_
      rintro e2 w2 ⟨rfl, rfl⟩
      have H2 := Lib.hid h1
      clear h1 hz1
      cases hy : (bt s (j + 1) == 93) with
      | true =>
        have y : (((bt s (j + 1)).toNat : Int) == 93) = true := (beq_int (bt s (j + 1)) 93).trans hy
        have yn : (((bt s (j + 1)).toNat : Int) != 93) = !true := by
          have := bne_int (bt s (j + 1)) 93
          rw [hy] at this
          exact this
        have HY := Lib.hid hy; clear hy
        obtain ⟨c1, f1⟩ := Slab.facts (o1)
        obtain ⟨c3, f3⟩ := Slab.facts (q1)
        go_wp2_with fail
        go_region_with ((go_at_call 24; refine (or_any _ _ _).mono ?_; rintro e4 w4 ⟨rfl, hb4⟩; have o4 := o1.callD hb4 rfl; have h4 := (H2.out.drew).call hb4; clear hb4; obtain ⟨ca4, fa4⟩ := o4.facts))
        all_goals
          go_wp2
          first | go_end0 | refine bodyPost_ret (results_none rfl _ _ _) rfl ?_
          exact ⟨rfl, by rw [← HR.out]; unfold closeF; rw [HC.out]; simp only; rw [if_neg hj1, if_pos HY.out]; exact RdAt.goto (RdAt.put o4 _) _, (h4.put _ _ _ _).set 1 _⟩
      | false =>
        have y : (((bt s (j + 1)).toNat : Int) == 93) = false := (beq_int (bt s (j + 1)) 93).trans hy
        have yn : (((bt s (j + 1)).toNat : Int) != 93) = !false := by
          have := bne_int (bt s (j + 1)) 93
          rw [hy] at this
          exact this
        have HY := Lib.hid hy; clear hy
        obtain ⟨c1, f1⟩ := Slab.facts (o1)
        go_wp2_with fail
        refine (fail_in s i f 0 0 g _ o1 3 (j + 1) (by omega) (by omega) hs).mono ?_
        rintro e5 w5 ⟨rfl, o5, h5⟩
        have q5 := q1.only h5 hne
        have H5 := Lib.hid (H2.out.trans h5)
        clear o1 q1 h5 H2 c1 f1
        obtain ⟨c5, f5⟩ := Slab.facts (o5)
        obtain ⟨c3, f3⟩ := Slab.facts (q5)
        go_wp2_with fail
        go_region_with ((go_at_call 24; refine (or_any _ _ _).mono ?_; rintro e4 w4 ⟨rfl, hb4⟩; have o4 := o5.callD hb4 rfl; have h4 := (H5.out.drew).call hb4; clear hb4; obtain ⟨ca4, fa4⟩ := o4.facts))
        all_goals
          go_wp2
          first | go_end0 | refine bodyPost_ret (results_none rfl _ _ _) rfl ?_
          exact ⟨rfl, by rw [← HR.out]; unfold closeF; rw [HC.out]; simp only; rw [if_neg hj1, if_neg (by rw [HY.out]; simp)]; exact ⟨_, _, RdAt.goto (RdAt.put o4 _) _⟩, (h4.put _ _ _ _).set 1 _⟩
end Go.Proofs.Ythppilfojicfdaa
