/- Walks of the package bracket: the reader's methods. -/
import Derived.Test.YtfcgmgpcbenfpaaGreatProg
import Derived.WalkKit
import Derived.WalkSpells
import Derived.WalkLawsBesides
import Derived.Handy
import Derived.Lib.Hide
import Derived.Test.YtfcgmgpcbenfpaaGreatMBkp
import Derived.Deep.RegionHeld3
import Derived.Lib.QuietBelow
import Derived.BigQuiet
import Derived.IntWalk
import Derived.Deep.QuietTactic
import Derived.WalkMore
set_option linter.unusedVariables false
set_option linter.unusedSimpArgs false
namespace Go.Proofs.YtfcgmgpcbenfpaaGreat
open Go.RowKit SetP BrkP Go.Sort

/-- A reader's block: its text, its place, its set, an error, and the error's place. -/
abbrev rdCells (s : ByteArray) (i : Int) (f : Nat → Bool) (e p : Int) : Array Value := #[.string s, .int .i64 i, .int .u64 (wd f 0), .int .u64 (wd f 1), .int .u64 (wd f 2), .int .u64 (wd f 3), .int .i64 e, .int .i64 p]
abbrev RdAt (w : World) (g : Nat) (s : ByteArray) (i : Int) (f : Nat → Bool) (e p : Int) : Prop := Slab w g (rdCells s i f e p) 204
abbrev rp (g : Nat) : Value := .pointer (some ⟨g, 0, none⟩)
/-- What becomes of the reader. -/
def ResAt (s : ByteArray) (R : Res) (g : Nat) (w : World) : Prop := match R with
  | .go i f => RdAt w g s i f 0 0
  | .bad e p => ∃ i f, RdAt w g s i f e p
abbrev Unit0 (e : Ending) : Prop := e = .returned (.tuple #[])

set_option maxRecDepth 100000 in
set_option maxHeartbeats 2000000 in
theorem marks_any (b : UInt8) (w : World) : Calls Tryz.prog 173 #[.int .u8 (b.toNat : Int)] w fun e w' => e = .returned (.bool (marksB b)) ∧ w' = w := by
  have hb : b.toNat < 256 := b.toNat_lt
  have key : ∀ k : UInt8, (b == k) = ((b.toNat : Int) == (k.toNat : Int)) := fun k => by
    rw [Bool.eq_iff_iff]; simp [← UInt8.toNat_inj]; omega
  have hm : marksB b = (((b.toNat : Int) == 58) || (((b.toNat : Int) == 46) || ((b.toNat : Int) == 61))) := by
    unfold marksB; rw [key 58, key 46, key 61]; rfl
  rw [hm]
  clear hm key
  go_enter Tryz.func173, Tryz.ntmps173
  cases h1 : ((b.toNat : Int) == 58) with
  | true => go_wp2; go_ret; exact ⟨rfl, rfl⟩
  | false =>
  cases h2 : ((b.toNat : Int) == 46) with
  | true => go_wp2; go_ret; exact ⟨rfl, rfl⟩
  | false => go_wp2; go_ret; exact ⟨rfl, rfl⟩

set_option maxRecDepth 100000 in
set_option maxHeartbeats 2000000 in
theorem fail_in (s : ByteArray) (i : Int) (f : Nat → Bool) (e p : Int) (g : Nat) (w : World) (o : RdAt w g s i f e p) (er a : Int) (h0 : 0 ≤ a) (ha : a < s.size) (hs : s.size ≤ 4611686018427387904) :
    Calls Tryz.prog 171 #[rp g, .int .i64 er, .int .i64 a] w fun e w' => Unit0 e ∧ RdAt w' g s i f er (a + 1) ∧ Only g w w' := by
  have d : decide ((s.size : Int) ≤ a) = false := by simpa using ha
  obtain ⟨c0, f0⟩ := Slab.facts (o)
  go_enter Tryz.func171, Tryz.ntmps171
  go_wp2
  first | go_end0 | refine bodyPost_ret (results_none rfl _ _ _) rfl ?_
  exact ⟨rfl, (o.set 6 _).set 7 _, ((Only.refl g w).set 6 _).set 7 _⟩
set_option maxRecDepth 100000 in
set_option maxHeartbeats 2000000 in
theorem fail_out (s : ByteArray) (i : Int) (f : Nat → Bool) (e p : Int) (g : Nat) (w : World) (o : RdAt w g s i f e p) (er a : Int) (ha : s.size ≤ a) (hs : s.size ≤ 4611686018427387904) :
    Calls Tryz.prog 171 #[rp g, .int .i64 er, .int .i64 a] w fun e w' => Unit0 e ∧ RdAt w' g s i f 2 s.size ∧ Only g w w' := by
  have d : decide ((s.size : Int) ≤ a) = true := by simpa using ha
  obtain ⟨c0, f0⟩ := Slab.facts (o)
  go_enter Tryz.func171, Tryz.ntmps171
  go_wp2
  go_quiet (fail)
  go_wp2
  first | go_end0 | refine bodyPost_ret (results_none rfl _ _ _) rfl ?_
  refine ⟨rfl, ?_, (((Only.refl g w).drewN _).set 6 _).set 7 _⟩
  have := ((o.drewN nq).set 6 (.int .i64 2)).set 7 (.int .i64 s.size)
  exact this

set_option maxRecDepth 100000 in
set_option maxHeartbeats 2000000 in
theorem at_in (s : ByteArray) (i : Int) (f : Nat → Bool) (e p : Int) (g : Nat) (w : World) (o : RdAt w g s i f e p) (k : Nat) (hk : k < s.size) (_hs : s.size ≤ 4611686018427387904) :
    Calls Tryz.prog 168 #[rp g, .int .i64 k] w fun e w' => e = .returned (.int .u8 ((bt s k).toNat : Int)) ∧ w' = w := by
  have d : decide (s.size ≤ k) = false := by simpa using hk
  rw [bt_at s k hk]
  obtain ⟨c0, f0⟩ := Slab.facts (o)
  go_enter Tryz.func168, Tryz.ntmps168
  go_wp2
  go_ret
  exact ⟨rfl, rfl⟩
set_option maxRecDepth 100000 in
set_option maxHeartbeats 2000000 in
theorem at_out (s : ByteArray) (i : Int) (f : Nat → Bool) (e p : Int) (g : Nat) (w : World) (o : RdAt w g s i f e p) (k : Nat) (hk : s.size ≤ k) (hs : s.size ≤ 4611686018427387904) :
    Calls Tryz.prog 168 #[rp g, .int .i64 k] w fun e w' => e = .returned (.int .u8 0) ∧ RdAt w' g s i f 2 s.size ∧ Only g w w' := by
  have d : decide (s.size ≤ k) = true := by simpa using hk
  obtain ⟨c0, f0⟩ := Slab.facts (o)
  go_enter Tryz.func168, Tryz.ntmps168
  go_wp2_with fail
  refine (fail_out s i f e p g _ o 2 k (by omega) hs).mono ?_
  rintro e1 w1 ⟨rfl, o1, h1⟩
  go_wp2
  go_ret
  exact ⟨rfl, o1, h1⟩

set_option maxRecDepth 100000 in
set_option maxHeartbeats 2000000 in
theorem one_any (s : ByteArray) (i : Nat) (f : Nat → Bool) (e p : Int) (g : Nat) (w : World) (o : RdAt w g s i f e p) (c : UInt8) (hi : i ≤ 4611686018427387904) :
    Calls Tryz.prog 178 #[rp g, .int .u8 (c.toNat : Int)] w fun e' w' => Unit0 e' ∧ RdAt w' g s (i + 1 : Nat) (addB f c.toNat) e p ∧ Only g w w' := by
  have hc : c.toNat < 256 := c.toNat_lt
  obtain ⟨c0, f0⟩ := Slab.facts (o)
  go_enter Tryz.func178, Tryz.ntmps178
  have o1 := o.alloc (.cells #[.int .u8 (c.toNat : Int)] 5)
  go_wp2_with fail
  refine (with_one f c.toNat (by omega) (by omega) _ _ _ (World.cell?_alloc_new _ _ _ _) (by simp)).mono ?_
  rintro e1 w1 ⟨rfl, hb1⟩
  have o2 := o1.call hb1
  have h2 := ((Only.refl g w).alloc (.cells #[.int .u8 (c.toNat : Int)] 5)).call hb1
  clear hb1 o1 c0 f0 o
  obtain ⟨c2, f2⟩ := Slab.facts (o2)
  go_wp2
  first | go_end0 | refine bodyPost_ret (results_none rfl _ _ _) rfl ?_
  refine ⟨rfl, ?_, ((((h2.set 2 _).set 3 _).set 4 _).set 5 _).set 1 _⟩
  have := ((((o2.set 2 (.int .u64 (wd (addB f c.toNat) 0))).set 3 (.int .u64 (wd (addB f c.toNat) 1))).set 4 (.int .u64 (wd (addB f c.toNat) 2))).set 5 (.int .u64 (wd (addB f c.toNat) 3))).set 1 (.int .i64 (i + 1 : Nat))
  exact this

theorem extract_size (s : ByteArray) (a b : Nat) : (s.extract a b).size ≤ s.size := by simp; omega
theorem beq_int (b k : UInt8) : ((b.toNat : Int) == (k.toNat : Int)) = (b == k) := by
  rw [Bool.eq_iff_iff]; simp [← UInt8.toNat_inj]; omega
theorem bne_int (b k : UInt8) : ((b.toNat : Int) != (k.toNat : Int)) = !(b == k) := by
  unfold bne; rw [beq_int]
theorem RdAt.put {w : World} {g : Nat} {s : ByteArray} {i : Int} {f : Nat → Bool} {e p : Int} (o : RdAt w g s i f e p) (h : Nat → Bool) :
    RdAt ((((w.setCell ⟨g, 2, none⟩ (.int .u64 (wd h 0))).setCell ⟨g, 3, none⟩ (.int .u64 (wd h 1))).setCell ⟨g, 4, none⟩ (.int .u64 (wd h 2))).setCell ⟨g, 5, none⟩ (.int .u64 (wd h 3))) g s i h e p :=
  (((o.set 2 _).set 3 _).set 4 _).set 5 _
theorem RdAt.goto {w : World} {g : Nat} {s : ByteArray} {i : Int} {f : Nat → Bool} {e p : Int} (o : RdAt w g s i f e p) (i' : Int) : RdAt (w.setCell ⟨g, 1, none⟩ (.int .i64 i')) g s i' f e p := o.set 1 _
theorem Only.put {g : Nat} {a w : World} (o : Only g a w) (u0 u1 u2 u3 : Value) : Only g a ((((w.setCell ⟨g, 2, none⟩ u0).setCell ⟨g, 3, none⟩ u1).setCell ⟨g, 4, none⟩ u2).setCell ⟨g, 5, none⟩ u3) :=
  (((o.set 2 _).set 3 _).set 4 _).set 5 _
set_option maxRecDepth 100000 in
set_option maxHeartbeats 2000000 in
theorem close_any (s : ByteArray) (i : Int) (f : Nat → Bool) (g : Nat) (w : World) (o : RdAt w g s i f 0 0) (from_ j : Nat) (hj : j < s.size) (hs : s.size ≤ 4611686018427387904) :
    Calls Tryz.prog 176 #[rp g, .string (s.extract from_ j), .int .i64 j] w fun e w' => Unit0 e ∧ ResAt s (closeF s from_ j f) g w' ∧ Only g w w' := by
  have C := of_any (s.extract from_ j)
  unfold ofV at C
  have hgl := o.lt
  obtain ⟨R, hR⟩ : ∃ R, closeF s from_ j f = R := ⟨_, rfl⟩
  rw [hR]
  have HR := Lib.hid hR; clear hR
  cases hc : clsOf (s.extract from_ j) with
  | none =>
    rw [hc] at C
    simp only at C
    have HC := Lib.hid hc; clear hc
    go_enter Tryz.func176, Tryz.ntmps176
    go_wp2_with fail
    refine (C _).mono ?_
    rintro e1 w1 ⟨rfl, hb1⟩
    have o1 := (o.call hb1).alloc (.cells zero4 49)
    have h1 := ((Only.refl g w).call hb1).alloc (.cells zero4 49)
    clear hb1 o C
    go_wp2_with fail
    refine (fail_in s i f 0 0 g _ o1 5 j (by omega) (by omega) hs).mono ?_
    rintro e2 w2 ⟨rfl, o2, h2⟩
    go_wp2
    first | go_end0 | refine bodyPost_ret (results_none rfl _ _ _) rfl ?_
    exact ⟨rfl, by rw [← HR.out]; unfold closeF; rw [HC.out]; exact ⟨_, _, o2⟩, h1.trans h2⟩
  | some k =>
    rw [hc] at C
    simp only at C
    have HC := Lib.hid hc; clear hc
    go_enter Tryz.func176, Tryz.ntmps176
    go_wp2_with fail
    refine (C _).mono ?_
    rintro e1 w1 ⟨rfl, hb1⟩
    have o1 := (o.call hb1).alloc (.cells (cells4 (cls k)) 49)
    have q1 : Slab (w1.alloc (.cells (cells4 (cls k)) 49)) w1.heap.size (cells4 (cls k)) 49 := Slab.new _ _ _
    have h1 := ((Only.refl g w).call hb1).alloc (.cells (cells4 (cls k)) 49)
    have hz1 := hb1.size
    have hne : w1.heap.size ≠ g := by omega
    clear hb1 o C
    by_cases hj1 : s.size ≤ j + 1
    · go_wp2_with fail
      refine (at_out s i f 0 0 g _ o1 (j + 1) hj1 hs).mono ?_
      rintro e2 w2 ⟨rfl, o2, h2⟩
      have q2 := q1.only h2 hne
      have H2 := Lib.hid (h1.trans h2)
      clear o1 q1 h1 h2 hz1
      obtain ⟨c2, f2⟩ := Slab.facts (o2)
      obtain ⟨c3, f3⟩ := Slab.facts (q2)
      go_wp2_with fail
      go_region_with ((go_at_call 179; refine (or_any _ _ _).mono ?_; rintro e4 w4 ⟨rfl, hb4⟩; have o4 := o2.callD hb4 rfl; have h4 := (H2.out.drew).call hb4; clear hb4; obtain ⟨ca4, fa4⟩ := o4.facts))
      all_goals
        go_wp2
        first | go_end0 | refine bodyPost_ret (results_none rfl _ _ _) rfl ?_
        exact ⟨rfl, by rw [← HR.out]; unfold closeF; rw [HC.out]; simp only; rw [if_pos hj1]; exact ⟨_, _, RdAt.goto (RdAt.put o4 _) _⟩, (h4.put _ _ _ _).set 1 _⟩
    · go_wp2_with fail
      refine (at_in s i f 0 0 g _ o1 (j + 1) (by omega) hs).mono ?_
      rintro e2 w2 ⟨rfl, rfl⟩
      have H2 := Lib.hid h1
      clear h1 hz1
      cases hy : (bt s (j + 1) == 93) with
      | true =>
        have y : (((bt s (j + 1)).toNat : Int) == 93) = true := (beq_int (bt s (j + 1)) 93).trans hy
        have yn : (((bt s (j + 1)).toNat : Int) != 93) = !true := by
          have := bne_int (bt s (j + 1)) 93
          rw [hy] at this
          exact this
        have HY := Lib.hid hy; clear hy
        obtain ⟨c1, f1⟩ := Slab.facts (o1)
        obtain ⟨c3, f3⟩ := Slab.facts (q1)
        go_wp2_with fail
        go_region_with ((go_at_call 179; refine (or_any _ _ _).mono ?_; rintro e4 w4 ⟨rfl, hb4⟩; have o4 := o1.callD hb4 rfl; have h4 := (H2.out.drew).call hb4; clear hb4; obtain ⟨ca4, fa4⟩ := o4.facts))
        all_goals
          go_wp2
          first | go_end0 | refine bodyPost_ret (results_none rfl _ _ _) rfl ?_
          exact ⟨rfl, by rw [← HR.out]; unfold closeF; rw [HC.out]; simp only; rw [if_neg hj1, if_pos HY.out]; exact RdAt.goto (RdAt.put o4 _) _, (h4.put _ _ _ _).set 1 _⟩
      | false =>
        have y : (((bt s (j + 1)).toNat : Int) == 93) = false := (beq_int (bt s (j + 1)) 93).trans hy
        have yn : (((bt s (j + 1)).toNat : Int) != 93) = !false := by
          have := bne_int (bt s (j + 1)) 93
          rw [hy] at this
          exact this
        have HY := Lib.hid hy; clear hy
        obtain ⟨c1, f1⟩ := Slab.facts (o1)
        go_wp2_with fail
        refine (fail_in s i f 0 0 g _ o1 3 (j + 1) (by omega) (by omega) hs).mono ?_
        rintro e5 w5 ⟨rfl, o5, h5⟩
        have q5 := q1.only h5 hne
        have H5 := Lib.hid (H2.out.trans h5)
        clear o1 q1 h5 H2 c1 f1
        obtain ⟨c5, f5⟩ := Slab.facts (o5)
        obtain ⟨c3, f3⟩ := Slab.facts (q5)
        go_wp2_with fail
        go_region_with ((go_at_call 179; refine (or_any _ _ _).mono ?_; rintro e4 w4 ⟨rfl, hb4⟩; have o4 := o5.callD hb4 rfl; have h4 := (H5.out.drew).call hb4; clear hb4; obtain ⟨ca4, fa4⟩ := o4.facts))
        all_goals
          go_wp2
          first | go_end0 | refine bodyPost_ret (results_none rfl _ _ _) rfl ?_
          exact ⟨rfl, by rw [← HR.out]; unfold closeF; rw [HC.out]; simp only; rw [if_neg hj1, if_neg (by rw [HY.out]; simp)]; exact ⟨_, _, RdAt.goto (RdAt.put o4 _) _⟩, (h4.put _ _ _ _).set 1 _⟩
end Go.Proofs.YtfcgmgpcbenfpaaGreat

/- Walks of the package bracket: classes, spans, things. -/
namespace Go.Proofs.YtfcgmgpcbenfpaaGreat
open Go.RowKit SetP BrkP Go.Sort
theorem classGo_out {s : ByteArray} {from_ j : Nat} {f : Nat → Bool} (h : s.size ≤ j) : classGo s from_ f j = .bad 2 s.size := by rw [classGo, dif_pos h]
theorem classGo_close {s : ByteArray} {from_ j : Nat} {f : Nat → Bool} (h : j < s.size) (hb : (bt s j == 58) = true) : classGo s from_ f j = closeF s from_ j f := by rw [classGo, dif_neg (by omega), if_pos hb]
theorem classGo_on {s : ByteArray} {from_ j : Nat} {f : Nat → Bool} (h : j < s.size) (hb : (bt s j == 58) = false) (hg : beginsF (s.extract from_ (j + 1)) = true) : classGo s from_ f j = classGo s from_ f (j + 1) := by
  rw [classGo, dif_neg (by omega), if_neg (by rw [hb]; simp), if_pos hg]
theorem classGo_bad {s : ByteArray} {from_ j : Nat} {f : Nat → Bool} (h : j < s.size) (hb : (bt s j == 58) = false) (hg : beginsF (s.extract from_ (j + 1)) = false) : classGo s from_ f j = .bad 5 (j + 1) := by
  rw [classGo, dif_neg (by omega), if_neg (by rw [hb]; simp), if_neg (by rw [hg]; simp)]
set_option maxRecDepth 100000 in
set_option maxHeartbeats 2000000 in
theorem class_any (s : ByteArray) (i : Nat) (f : Nat → Bool) (g : Nat) (w : World) (o : RdAt w g s i f 0 0) (hi : i < s.size) (hs : s.size ≤ 4611686018427387000) :
    Calls Tryz.prog 172 #[rp g] w fun e w' => Unit0 e ∧ ResAt s (classGo s (i + 2) f (i + 2)) g w' ∧ Only g w w' := by
  obtain ⟨R, hR⟩ : ∃ R, classGo s (i + 2) f (i + 2) = R := ⟨_, rfl⟩
  rw [hR]
  have HR := Lib.hid hR; clear hR
  obtain ⟨c0, f0⟩ := Slab.facts (o)
  go_enter Tryz.func172, Tryz.ntmps172
  go_wp2
  clear c0 f0
  go_loopw [3] (fun x wr => ∃ k : Nat, i + 2 ≤ k ∧ (k ≤ s.size ∨ k = i + 2) ∧ x = .int .i64 k ∧ RdAt wr g s i f 0 0 ∧ Only g w wr ∧ classGo s (i + 2) f k = R) (fun x _ => s.size + 2 - (intOf x).toNat)
  case atStart => exact ⟨i + 2, by omega, by omega, by go_num, o, Only.refl g w, HR.out⟩
  case round =>
    clear o
    obtain ⟨k, hik, hk, rfl, o, h0, hG⟩ := hrel
    have HG := Lib.hid hG; clear hG
    have HK := Lib.hid hk
    have hk2 : k ≤ 4611686018427387904 := by omega
    clear hk
    by_cases hlt : s.size ≤ k
    · go_wp2_with fail
      refine (at_out s i f 0 0 g _ o k hlt (by omega)).mono ?_
      rintro e2 w2 ⟨rfl, o2, h2⟩
      have H2 := Lib.hid (h0.trans h2)
      clear o h0 h2
      obtain ⟨c2, f2⟩ := Slab.facts (o2)
      go_wp2
      first | go_end0 | refine bodyPost_ret (results_none rfl _ _ _) rfl ?_
      exact ⟨rfl, by rw [← HG.out, classGo_out hlt]; exact ⟨_, _, o2⟩, H2.out⟩
    · have hlt' : k < s.size := by omega
      have H0 := Lib.hid h0; clear h0
      go_wp2_with fail
      refine (at_in s i f 0 0 g _ o k hlt' (by omega)).mono ?_
      rintro e2 w2 ⟨rfl, rfl⟩
      have x1 : ((i : Int) + 2) ≤ k := by omega
      have x2 : decide ((i + 2 : Nat) ≤ k) = true := by simpa using hik
      cases hy : (bt s k == 58) with
      | true =>
        have y : (((bt s k).toNat : Int) == 58) = true := (beq_int (bt s k) 58).trans hy
        have yn : (((bt s k).toNat : Int) != 58) = !true := by
          have := bne_int (bt s k) 58
          rw [hy] at this
          exact this
        have HY := Lib.hid hy; clear hy
        obtain ⟨c2, f2⟩ := Slab.facts (o)
        go_wp2_with fail
        refine (close_any s i f g _ o (i + 2) k hlt' (by omega)).mono ?_
        rintro e3 w3 ⟨rfl, r3, h3⟩
        have H3 := Lib.hid (H0.out.trans h3)
        have R3 := Lib.hid r3
        clear r3 h3 o c2 f2
        go_wp2
        first | go_end0 | refine bodyPost_ret (results_none rfl _ _ _) rfl ?_
        exact ⟨rfl, by rw [← HG.out, classGo_close hlt' HY.out]; exact R3.out, H3.out⟩
      | false =>
        have y : (((bt s k).toNat : Int) == 58) = false := (beq_int (bt s k) 58).trans hy
        have yn : (((bt s k).toNat : Int) != 58) = !false := by
          have := bne_int (bt s k) 58
          rw [hy] at this
          exact this
        have HY := Lib.hid hy; clear hy
        obtain ⟨c2, f2⟩ := Slab.facts (o)
        go_wp2_with fail
        refine (begins_any (s.extract (i + 2) (k + 1)) (by have := extract_size s (i + 2) (k + 1); omega) _).mono ?_
        rintro e3 w3 ⟨rfl, hb3⟩
        have o3 := o.call hb3
        have H3 := Lib.hid (H0.out.call hb3)
        clear hb3 o c2 f2 H0
        cases hg : beginsF (s.extract (i + 2) (k + 1)) with
        | true =>
          have HB := Lib.hid hg; clear hg
          go_wp2
          go_roundw
          case rel => exact ⟨k + 1, by omega, by omega, by go_num, o3, H3.out, by rw [← HG.out, classGo_on hlt' HY.out HB.out]⟩
          case measure => simp [intOf]; omega
        | false =>
          have HB := Lib.hid hg; clear hg
          obtain ⟨c3, f3⟩ := Slab.facts (o3)
          go_wp2_with fail
          refine (fail_in s i f 0 0 g _ o3 5 k (by omega) (by omega) (by omega)).mono ?_
          rintro e4 w4 ⟨rfl, o4, h4⟩
          have H4 := Lib.hid (H3.out.trans h4)
          clear h4 o3 c3 f3
          go_wp2
          first | go_end0 | refine bodyPost_ret (results_none rfl _ _ _) rfl ?_
          exact ⟨rfl, by rw [← HG.out, classGo_bad hlt' HY.out HB.out]; exact ⟨_, _, o4⟩, H4.out⟩

set_option maxRecDepth 100000 in
theorem marks_zero (w : World) : Calls Tryz.prog 173 #[.int .u8 0] w fun e w' => e = .returned (.bool false) ∧ w' = w := marks_any 0 w
set_option maxRecDepth 100000 in
set_option maxHeartbeats 2000000 in
theorem span_any (s : ByteArray) (i : Nat) (f : Nat → Bool) (g : Nat) (w : World) (o : RdAt w g s i f 0 0) (c : UInt8) (hi : i < s.size) (hs : s.size ≤ 4611686018427387000) :
    Calls Tryz.prog 174 #[rp g, .int .u8 (c.toNat : Int)] w fun e w' => Unit0 e ∧ ResAt s (spanF s i f c) g w' ∧ Only g w w' := by
  have hc := c.toNat_lt
  obtain ⟨R, hR⟩ : ∃ R, spanF s i f c = R := ⟨_, rfl⟩
  rw [hR]
  have HR := Lib.hid hR; clear hR
  obtain ⟨c0, f0⟩ := Slab.facts (o)
  go_enter Tryz.func174, Tryz.ntmps174
  by_cases k1 : s.size ≤ i + 1
  · go_wp2_with fail
    refine (at_out s i f 0 0 g _ o (i + 1) k1 (by omega)).mono ?_
    rintro e1 w1 ⟨rfl, o1, h1⟩
    obtain ⟨c1, f1⟩ := Slab.facts (o1)
    go_wp2_with fail
    refine (one_any s i f 2 s.size g _ o1 c (by omega)).mono ?_
    rintro e9 w9 ⟨rfl, o9, h9⟩
    go_wp2
    first | go_end0 | refine bodyPost_ret (results_none rfl _ _ _) rfl ?_
    exact ⟨rfl, by rw [← HR.out]; unfold spanF; rw [if_pos k1]; exact ⟨_, _, o9⟩, h1.trans h9⟩
  go_wp2_with fail
  refine (at_in s i f 0 0 g _ o (i + 1) (by omega) (by omega)).mono ?_
  rintro e2 w2 ⟨rfl, rfl⟩
  cases hy : (bt s (i + 1) == 45) with
  | false =>
    have y : (((bt s (i + 1)).toNat : Int) == 45) = false := (beq_int (bt s (i + 1)) 45).trans hy
    have yn : (((bt s (i + 1)).toNat : Int) != 45) = !false := by
      have := bne_int (bt s (i + 1)) 45
      rw [hy] at this
      exact this
    have HY := Lib.hid hy; clear hy
    go_wp2_with fail
    refine (one_any s i f 0 0 g _ o c (by omega)).mono ?_
    rintro e9 w9 ⟨rfl, o9, h9⟩
    go_wp2
    first | go_end0 | refine bodyPost_ret (results_none rfl _ _ _) rfl ?_
    exact ⟨rfl, by rw [← HR.out]; unfold spanF; rw [if_neg k1, if_pos (by unfold bne; rw [HY.out]; rfl)]; exact o9, h9⟩
  | true =>
  have y : (((bt s (i + 1)).toNat : Int) == 45) = true := (beq_int (bt s (i + 1)) 45).trans hy
  have yn : (((bt s (i + 1)).toNat : Int) != 45) = !true := by
    have := bne_int (bt s (i + 1)) 45
    rw [hy] at this
    exact this
  have HY := Lib.hid hy; clear hy
  have Q1 : ∀ R', spanF s i f c = R' → (bt s (i + 1) != 45) = false := fun _ _ => by unfold bne; rw [HY.out]; rfl
  have Q2 := Lib.hid Q1; clear Q1
  by_cases k2 : s.size ≤ i + 2
  · go_wp2_with fail
    refine (at_out s i f 0 0 g _ o (i + 2) k2 (by omega)).mono ?_
    rintro e1 w1 ⟨rfl, o1, h1⟩
    obtain ⟨c1, f1⟩ := Slab.facts (o1)
    go_wp2_with fail
    refine (one_any s i f 2 s.size g _ o1 c (by omega)).mono ?_
    rintro e9 w9 ⟨rfl, o9, h9⟩
    go_wp2
    first | go_end0 | refine bodyPost_ret (results_none rfl _ _ _) rfl ?_
    exact ⟨rfl, by rw [← HR.out]; unfold spanF; rw [if_neg k1, if_neg (by rw [Q2.out _ rfl]; simp), if_pos k2]; exact ⟨_, _, o9⟩, h1.trans h9⟩
  go_wp2_with fail
  refine (at_in s i f 0 0 g _ o (i + 2) (by omega) (by omega)).mono ?_
  rintro e3 w3 ⟨rfl, rfl⟩
  cases hz : (bt s (i + 2) == 93) with
  | true =>
    have z : (((bt s (i + 2)).toNat : Int) == 93) = true := (beq_int (bt s (i + 2)) 93).trans hz
    have zn : (((bt s (i + 2)).toNat : Int) != 93) = !true := by
      have := bne_int (bt s (i + 2)) 93
      rw [hz] at this
      exact this
    have HZ := Lib.hid hz; clear hz
    go_wp2_with fail
    refine (one_any s i f 0 0 g _ o c (by omega)).mono ?_
    rintro e9 w9 ⟨rfl, o9, h9⟩
    go_wp2
    first | go_end0 | refine bodyPost_ret (results_none rfl _ _ _) rfl ?_
    exact ⟨rfl, by rw [← HR.out]; unfold spanF; rw [if_neg k1, if_neg (by rw [Q2.out _ rfl]; simp), if_neg k2, if_pos HZ.out]; exact o9, h9⟩
  | false =>
  have z : (((bt s (i + 2)).toNat : Int) == 93) = false := (beq_int (bt s (i + 2)) 93).trans hz
  have zn : (((bt s (i + 2)).toNat : Int) != 93) = !false := by
    have := bne_int (bt s (i + 2)) 93
    rw [hz] at this
    exact this
  have HZ := Lib.hid hz; clear hz
  have hd := (bt s (i + 2)).toNat_lt
  cases hl : decide ((bt s (i + 2)).toNat < c.toNat) with
  | true =>
    have k3 : (bt s (i + 2)).toNat < c.toNat := by simpa using hl
    have K3 := Lib.hid k3; clear k3
    go_wp2_with fail
    refine (fail_in s i f 0 0 g _ o 4 (i + 2 : Nat) (by omega) (by omega) (by omega)).mono ?_
    rintro e4 w4 ⟨rfl, o4, h4⟩
    go_wp2
    first | go_end0 | refine bodyPost_ret (results_none rfl _ _ _) rfl ?_
    exact ⟨rfl, by rw [← HR.out]; unfold spanF; rw [if_neg k1, if_neg (by rw [Q2.out _ rfl]; simp), if_neg k2, if_neg (by rw [HZ.out]; simp), if_pos K3.out]; exact ⟨_, _, o4⟩, h4⟩
  | false =>
  have k3 : ¬ (bt s (i + 2)).toNat < c.toNat := by simpa using hl
  have K3 := Lib.hid k3; clear k3
  cases hv : (bt s (i + 2) == 91) with
  | true =>
    have v : (((bt s (i + 2)).toNat : Int) == 91) = true := (beq_int (bt s (i + 2)) 91).trans hv
    have vn : (((bt s (i + 2)).toNat : Int) != 91) = !true := by
      have := bne_int (bt s (i + 2)) 91
      rw [hv] at this
      exact this
    have HV := Lib.hid hv; clear hv
    by_cases k4 : s.size ≤ i + 3
    · go_wp2_with fail
      refine (at_out s i f 0 0 g _ o (i + 3) k4 (by omega)).mono ?_
      rintro e1 w1 ⟨rfl, o1, h1⟩
      have H1 := Lib.hid h1; clear h1 c0 f0 o
      obtain ⟨c1, f1⟩ := Slab.facts (o1)
      go_wp2_with fail
      refine (marks_zero _).mono ?_
      rintro e5 w5 ⟨rfl, rfl⟩
      go_wp2_with fail
      go_region_with (first | (go_at_call 180; refine (range_any _ _ (by omega) (by omega) (by omega) (by omega) _).mono ?_; rintro e6 w6 ⟨rfl, hb6⟩; have o6 := o1.callD hb6 rfl; have h6 := (H1.out.drew).call hb6; clear hb6; obtain ⟨ca6, fa6⟩ := o6.facts) | (go_at_call 179; refine (or_any _ _ _).mono ?_; rintro e7 w7 ⟨rfl, hb7⟩; have o7 := o6.callD hb7 rfl; have h7 := h6.call hb7; clear hb7; obtain ⟨ca7, fa7⟩ := o7.facts))
      all_goals
        go_wp2
        first | go_end0 | refine bodyPost_ret (results_none rfl _ _ _) rfl ?_
        exact ⟨rfl, by rw [← HR.out]; unfold spanF; rw [if_neg k1, if_neg (by rw [Q2.out _ rfl]; simp), if_neg k2, if_neg (by rw [HZ.out]; simp), if_neg K3.out, if_pos (by rw [HV.out]; simpa using k4)]; exact ⟨_, _, RdAt.goto (RdAt.put o7 _) _⟩, (h7.put _ _ _ _).set 1 _⟩
    · go_wp2_with fail
      refine (at_in s i f 0 0 g _ o (i + 3) (by omega) (by omega)).mono ?_
      rintro e4 w4 ⟨rfl, rfl⟩
      go_wp2_with fail
      refine (marks_any (bt s (i + 3)) _).mono ?_
      rintro e5 w5 ⟨rfl, rfl⟩
      cases hm : marksB (bt s (i + 3)) with
      | true =>
        have HM := Lib.hid hm; clear hm
        go_wp2_with fail
        refine (fail_in s i f 0 0 g _ o 3 (i + 3 : Nat) (by omega) (by omega) (by omega)).mono ?_
        rintro e6 w6 ⟨rfl, o6, h6⟩
        go_wp2
        first | go_end0 | refine bodyPost_ret (results_none rfl _ _ _) rfl ?_
        exact ⟨rfl, by rw [← HR.out]; unfold spanF; rw [if_neg k1, if_neg (by rw [Q2.out _ rfl]; simp), if_neg k2, if_neg (by rw [HZ.out]; simp), if_neg K3.out, if_neg (by simp [k4]), if_pos (by rw [HV.out, HM.out]; rfl)]; exact ⟨_, _, o6⟩, h6⟩
      | false =>
        have HM := Lib.hid hm; clear hm
        have H1 := Lib.hid (Only.refl g w5)
        go_wp2_with fail
        go_region_with (first | (go_at_call 180; refine (range_any _ _ (by omega) (by omega) (by omega) (by omega) _).mono ?_; rintro e6 w6 ⟨rfl, hb6⟩; have o6 := o.callD hb6 rfl; have h6 := (H1.out.drew).call hb6; clear hb6; obtain ⟨ca6, fa6⟩ := o6.facts) | (go_at_call 179; refine (or_any _ _ _).mono ?_; rintro e7 w7 ⟨rfl, hb7⟩; have o7 := o6.callD hb7 rfl; have h7 := h6.call hb7; clear hb7; obtain ⟨ca7, fa7⟩ := o7.facts))
        all_goals
          go_wp2
          first | go_end0 | refine bodyPost_ret (results_none rfl _ _ _) rfl ?_
          exact ⟨rfl, by rw [← HR.out]; unfold spanF; rw [if_neg k1, if_neg (by rw [Q2.out _ rfl]; simp), if_neg k2, if_neg (by rw [HZ.out]; simp), if_neg K3.out, if_neg (by simp [k4]), if_neg (by rw [HM.out]; simp)]; exact RdAt.goto (RdAt.put o7 _) _, (h7.put _ _ _ _).set 1 _⟩
  | false =>
    have v : (((bt s (i + 2)).toNat : Int) == 91) = false := (beq_int (bt s (i + 2)) 91).trans hv
    have vn : (((bt s (i + 2)).toNat : Int) != 91) = !false := by
      have := bne_int (bt s (i + 2)) 91
      rw [hv] at this
      exact this
    have HV := Lib.hid hv; clear hv
    have H1 := Lib.hid (Only.refl g w3)
    go_wp2_with fail
    go_region_with (first | (go_at_call 180; refine (range_any _ _ (by omega) (by omega) (by omega) (by omega) _).mono ?_; rintro e6 w6 ⟨rfl, hb6⟩; have o6 := o.callD hb6 rfl; have h6 := (H1.out.drew).call hb6; clear hb6; obtain ⟨ca6, fa6⟩ := o6.facts) | (go_at_call 179; refine (or_any _ _ _).mono ?_; rintro e7 w7 ⟨rfl, hb7⟩; have o7 := o6.callD hb7 rfl; have h7 := h6.call hb7; clear hb7; obtain ⟨ca7, fa7⟩ := o7.facts))
    all_goals
      go_wp2
      first | go_end0 | refine bodyPost_ret (results_none rfl _ _ _) rfl ?_
      exact ⟨rfl, by rw [← HR.out]; unfold spanF; rw [if_neg k1, if_neg (by rw [Q2.out _ rfl]; simp), if_neg k2, if_neg (by rw [HZ.out]; simp), if_neg K3.out, if_neg (by rw [HV.out]; simp), if_neg (by rw [HV.out]; simp)]; exact RdAt.goto (RdAt.put o7 _) _, (h7.put _ _ _ _).set 1 _⟩

set_option maxRecDepth 100000 in
set_option maxHeartbeats 2000000 in
theorem span_short (s : ByteArray) (i : Nat) (f : Nat → Bool) (e p : Int) (g : Nat) (w : World) (o : RdAt w g s i f e p) (c : UInt8) (k1 : s.size ≤ i + 1) (hi : i < s.size) (hs : s.size ≤ 4611686018427387000) :
    Calls Tryz.prog 174 #[rp g, .int .u8 (c.toNat : Int)] w fun e w' => Unit0 e ∧ ResAt s (.bad 2 s.size) g w' ∧ Only g w w' := by
  have hc := c.toNat_lt
  obtain ⟨c0, f0⟩ := Slab.facts (o)
  go_enter Tryz.func174, Tryz.ntmps174
  go_wp2_with fail
  refine (at_out s i f e p g _ o (i + 1) k1 (by omega)).mono ?_
  rintro e1 w1 ⟨rfl, o1, h1⟩
  obtain ⟨c1, f1⟩ := Slab.facts (o1)
  go_wp2_with fail
  refine (one_any s i f 2 s.size g _ o1 c (by omega)).mono ?_
  rintro e9 w9 ⟨rfl, o9, h9⟩
  go_wp2
  first | go_end0 | refine bodyPost_ret (results_none rfl _ _ _) rfl ?_
  exact ⟨rfl, ⟨_, _, o9⟩, h1.trans h9⟩
set_option maxRecDepth 100000 in
set_option maxHeartbeats 2000000 in
theorem thing_any (s : ByteArray) (i : Nat) (f : Nat → Bool) (g : Nat) (w : World) (o : RdAt w g s i f 0 0) (hi : i < s.size) (hs : s.size ≤ 4611686018427387000) :
    Calls Tryz.prog 169 #[rp g, .int .u8 ((bt s i).toNat : Int)] w fun e w' => Unit0 e ∧ ResAt s (thingF s i f) g w' ∧ Only g w w' := by
  have hc := (bt s i).toNat_lt
  obtain ⟨R, hR⟩ : ∃ R, thingF s i f = R := ⟨_, rfl⟩
  rw [hR]
  have HR := Lib.hid hR; clear hR
  obtain ⟨c0, f0⟩ := Slab.facts (o)
  go_enter Tryz.func169, Tryz.ntmps169
  cases hv : (bt s i == 91) with
  | false =>
    have v : (((bt s i).toNat : Int) == 91) = false := (beq_int (bt s i) 91).trans hv
    have vn : (((bt s i).toNat : Int) != 91) = !false := by
      have := bne_int (bt s i) 91
      rw [hv] at this
      exact this
    have HV := Lib.hid hv; clear hv
    go_wp2_with fail
    refine (span_any s i f g _ o (bt s i) hi hs).mono ?_
    rintro e1 w1 ⟨rfl, r1, h1⟩
    have R1 := Lib.hid r1; clear r1
    go_wp2
    first | go_end0 | refine bodyPost_ret (results_none rfl _ _ _) rfl ?_
    exact ⟨rfl, by rw [← HR.out]; unfold thingF; rw [if_neg (by rw [HV.out]; simp)]; exact R1.out, h1⟩
  | true =>
  have v : (((bt s i).toNat : Int) == 91) = true := (beq_int (bt s i) 91).trans hv
  have vn : (((bt s i).toNat : Int) != 91) = !true := by
    have := bne_int (bt s i) 91
    rw [hv] at this
    exact this
  have e91 : bt s i = 91 := by simpa using hv
  have HV := Lib.hid hv; clear hv
  have e91n : ((bt s i).toNat : Int) = 91 := by rw [e91]; rfl
  have E91 := Lib.hid e91; clear e91
  have hin : thingF s i f = if s.size ≤ i + 1 then .bad 2 s.size else if bt s (i + 1) == 58 then classGo s (i + 2) f (i + 2) else if marksB (bt s (i + 1)) then .bad 3 (i + 2) else spanF s i f 91 := by
    unfold thingF; rw [if_pos HV.out]
  have HIN := Lib.hid hin; clear hin
  have E91N := Lib.hid e91n; clear e91n
  have C : ∀ W, RdAt W g s i f 0 0 → Calls Tryz.prog 174 #[rp g, .int .u8 ((bt s i).toNat : Int)] W fun e w' => Unit0 e ∧ ResAt s (spanF s i f 91) g w' ∧ Only g W w' := fun W oW => by
    have := span_any s i f g W oW 91 hi hs
    rw [E91N.out]; exact this
  have HC := Lib.hid C; clear C
  by_cases k1 : s.size ≤ i + 1
  · go_wp2_with fail
    refine (at_out s i f 0 0 g _ o (i + 1) k1 (by omega)).mono ?_
    rintro e1 w1 ⟨rfl, o1, h1⟩
    have H1 := Lib.hid h1; clear h1 c0 f0 o
    go_wp2_with fail
    refine (marks_zero _).mono ?_
    rintro e5 w5 ⟨rfl, rfl⟩
    go_wp2_with fail
    refine (span_short s i f 2 s.size g _ o1 (bt s i) k1 hi hs).mono ?_
    rintro e6 w6 ⟨rfl, r6, h6⟩
    have R6 := Lib.hid r6; clear r6
    go_wp2
    first | go_end0 | refine bodyPost_ret (results_none rfl _ _ _) rfl ?_
    exact ⟨rfl, by rw [← HR.out, HIN.out, if_pos k1]; exact R6.out, H1.out.trans h6⟩
  go_wp2_with fail
  refine (at_in s i f 0 0 g _ o (i + 1) (by omega) (by omega)).mono ?_
  rintro e2 w2 ⟨rfl, rfl⟩
  cases hz : (bt s (i + 1) == 58) with
  | true =>
    have z : (((bt s (i + 1)).toNat : Int) == 58) = true := (beq_int (bt s (i + 1)) 58).trans hz
    have zn : (((bt s (i + 1)).toNat : Int) != 58) = !true := by
      have := bne_int (bt s (i + 1)) 58
      rw [hz] at this
      exact this
    have HZ := Lib.hid hz; clear hz
    go_wp2_with fail
    refine (class_any s i f g _ o hi hs).mono ?_
    rintro e6 w6 ⟨rfl, r6, h6⟩
    have R6 := Lib.hid r6; clear r6
    go_wp2
    first | go_end0 | refine bodyPost_ret (results_none rfl _ _ _) rfl ?_
    exact ⟨rfl, by rw [← HR.out, HIN.out, if_neg k1, if_pos HZ.out]; exact R6.out, h6⟩
  | false =>
    have z : (((bt s (i + 1)).toNat : Int) == 58) = false := (beq_int (bt s (i + 1)) 58).trans hz
    have zn : (((bt s (i + 1)).toNat : Int) != 58) = !false := by
      have := bne_int (bt s (i + 1)) 58
      rw [hz] at this
      exact this
    have HZ := Lib.hid hz; clear hz
    go_wp2_with fail
    refine (marks_any (bt s (i + 1)) _).mono ?_
    rintro e5 w5 ⟨rfl, rfl⟩
    cases hm : marksB (bt s (i + 1)) with
    | true =>
      have HM := Lib.hid hm; clear hm
      go_wp2_with fail
      refine (fail_in s i f 0 0 g _ o 3 (i + 1 : Nat) (by omega) (by omega) (by omega)).mono ?_
      rintro e6 w6 ⟨rfl, o6, h6⟩
      go_wp2
      first | go_end0 | refine bodyPost_ret (results_none rfl _ _ _) rfl ?_
      exact ⟨rfl, by rw [← HR.out, HIN.out, if_neg k1, if_neg (by rw [HZ.out]; simp), if_pos HM.out]; exact ⟨_, _, o6⟩, h6⟩
    | false =>
      have HM := Lib.hid hm; clear hm
      go_wp2_with fail
      refine (HC.out _ o).mono ?_
      rintro e6 w6 ⟨rfl, r6, h6⟩
      have R6 := Lib.hid r6; clear r6
      go_wp2
      first | go_end0 | refine bodyPost_ret (results_none rfl _ _ _) rfl ?_
      exact ⟨rfl, by rw [← HR.out, HIN.out, if_neg k1, if_neg (by rw [HZ.out]; simp), if_neg (by rw [HM.out]; simp)]; exact R6.out, h6⟩
end Go.Proofs.YtfcgmgpcbenfpaaGreat

/- Walks of the package bracket: Read. -/
namespace Go.Proofs.YtfcgmgpcbenfpaaGreat
open Go.RowKit SetP BrkP Go.Sort
/-- An answer of Read. -/
abbrev bresV (a : Ans) : Value := .tuple #[setV a.set, .int .i64 a.stop, .int .i64 a.err, .int .i64 a.place]
theorem hp_hat (s : ByteArray) (k : Nat) (hk : k ≤ s.size) : hpF (s.extract k s.size) ⟨#[94]⟩ = (bt s k == 94) := by
  unfold hpF
  by_cases h : k < s.size
  · have e : decide ((ByteArray.mk #[94]).size ≤ (s.extract k s.size).size) = true := by
      have : (s.extract k s.size).size = s.size - k := by simp
      rw [this]; show decide (1 ≤ s.size - k) = true; simp; omega
    rw [e, bt_at s k h]
    simp only [Bool.true_and, ByteArray.toList_eq]
    have e2 : ((s.extract k s.size).extract 0 (ByteArray.mk #[94]).size).data.toList = [s[k]] := by
      show ((s.extract k s.size).extract 0 1).data.toList = _
      have hd := List.drop_eq_getElem_cons (i := k) (l := s.data.toList) (by simpa using h)
      have : ((s.extract k s.size).extract 0 1).data.toList = (s.data.toList.drop k).take 1 := by
        simp [ByteArray.data_extract]
        omega
      rw [this, hd]; rfl
    rw [e2]
    show ([s[k]] == [94]) = (s[k] == 94)
    simp
  · have e : decide ((ByteArray.mk #[94]).size ≤ (s.extract k s.size).size) = false := by
      have : (s.extract k s.size).size = s.size - k := by simp
      rw [this]; show decide (1 ≤ s.size - k) = false; simp; omega
    have e2 : bt s k = 0 := by
      unfold bt
      rw [List.getD_eq_getElem?_getD, List.getElem?_eq_none (by simp; omega)]; rfl
    rw [e, e2]; rfl
theorem closeF_bad {s : ByteArray} {from_ j p : Nat} {f : Nat → Bool} {e : Int} (h : closeF s from_ j f = .bad e p) : e ≠ 0 := by
  unfold closeF at h
  split at h
  · cases h; decide
  · split at h
    · cases h; decide
    · split at h
      · cases h
      · cases h; decide
theorem classGo_badE {s : ByteArray} {from_ p : Nat} {f : Nat → Bool} {e : Int} (j : Nat) (h : classGo s from_ f j = .bad e p) : e ≠ 0 := by
  induction hn : s.size - j using Nat.strongRecOn generalizing j with
  | _ n ih =>
    rw [classGo] at h
    split at h
    · cases h; decide
    · split at h
      · exact closeF_bad h
      · split at h
        · exact ih (s.size - (j + 1)) (by omega) (j + 1) h rfl
        · cases h; decide
theorem spanF_bad {s : ByteArray} {i p : Nat} {f : Nat → Bool} {c : UInt8} {e : Int} (h : spanF s i f c = .bad e p) : e ≠ 0 := by
  unfold spanF at h
  split at h
  · cases h; decide
  split at h
  · cases h
  split at h
  · cases h; decide
  split at h
  · cases h
  split at h
  · cases h; decide
  split at h
  · cases h; decide
  split at h
  · cases h; decide
  · cases h
theorem thingF_bad {s : ByteArray} {i p : Nat} {f : Nat → Bool} {e : Int} (h : thingF s i f = .bad e p) : e ≠ 0 := by
  unfold thingF at h
  split at h
  · split at h
    · cases h; decide
    · split at h
      · exact classGo_badE _ h
      · split at h
        · cases h; decide
        · exact spanF_bad h
  · exact spanF_bad h
theorem loopF_out {s : ByteArray} {first i : Nat} {f : Nat → Bool} (h : s.size ≤ i) : loopF s first i f = .bad 2 s.size := by rw [loopF, dif_pos h]
theorem loopF_end {s : ByteArray} {first i : Nat} {f : Nat → Bool} (h : i < s.size) (hb : (bt s i == 93) = true) (hf : first < i) : loopF s first i f = .go (i + 1) f := by
  rw [loopF, dif_neg (by omega), if_pos (by rw [hb]; simpa using hf)]
set_option maxRecDepth 100000 in
set_option maxHeartbeats 2000000 in
theorem bread_any (s : ByteArray) (a : Int) (hs : s.size ≤ 4611686018427387000) (w : World) :
    Calls Tryz.prog 165 #[.string s, .int .i64 a] w fun e w' => e = .returned (bresV (readB s a)) ∧ Below w.heap.size w w' := by
  obtain ⟨R, hR⟩ : ∃ R, readB s a = R := ⟨_, rfl⟩
  rw [hR]
  have HR := Lib.hid hR; clear hR
  cases h0 : decide (a < 0) with
  | true =>
    have k0 : a < 0 := by simpa using h0
    have K0 := Lib.hid k0; clear k0
    go_enter Tryz.func165, Tryz.ntmps165
    obtain ⟨c0, f0⟩ := Slab.facts (Slab.new w zero4 49)
    go_wp2
    go_step3
    go_wp2
    rw [Exit.noGoto_ret]
    refine bodyPost_ret (v := bresV ⟨fun _ => false, 0, 1, 0⟩) (by simp [results, Tryz.results165, go_sem, wd_zero, c0]) rfl ⟨by rw [← HR.out]; unfold readB; rw [if_pos (.inl K0.out)], by (repeat' (first | (with_reducible exact Below.refl _ _) | (with_reducible assumption) | (with_reducible refine Below.alloc ?_ ?_ _) | (with_reducible refine Below.drew ?_) | (with_reducible refine below_set ?_ ?_ _) | (with_reducible refine below_call ?_ ?_ (by assumption)) | (with_reducible exact Below.size (by assumption)) | omega | go_size))⟩
  | false =>
  cases h1 : decide ((s.size : Int) ≤ a) with
  | true =>
    have k0 : (s.size : Int) ≤ a := by simpa using h1
    have K0 := Lib.hid k0; clear k0
    go_enter Tryz.func165, Tryz.ntmps165
    obtain ⟨c0, f0⟩ := Slab.facts (Slab.new w zero4 49)
    go_wp2
    go_step3
    go_wp2
    rw [Exit.noGoto_ret]
    refine bodyPost_ret (v := bresV ⟨fun _ => false, 0, 1, 0⟩) (by simp [results, Tryz.results165, go_sem, wd_zero, c0]) rfl ⟨by rw [← HR.out]; unfold readB; rw [if_pos (.inr K0.out)], by (repeat' (first | (with_reducible exact Below.refl _ _) | (with_reducible assumption) | (with_reducible refine Below.alloc ?_ ?_ _) | (with_reducible refine Below.drew ?_) | (with_reducible refine below_set ?_ ?_ _) | (with_reducible refine below_call ?_ ?_ (by assumption)) | (with_reducible exact Below.size (by assumption)) | omega | go_size))⟩
  | false =>
  have h0' : 0 ≤ a := by simpa using h0
  have h1' : a < s.size := by simpa using h1
  clear h0 h1
  obtain ⟨a, rfl⟩ := Int.eq_ofNat_of_zero_le h0'
  have hlt : a < s.size := by omega
  have hbt := Lib.hid (bt_at s a hlt)
  cases hy : (bt s a == 91) with
  | false =>
    have HY := Lib.hid hy
    rw [hbt.out] at hy
    have y : (((s[a]).toNat : Int) == 91) = false := (beq_int (s[a]) 91).trans hy
    have yn : (((s[a]).toNat : Int) != 91) = !false := by
      have := bne_int (s[a]) 91
      rw [hy] at this
      exact this
    clear hy
    go_enter Tryz.func165, Tryz.ntmps165
    obtain ⟨c0, f0⟩ := Slab.facts (Slab.new w zero4 49)
    go_wp2
    go_step3
    go_wp2
    rw [Exit.noGoto_ret]
    refine bodyPost_ret (v := bresV ⟨fun _ => false, 0, 1, 0⟩) (by simp [results, Tryz.results165, go_sem, wd_zero, c0]) rfl ⟨by rw [← HR.out]; unfold readB; rw [if_neg (by omega), if_pos (by show (bt s a != 91) = true; unfold bne; rw [HY.out]; rfl)], by (repeat' (first | (with_reducible exact Below.refl _ _) | (with_reducible assumption) | (with_reducible refine Below.alloc ?_ ?_ _) | (with_reducible refine Below.drew ?_) | (with_reducible refine below_set ?_ ?_ _) | (with_reducible refine below_call ?_ ?_ (by assumption)) | (with_reducible exact Below.size (by assumption)) | omega | go_size))⟩
  | true =>
  have HY := Lib.hid hy
  rw [hbt.out] at hy
  have y : (((s[a]).toNat : Int) == 91) = true := (beq_int (s[a]) 91).trans hy
  have yn : (((s[a]).toNat : Int) != 91) = !true := by
    have := bne_int (s[a]) 91
    rw [hy] at this
    exact this
  clear hy
  have d0 : decide ((a : Int) < 0) = false := by simp
  have d1 : decide (s.size ≤ a) = false := by simpa using hlt
  clear h0' h1'
  have hp := hp_hat s (a + 1) (by omega)
  have CH := hp_any (s.extract (a + 1) s.size) ⟨#[94]⟩ (by have := extract_size s (a + 1) s.size; omega) (by decide)
  rw [hp] at CH
  have HCH := Lib.hid CH; clear CH hp
  go_enter Tryz.func165, Tryz.ntmps165
  go_wp2
  go_step3
  go_wp2_with fail
  refine (HCH.out _).mono ?_
  rintro e1 w1 ⟨rfl, rfl⟩
  cases hn : (bt s (a + 1) == 94) with
  | true =>
    have HN := Lib.hid hn; clear hn
    go_wp2
    go_step3
    go_wp2
    have o0 : RdAt ((w.alloc (.cells zero4 49)).alloc (.cells #[.string s, .int .i64 ((a : Int) + 1 + 1), .int .u64 0, .int .u64 0, .int .u64 0, .int .u64 0, .int .i64 0, .int .i64 0] 204)) (w.heap.size + 1) s ((a : Int) + 1 + 1) (fun _ => false) 0 0 := by
      simp only [RdAt, rdCells, wd_zero]; exact Slab.newAt _ _ _ (by simp)
    have p0 : Slab ((w.alloc (.cells zero4 49)).alloc (.cells #[.string s, .int .i64 ((a : Int) + 1 + 1), .int .u64 0, .int .u64 0, .int .u64 0, .int .u64 0, .int .i64 0, .int .i64 0] 204)) w.heap.size zero4 49 := (Slab.new _ _ _).alloc _
    have HB0 : Below w.heap.size w ((w.alloc (.cells zero4 49)).alloc (.cells #[.string s, .int .i64 ((a : Int) + 1 + 1), .int .u64 0, .int .u64 0, .int .u64 0, .int .u64 0, .int .i64 0, .int .i64 0] 204)) := by (repeat' (first | (with_reducible exact Below.refl _ _) | (with_reducible assumption) | (with_reducible refine Below.alloc ?_ ?_ _) | (with_reducible refine Below.drew ?_) | (with_reducible refine below_set ?_ ?_ _) | (with_reducible refine below_call ?_ ?_ (by assumption)) | (with_reducible exact Below.size (by assumption)) | omega | go_size))
    obtain ⟨Q, hQ⟩ : ∃ Q, loopF s (a + 2) (a + 2) (fun _ => false) = Q := ⟨_, rfl⟩
    have ha : R = ansOf true Q := by
      rw [← HR.out, ← hQ]; unfold readB
      rw [if_neg (by omega), if_neg (by show ¬ (bt s a != 91) = true; unfold bne; rw [HY.out]; simp)]
      show (if (bt s (a + 1) == 94) = true then _ else _) = _
      rw [HN.out]; rfl
    have HA := Lib.hid ha; clear ha
    have HQ := Lib.hid hQ; clear hQ
    go_loopw [11] (fun _ wr => ∃ (k : Nat) (f : Nat → Bool), a + 2 ≤ k ∧ (k ≤ s.size ∨ k = a + 2) ∧ RdAt wr (w.heap.size + 1) s k f 0 0 ∧ Slab wr w.heap.size zero4 49 ∧ Below w.heap.size w wr ∧ loopF s (a + 2) k f = Q)
      (fun _ wr => s.size + 2 - (intOf ((wr.cell? ⟨w.heap.size + 1, 1, none⟩).getD undef)).toNat)
    case atStart => exact ⟨a + 2, _, Nat.le_refl _, .inr rfl, o0, p0, HB0, HQ.out⟩
    case round =>
      clear o0 p0 HB0
      obtain ⟨k, f, hk0, hk1, o, p, hB, hL⟩ := hrel
      have hne : w.heap.size ≠ w.heap.size + 1 := by omega
      have hgl := o.lt
      have HL := Lib.hid hL; clear hL
      have HB := Lib.hid hB; clear hB
      have hk2 : k ≤ 4611686018427387900 := by omega
      have HK := Lib.hid hk1; clear hk1
      obtain ⟨c1, f1⟩ := Slab.facts (o)
      by_cases hlt : s.size ≤ k
      · go_wp2_with fail
        refine (at_out s k f 0 0 (w.heap.size + 1) _ o k hlt (by omega)).mono ?_
        rintro e2 w2 ⟨rfl, o2, h2⟩
        have p2 := p.only h2 hne
        have HB2 := Lib.hid (below_only HB.out h2 (by omega) (by omega))
        clear o p h2 c1 f1 HB
        obtain ⟨c5, f5⟩ := Slab.facts (o2)
        obtain ⟨c6, f6⟩ := Slab.facts (p2)
        have e5n : ((2 : Int) != 0) = true := by simp; try omega
        have e5q : ((2 : Int) == 0) = false := by simp; try omega
        go_wp2_with fail
        go_region_held3 (fun w' => w'.cell? ⟨w.heap.size + 1, 6, none⟩ = some (.int .i64 2) ∧ w'.cell? ⟨w.heap.size + 1, 7, none⟩ = some (.int .i64 (s.size : Int))) (simp [*, go_sem]) (fail)
        all_goals
          go_wp2
          rw [Exit.noGoto_ret]
          obtain ⟨c9, f9⟩ := ((((((p2).set 0 (.int .u64 0)).set 1 (.int .u64 0)).set 2 (.int .u64 0)).set 3 (.int .u64 0)).drew).facts
          refine bodyPost_ret (v := bresV ⟨fun _ => false, 0, 2, (s.size : Int)⟩) (by simp [results, Tryz.results165, go_sem, wd_zero, c9]) rfl ⟨congrArg (fun r => Ending.returned (bresV r)) ?_, ?_⟩
          · rw [HA.out, ← HL.out]; rw [loopF_out hlt]; rfl
          · have hb := HB2.out
            (repeat' (first | (with_reducible exact Below.refl _ _) | (with_reducible assumption) | (with_reducible refine Below.alloc ?_ ?_ _) | (with_reducible refine Below.drew ?_) | (with_reducible refine below_set ?_ ?_ _) | (with_reducible refine below_call ?_ ?_ (by assumption)) | (with_reducible exact Below.size (by assumption)) | omega | go_size))
      · have hlt' : k < s.size := by omega
        go_wp2_with fail
        refine (at_in s k f 0 0 (w.heap.size + 1) _ o k hlt' (by omega)).mono ?_
        rintro e2 w2 ⟨rfl, rfl⟩
        cases hb : (bt s k == 93) with
        | true =>
          have b : (((bt s k).toNat : Int) == 93) = true := (beq_int (bt s k) 93).trans hb
          have bn : (((bt s k).toNat : Int) != 93) = !true := by
            have := bne_int (bt s k) 93
            rw [hb] at this
            exact this
          have HBt := Lib.hid hb; clear hb
          cases hf : decide (((a : Int) + 1 + 1) < (k : Int)) with
          | true =>
            have hfk : a + 2 < k := by simp at hf; omega
            go_wp2_with fail
            refine (not_any f _).mono ?_
            rintro e4 w4 ⟨rfl, hb4⟩
            have o4 := o.call hb4
            have p4 := p.call hb4
            have HB4 := Lib.hid (below_then HB.out hb4)
            clear hb4 o p c1 f1 HB
            have o5 := RdAt.put o4 (fun x => !f x)
            have p5 := (((p4.far (b := w.heap.size + 1) hne (i := 2) (.int .u64 (wd (fun x => !f x) 0))).far (b := w.heap.size + 1) hne (i := 3) (.int .u64 (wd (fun x => !f x) 1))).far (b := w.heap.size + 1) hne (i := 4) (.int .u64 (wd (fun x => !f x) 2))).far (b := w.heap.size + 1) hne (i := 5) (.int .u64 (wd (fun x => !f x) 3))
            obtain ⟨c4, f4⟩ := Slab.facts (o4)
            obtain ⟨c5, f5⟩ := Slab.facts (o5)
            obtain ⟨c6, f6⟩ := Slab.facts (p5)
            have xk : IntKind.i64.wrap ((k : Int) + 1) = (k : Int) + 1 := IntWalk.i64_in _ (by omega)
            go_wp2_with fail
            go_region_held3 (fun w' => w'.cell? ⟨w.heap.size + 1, 1, none⟩ = some (.int .i64 (k : Int)) ∧ w'.cell? ⟨w.heap.size + 1, 2, none⟩ = some (.int .u64 (wd (fun x => !f x) 0)) ∧ w'.cell? ⟨w.heap.size + 1, 3, none⟩ = some (.int .u64 (wd (fun x => !f x) 1)) ∧ w'.cell? ⟨w.heap.size + 1, 4, none⟩ = some (.int .u64 (wd (fun x => !f x) 2)) ∧ w'.cell? ⟨w.heap.size + 1, 5, none⟩ = some (.int .u64 (wd (fun x => !f x) 3))) (simp [*, go_sem]) (fail)
            all_goals
              go_wp2
              rw [Exit.noGoto_ret]
              obtain ⟨c9, f9⟩ := ((((((p5).set 0 (.int .u64 (wd (fun x => !f x) 0))).set 1 (.int .u64 (wd (fun x => !f x) 1))).set 2 (.int .u64 (wd (fun x => !f x) 2))).set 3 (.int .u64 (wd (fun x => !f x) 3))).drew).facts
              refine bodyPost_ret (v := bresV ⟨(fun x => !f x), (k : Int) + 1, 0, 0⟩) (by simp [results, Tryz.results165, go_sem, c9]) rfl ⟨congrArg (fun r => Ending.returned (bresV r)) ?_, ?_⟩
              · rw [HA.out, ← HL.out, loopF_end hlt' HBt.out hfk]; rfl
              · have hb := HB4.out
                (repeat' (first | (with_reducible exact Below.refl _ _) | (with_reducible assumption) | (with_reducible refine Below.alloc ?_ ?_ _) | (with_reducible refine Below.drew ?_) | (with_reducible refine below_set ?_ ?_ _) | (with_reducible refine below_call ?_ ?_ (by assumption)) | (with_reducible exact Below.size (by assumption)) | omega | go_size))
          | false =>
            have hfk : ¬ a + 2 < k := by simp at hf; omega
            have he : (bt s k == 93 && decide (a + 2 < k)) = false := by rw [decide_eq_false hfk]; simp
            have HE := Lib.hid he; clear he
            go_wp2_with fail
            refine (thing_any s k f (w.heap.size + 1) _ o hlt' hs).mono ?_
            rintro e3 w3 ⟨rfl, r3, h3⟩
            have p3 := p.only h3 hne
            have HB3 := Lib.hid (below_only HB.out h3 (by omega) (by omega))
            have oc := o.cell 1
            clear p h3 c1 f1 HB o
            cases ht : thingF s k f with
            | go i' f' =>
              rw [ht] at r3
              have r4 : RdAt w3 (w.heap.size + 1) s i' f' 0 0 := r3
              obtain ⟨g1, g2⟩ := thingF_go ht
              have HT := Lib.hid ht; clear ht r3
              have oc' := Lib.hid oc; clear oc
              obtain ⟨c4, f4⟩ := Slab.facts (r4)
              have rc := Lib.hid (r4.cell 1)
              go_wp2
              go_roundw
              case rel => exact ⟨i', f', by omega, .inl g2, r4, p3, HB3.out, by rw [← HL.out, loopF_step hlt' HE.out, HT.out]⟩
              case measure =>
                rw [oc'.out, rc.out]
                simp [intOf]; omega
            | bad e' p' =>
              rw [ht] at r3
              obtain ⟨i', f', r4⟩ := r3
              have hb0 := thingF_bad ht
              have HT := Lib.hid ht; clear ht oc
              obtain ⟨c5, f5⟩ := Slab.facts (r4)
              obtain ⟨c6, f6⟩ := Slab.facts (p3)
              have e5n : ((e' : Int) != 0) = true := by simp; try omega
              have e5q : ((e' : Int) == 0) = false := by simp; try omega
              go_wp2_with fail
              go_region_held3 (fun w' => w'.cell? ⟨w.heap.size + 1, 6, none⟩ = some (.int .i64 e') ∧ w'.cell? ⟨w.heap.size + 1, 7, none⟩ = some (.int .i64 (p' : Int))) (simp [*, go_sem]) (fail)
              all_goals
                go_wp2
                rw [Exit.noGoto_ret]
                obtain ⟨c9, f9⟩ := ((((((p3).set 0 (.int .u64 0)).set 1 (.int .u64 0)).set 2 (.int .u64 0)).set 3 (.int .u64 0)).drew).facts
                refine bodyPost_ret (v := bresV ⟨fun _ => false, 0, e', (p' : Int)⟩) (by simp [results, Tryz.results165, go_sem, wd_zero, c9]) rfl ⟨congrArg (fun r => Ending.returned (bresV r)) ?_, ?_⟩
                · rw [HA.out, ← HL.out]; rw [loopF_step hlt' HE.out, HT.out]; rfl
                · have hb := HB3.out
                  (repeat' (first | (with_reducible exact Below.refl _ _) | (with_reducible assumption) | (with_reducible refine Below.alloc ?_ ?_ _) | (with_reducible refine Below.drew ?_) | (with_reducible refine below_set ?_ ?_ _) | (with_reducible refine below_call ?_ ?_ (by assumption)) | (with_reducible exact Below.size (by assumption)) | omega | go_size))
        | false =>
          have b : (((bt s k).toNat : Int) == 93) = false := (beq_int (bt s k) 93).trans hb
          have bn : (((bt s k).toNat : Int) != 93) = !false := by
            have := bne_int (bt s k) 93
            rw [hb] at this
            exact this
          have he : (bt s k == 93 && decide (a + 2 < k)) = false := by rw [hb]; simp
          have HE := Lib.hid he; clear he hb
          go_wp2_with fail
          refine (thing_any s k f (w.heap.size + 1) _ o hlt' hs).mono ?_
          rintro e3 w3 ⟨rfl, r3, h3⟩
          have p3 := p.only h3 hne
          have HB3 := Lib.hid (below_only HB.out h3 (by omega) (by omega))
          have oc := o.cell 1
          clear p h3 c1 f1 HB o
          cases ht : thingF s k f with
          | go i' f' =>
            rw [ht] at r3
            have r4 : RdAt w3 (w.heap.size + 1) s i' f' 0 0 := r3
            obtain ⟨g1, g2⟩ := thingF_go ht
            have HT := Lib.hid ht; clear ht r3
            have oc' := Lib.hid oc; clear oc
            obtain ⟨c4, f4⟩ := Slab.facts (r4)
            have rc := Lib.hid (r4.cell 1)
            go_wp2
            go_roundw
            case rel => exact ⟨i', f', by omega, .inl g2, r4, p3, HB3.out, by rw [← HL.out, loopF_step hlt' HE.out, HT.out]⟩
            case measure =>
              rw [oc'.out, rc.out]
              simp [intOf]; omega
          | bad e' p' =>
            rw [ht] at r3
            obtain ⟨i', f', r4⟩ := r3
            have hb0 := thingF_bad ht
            have HT := Lib.hid ht; clear ht oc
            obtain ⟨c5, f5⟩ := Slab.facts (r4)
            obtain ⟨c6, f6⟩ := Slab.facts (p3)
            have e5n : ((e' : Int) != 0) = true := by simp; try omega
            have e5q : ((e' : Int) == 0) = false := by simp; try omega
            go_wp2_with fail
            go_region_held3 (fun w' => w'.cell? ⟨w.heap.size + 1, 6, none⟩ = some (.int .i64 e') ∧ w'.cell? ⟨w.heap.size + 1, 7, none⟩ = some (.int .i64 (p' : Int))) (simp [*, go_sem]) (fail)
            all_goals
              go_wp2
              rw [Exit.noGoto_ret]
              obtain ⟨c9, f9⟩ := ((((((p3).set 0 (.int .u64 0)).set 1 (.int .u64 0)).set 2 (.int .u64 0)).set 3 (.int .u64 0)).drew).facts
              refine bodyPost_ret (v := bresV ⟨fun _ => false, 0, e', (p' : Int)⟩) (by simp [results, Tryz.results165, go_sem, wd_zero, c9]) rfl ⟨congrArg (fun r => Ending.returned (bresV r)) ?_, ?_⟩
              · rw [HA.out, ← HL.out]; rw [loopF_step hlt' HE.out, HT.out]; rfl
              · have hb := HB3.out
                (repeat' (first | (with_reducible exact Below.refl _ _) | (with_reducible assumption) | (with_reducible refine Below.alloc ?_ ?_ _) | (with_reducible refine Below.drew ?_) | (with_reducible refine below_set ?_ ?_ _) | (with_reducible refine below_call ?_ ?_ (by assumption)) | (with_reducible exact Below.size (by assumption)) | omega | go_size))
  | false =>
    have HN := Lib.hid hn; clear hn
    go_wp2
    go_step3
    go_wp2
    have o0 : RdAt ((w.alloc (.cells zero4 49)).alloc (.cells #[.string s, .int .i64 ((a : Int) + 1), .int .u64 0, .int .u64 0, .int .u64 0, .int .u64 0, .int .i64 0, .int .i64 0] 204)) (w.heap.size + 1) s ((a : Int) + 1) (fun _ => false) 0 0 := by
      simp only [RdAt, rdCells, wd_zero]; exact Slab.newAt _ _ _ (by simp)
    have p0 : Slab ((w.alloc (.cells zero4 49)).alloc (.cells #[.string s, .int .i64 ((a : Int) + 1), .int .u64 0, .int .u64 0, .int .u64 0, .int .u64 0, .int .i64 0, .int .i64 0] 204)) w.heap.size zero4 49 := (Slab.new _ _ _).alloc _
    have HB0 : Below w.heap.size w ((w.alloc (.cells zero4 49)).alloc (.cells #[.string s, .int .i64 ((a : Int) + 1), .int .u64 0, .int .u64 0, .int .u64 0, .int .u64 0, .int .i64 0, .int .i64 0] 204)) := by (repeat' (first | (with_reducible exact Below.refl _ _) | (with_reducible assumption) | (with_reducible refine Below.alloc ?_ ?_ _) | (with_reducible refine Below.drew ?_) | (with_reducible refine below_set ?_ ?_ _) | (with_reducible refine below_call ?_ ?_ (by assumption)) | (with_reducible exact Below.size (by assumption)) | omega | go_size))
    obtain ⟨Q, hQ⟩ : ∃ Q, loopF s (a + 1) (a + 1) (fun _ => false) = Q := ⟨_, rfl⟩
    have ha : R = ansOf false Q := by
      rw [← HR.out, ← hQ]; unfold readB
      rw [if_neg (by omega), if_neg (by show ¬ (bt s a != 91) = true; unfold bne; rw [HY.out]; simp)]
      show (if (bt s (a + 1) == 94) = true then _ else _) = _
      rw [HN.out]; rfl
    have HA := Lib.hid ha; clear ha
    have HQ := Lib.hid hQ; clear hQ
    go_loopw [11] (fun _ wr => ∃ (k : Nat) (f : Nat → Bool), a + 1 ≤ k ∧ (k ≤ s.size ∨ k = a + 1) ∧ RdAt wr (w.heap.size + 1) s k f 0 0 ∧ Slab wr w.heap.size zero4 49 ∧ Below w.heap.size w wr ∧ loopF s (a + 1) k f = Q)
      (fun _ wr => s.size + 2 - (intOf ((wr.cell? ⟨w.heap.size + 1, 1, none⟩).getD undef)).toNat)
    case atStart => exact ⟨a + 1, _, Nat.le_refl _, .inr rfl, o0, p0, HB0, HQ.out⟩
    case round =>
      clear o0 p0 HB0
      obtain ⟨k, f, hk0, hk1, o, p, hB, hL⟩ := hrel
      have hne : w.heap.size ≠ w.heap.size + 1 := by omega
      have hgl := o.lt
      have HL := Lib.hid hL; clear hL
      have HB := Lib.hid hB; clear hB
      have hk2 : k ≤ 4611686018427387900 := by omega
      have HK := Lib.hid hk1; clear hk1
      obtain ⟨c1, f1⟩ := Slab.facts (o)
      by_cases hlt : s.size ≤ k
      · go_wp2_with fail
        refine (at_out s k f 0 0 (w.heap.size + 1) _ o k hlt (by omega)).mono ?_
        rintro e2 w2 ⟨rfl, o2, h2⟩
        have p2 := p.only h2 hne
        have HB2 := Lib.hid (below_only HB.out h2 (by omega) (by omega))
        clear o p h2 c1 f1 HB
        obtain ⟨c5, f5⟩ := Slab.facts (o2)
        obtain ⟨c6, f6⟩ := Slab.facts (p2)
        have e5n : ((2 : Int) != 0) = true := by simp; try omega
        have e5q : ((2 : Int) == 0) = false := by simp; try omega
        go_wp2_with fail
        go_region_held3 (fun w' => w'.cell? ⟨w.heap.size + 1, 6, none⟩ = some (.int .i64 2) ∧ w'.cell? ⟨w.heap.size + 1, 7, none⟩ = some (.int .i64 (s.size : Int))) (simp [*, go_sem]) (fail)
        all_goals
          go_wp2
          rw [Exit.noGoto_ret]
          obtain ⟨c9, f9⟩ := ((((((p2).set 0 (.int .u64 0)).set 1 (.int .u64 0)).set 2 (.int .u64 0)).set 3 (.int .u64 0)).drew).facts
          refine bodyPost_ret (v := bresV ⟨fun _ => false, 0, 2, (s.size : Int)⟩) (by simp [results, Tryz.results165, go_sem, wd_zero, c9]) rfl ⟨congrArg (fun r => Ending.returned (bresV r)) ?_, ?_⟩
          · rw [HA.out, ← HL.out]; rw [loopF_out hlt]; rfl
          · have hb := HB2.out
            (repeat' (first | (with_reducible exact Below.refl _ _) | (with_reducible assumption) | (with_reducible refine Below.alloc ?_ ?_ _) | (with_reducible refine Below.drew ?_) | (with_reducible refine below_set ?_ ?_ _) | (with_reducible refine below_call ?_ ?_ (by assumption)) | (with_reducible exact Below.size (by assumption)) | omega | go_size))
      · have hlt' : k < s.size := by omega
        go_wp2_with fail
        refine (at_in s k f 0 0 (w.heap.size + 1) _ o k hlt' (by omega)).mono ?_
        rintro e2 w2 ⟨rfl, rfl⟩
        cases hb : (bt s k == 93) with
        | true =>
          have b : (((bt s k).toNat : Int) == 93) = true := (beq_int (bt s k) 93).trans hb
          have bn : (((bt s k).toNat : Int) != 93) = !true := by
            have := bne_int (bt s k) 93
            rw [hb] at this
            exact this
          have HBt := Lib.hid hb; clear hb
          cases hf : decide (((a : Int) + 1) < (k : Int)) with
          | true =>
            have hfk : a + 1 < k := by simp at hf; omega
            obtain ⟨c6, f6⟩ := Slab.facts (p)
            have xk : IntKind.i64.wrap ((k : Int) + 1) = (k : Int) + 1 := IntWalk.i64_in _ (by omega)
            go_wp2_with fail
            go_region_held3 (fun w' => w'.cell? ⟨w.heap.size + 1, 1, none⟩ = some (.int .i64 (k : Int)) ∧ w'.cell? ⟨w.heap.size + 1, 2, none⟩ = some (.int .u64 (wd f 0)) ∧ w'.cell? ⟨w.heap.size + 1, 3, none⟩ = some (.int .u64 (wd f 1)) ∧ w'.cell? ⟨w.heap.size + 1, 4, none⟩ = some (.int .u64 (wd f 2)) ∧ w'.cell? ⟨w.heap.size + 1, 5, none⟩ = some (.int .u64 (wd f 3))) (simp [*, go_sem]) (fail)
            all_goals
              go_wp2
              rw [Exit.noGoto_ret]
              obtain ⟨c9, f9⟩ := ((((((p).set 0 (.int .u64 (wd f 0))).set 1 (.int .u64 (wd f 1))).set 2 (.int .u64 (wd f 2))).set 3 (.int .u64 (wd f 3))).drew).facts
              refine bodyPost_ret (v := bresV ⟨f, (k : Int) + 1, 0, 0⟩) (by simp [results, Tryz.results165, go_sem, c9]) rfl ⟨congrArg (fun r => Ending.returned (bresV r)) ?_, ?_⟩
              · rw [HA.out, ← HL.out, loopF_end hlt' HBt.out hfk]; rfl
              · have hb := HB.out
                (repeat' (first | (with_reducible exact Below.refl _ _) | (with_reducible assumption) | (with_reducible refine Below.alloc ?_ ?_ _) | (with_reducible refine Below.drew ?_) | (with_reducible refine below_set ?_ ?_ _) | (with_reducible refine below_call ?_ ?_ (by assumption)) | (with_reducible exact Below.size (by assumption)) | omega | go_size))
          | false =>
            have hfk : ¬ a + 1 < k := by simp at hf; omega
            have he : (bt s k == 93 && decide (a + 1 < k)) = false := by rw [decide_eq_false hfk]; simp
            have HE := Lib.hid he; clear he
            go_wp2_with fail
            refine (thing_any s k f (w.heap.size + 1) _ o hlt' hs).mono ?_
            rintro e3 w3 ⟨rfl, r3, h3⟩
            have p3 := p.only h3 hne
            have HB3 := Lib.hid (below_only HB.out h3 (by omega) (by omega))
            have oc := o.cell 1
            clear p h3 c1 f1 HB o
            cases ht : thingF s k f with
            | go i' f' =>
              rw [ht] at r3
              have r4 : RdAt w3 (w.heap.size + 1) s i' f' 0 0 := r3
              obtain ⟨g1, g2⟩ := thingF_go ht
              have HT := Lib.hid ht; clear ht r3
              have oc' := Lib.hid oc; clear oc
              obtain ⟨c4, f4⟩ := Slab.facts (r4)
              have rc := Lib.hid (r4.cell 1)
              go_wp2
              go_roundw
              case rel => exact ⟨i', f', by omega, .inl g2, r4, p3, HB3.out, by rw [← HL.out, loopF_step hlt' HE.out, HT.out]⟩
              case measure =>
                rw [oc'.out, rc.out]
                simp [intOf]; omega
            | bad e' p' =>
              rw [ht] at r3
              obtain ⟨i', f', r4⟩ := r3
              have hb0 := thingF_bad ht
              have HT := Lib.hid ht; clear ht oc
              obtain ⟨c5, f5⟩ := Slab.facts (r4)
              obtain ⟨c6, f6⟩ := Slab.facts (p3)
              have e5n : ((e' : Int) != 0) = true := by simp; try omega
              have e5q : ((e' : Int) == 0) = false := by simp; try omega
              go_wp2_with fail
              go_region_held3 (fun w' => w'.cell? ⟨w.heap.size + 1, 6, none⟩ = some (.int .i64 e') ∧ w'.cell? ⟨w.heap.size + 1, 7, none⟩ = some (.int .i64 (p' : Int))) (simp [*, go_sem]) (fail)
              all_goals
                go_wp2
                rw [Exit.noGoto_ret]
                obtain ⟨c9, f9⟩ := ((((((p3).set 0 (.int .u64 0)).set 1 (.int .u64 0)).set 2 (.int .u64 0)).set 3 (.int .u64 0)).drew).facts
                refine bodyPost_ret (v := bresV ⟨fun _ => false, 0, e', (p' : Int)⟩) (by simp [results, Tryz.results165, go_sem, wd_zero, c9]) rfl ⟨congrArg (fun r => Ending.returned (bresV r)) ?_, ?_⟩
                · rw [HA.out, ← HL.out]; rw [loopF_step hlt' HE.out, HT.out]; rfl
                · have hb := HB3.out
                  (repeat' (first | (with_reducible exact Below.refl _ _) | (with_reducible assumption) | (with_reducible refine Below.alloc ?_ ?_ _) | (with_reducible refine Below.drew ?_) | (with_reducible refine below_set ?_ ?_ _) | (with_reducible refine below_call ?_ ?_ (by assumption)) | (with_reducible exact Below.size (by assumption)) | omega | go_size))
        | false =>
          have b : (((bt s k).toNat : Int) == 93) = false := (beq_int (bt s k) 93).trans hb
          have bn : (((bt s k).toNat : Int) != 93) = !false := by
            have := bne_int (bt s k) 93
            rw [hb] at this
            exact this
          have he : (bt s k == 93 && decide (a + 1 < k)) = false := by rw [hb]; simp
          have HE := Lib.hid he; clear he hb
          go_wp2_with fail
          refine (thing_any s k f (w.heap.size + 1) _ o hlt' hs).mono ?_
          rintro e3 w3 ⟨rfl, r3, h3⟩
          have p3 := p.only h3 hne
          have HB3 := Lib.hid (below_only HB.out h3 (by omega) (by omega))
          have oc := o.cell 1
          clear p h3 c1 f1 HB o
          cases ht : thingF s k f with
          | go i' f' =>
            rw [ht] at r3
            have r4 : RdAt w3 (w.heap.size + 1) s i' f' 0 0 := r3
            obtain ⟨g1, g2⟩ := thingF_go ht
            have HT := Lib.hid ht; clear ht r3
            have oc' := Lib.hid oc; clear oc
            obtain ⟨c4, f4⟩ := Slab.facts (r4)
            have rc := Lib.hid (r4.cell 1)
            go_wp2
            go_roundw
            case rel => exact ⟨i', f', by omega, .inl g2, r4, p3, HB3.out, by rw [← HL.out, loopF_step hlt' HE.out, HT.out]⟩
            case measure =>
              rw [oc'.out, rc.out]
              simp [intOf]; omega
          | bad e' p' =>
            rw [ht] at r3
            obtain ⟨i', f', r4⟩ := r3
            have hb0 := thingF_bad ht
            have HT := Lib.hid ht; clear ht oc
            obtain ⟨c5, f5⟩ := Slab.facts (r4)
            obtain ⟨c6, f6⟩ := Slab.facts (p3)
            have e5n : ((e' : Int) != 0) = true := by simp; try omega
            have e5q : ((e' : Int) == 0) = false := by simp; try omega
            go_wp2_with fail
            go_region_held3 (fun w' => w'.cell? ⟨w.heap.size + 1, 6, none⟩ = some (.int .i64 e') ∧ w'.cell? ⟨w.heap.size + 1, 7, none⟩ = some (.int .i64 (p' : Int))) (simp [*, go_sem]) (fail)
            all_goals
              go_wp2
              rw [Exit.noGoto_ret]
              obtain ⟨c9, f9⟩ := ((((((p3).set 0 (.int .u64 0)).set 1 (.int .u64 0)).set 2 (.int .u64 0)).set 3 (.int .u64 0)).drew).facts
              refine bodyPost_ret (v := bresV ⟨fun _ => false, 0, e', (p' : Int)⟩) (by simp [results, Tryz.results165, go_sem, wd_zero, c9]) rfl ⟨congrArg (fun r => Ending.returned (bresV r)) ?_, ?_⟩
              · rw [HA.out, ← HL.out]; rw [loopF_step hlt' HE.out, HT.out]; rfl
              · have hb := HB3.out
                (repeat' (first | (with_reducible exact Below.refl _ _) | (with_reducible assumption) | (with_reducible refine Below.alloc ?_ ?_ _) | (with_reducible refine Below.drew ?_) | (with_reducible refine below_set ?_ ?_ _) | (with_reducible refine below_call ?_ ?_ (by assumption)) | (with_reducible exact Below.size (by assumption)) | omega | go_size))
end Go.Proofs.YtfcgmgpcbenfpaaGreat
