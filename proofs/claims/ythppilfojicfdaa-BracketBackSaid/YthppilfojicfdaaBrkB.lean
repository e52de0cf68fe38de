/- Walks of the package bracket: classes, spans, things. -/
import Derived.Test.YthppilfojicfdaaProg
import Derived.WalkKit
import Derived.WalkSpells
import Derived.WalkLawsBesides
import Derived.Handy
import Derived.Lib.Hide
import Derived.Test.YthppilfojicfdaaBrkA
namespace Go.Proofs.Ythppilfojicfdaa
open Go.RowKit SetP BrkP Go.Sort
theorem classGo_out {s : ByteArray} {from_ j : Nat} {f : Nat → Bool} (h : s.size ≤ j) : classGo s from_ f j = .bad 2 s.size := by rw [classGo, dif_pos h]
theorem classGo_close {s : ByteArray} {from_ j : Nat} {f : Nat → Bool} (h : j < s.size) (hb : (bt s j == 58) = true) : classGo s from_ f j = closeF s from_ j f := by rw [classGo, dif_neg (by omega), if_pos hb]
theorem classGo_on {s : ByteArray} {from_ j : Nat} {f : Nat → Bool} (h : j < s.size) (hb : (bt s j == 58) = false) (hg : beginsF (s.extract from_ (j + 1)) = true) : classGo s from_ f j = classGo s from_ f (j + 1) := by
  rw [classGo, dif_neg (by omega), if_neg (by rw [hb]; simp), if_pos hg]
theorem classGo_bad {s : ByteArray} {from_ j : Nat} {f : Nat → Bool} (h : j < s.size) (hb : (bt s j == 58) = false) (hg : beginsF (s.extract from_ (j + 1)) = false) : classGo s from_ f j = .bad 5 (j + 1) := by
  rw [classGo, dif_neg (by omega), if_neg (by rw [hb]; simp), if_neg (by rw [hg]; simp)]
set_option maxRecDepth 100000 in
set_option maxHeartbeats 2000000 in
theorem class_any (s : ByteArray) (i : Nat) (f : Nat → Bool) (g : Nat) (w : World) (o : RdAt w g s i f 0 0) (hi : i < s.size) (hs : s.size ≤ 4611686018427387000) :
    Calls Try.prog 67 #[rp g] w fun e w' => Unit0 e ∧ ResAt s (classGo s (i + 2) f (i + 2)) g w' ∧ Only g w w' := by
  obtain ⟨R, hR⟩ : ∃ R, classGo s (i + 2) f (i + 2) = R := ⟨_, rfl⟩
  rw [hR]
  have HR := Lib.hid hR; clear hR
  obtain ⟨c0, f0⟩ := Slab.facts (o)
  go_enter Try.func67, Try.ntmps67
  go_wp2
  clear c0 f0
  go_loopw [3] (fun x wr => ∃ k : Nat, i + 2 ≤ k ∧ (k ≤ s.size ∨ k = i + 2) ∧ x = .int .i64 k ∧ RdAt wr g s i f 0 0 ∧ Only g w wr ∧ classGo s (i + 2) f k = R) (fun x _ => s.size + 2 - (intOf x).toNat)
  case atStart => exact ⟨i + 2, by omega, by omega, by go_num, o, Only.refl g w, HR.out⟩
  case round =>
    clear o
    obtain ⟨k, hik, hk, rfl, o, h0, hG⟩ := hrel
    have HG := Lib.hid hG; clear hG
    have HK := Lib.hid hk
    have hk2 : k ≤ 4611686018427387904 := by omega
    clear hk
    by_cases hlt : s.size ≤ k
    · go_wp2_with fail
      refine (at_out s i f 0 0 g _ o k hlt (by omega)).mono ?_
      rintro e2 w2 ⟨rfl, o2, h2⟩
      have H2 := Lib.hid (h0.trans h2)
      clear o h0 h2
      obtain ⟨c2, f2⟩ := Slab.facts (o2)
      go_wp2
      first | go_end0 | refine bodyPost_ret (results_none rfl _ _ _) rfl ?_
      exact ⟨rfl, by rw [← HG.out, classGo_out hlt]; exact ⟨_, _, o2⟩, H2.out⟩
    · have hlt' : k < s.size := by omega
      have H0 := Lib.hid h0; clear h0
      go_wp2_with fail
      refine (at_in s i f 0 0 g _ o k hlt' (by omega)).mono ?_
      rintro e2 w2 ⟨rfl, rfl⟩
      have x1 : ((i : Int) + 2) ≤ k := by omega
      have x2 : decide ((i + 2 : Nat) ≤ k) = true := by simpa using hik
      cases hy : (bt s k == 58) with
      | true =>
        have y : (((bt s k).toNat : Int) == 58) = true := (beq_int (bt s k) 58).trans hy
        have yn : (((bt s k).toNat : Int) != 58) = !true := by
          have := bne_int (bt s k) 58
          rw [hy] at this
          exact this
        have HY := Lib.hid hy; clear hy
        obtain ⟨c2, f2⟩ := Slab.facts (o)
        go_wp2_with fail
        refine (close_any s i f g _ o (i + 2) k hlt' (by omega)).mono ?_
        rintro e3 w3 ⟨rfl, r3, h3⟩
        have H3 := Lib.hid (H0.out.trans h3)
        have R3 := Lib.hid r3
        clear r3 h3 o c2 f2
        go_wp2
        first | go_end0 | refine bodyPost_ret (results_none rfl _ _ _) rfl ?_
        exact ⟨rfl, by rw [← HG.out, classGo_close hlt' HY.out]; exact R3.out, H3.out⟩
      | false =>
        have y : (((bt s k).toNat : Int) == 58) = false := (beq_int (bt s k) 58).trans hy
        have yn : (((bt s k).toNat : Int) != 58) = !false := by
          have := bne_int (bt s k) 58
          rw [hy] at this
          exact this
        have HY := Lib.hid hy; clear hy
        obtain ⟨c2, f2⟩ := Slab.facts (o)
        go_wp2_with fail
        refine (begins_any (s.extract (i + 2) (k + 1)) (by have := extract_size s (i + 2) (k + 1); omega) _).mono ?_
        rintro e3 w3 ⟨rfl, hb3⟩
        have o3 := o.call hb3
        have H3 := Lib.hid (H0.out.call hb3)
        clear hb3 o c2 f2 H0
        cases hg : beginsF (s.extract (i + 2) (k + 1)) with
        | true =>
          have HB := Lib.hid hg; clear hg
          go_wp2
          go_roundw
          case rel => exact ⟨k + 1, by omega, by omega, by go_num, o3, H3.out, by rw [← HG.out, classGo_on hlt' HY.out HB.out]⟩
          case measure => simp [intOf]; omega
        | false =>
          have HB := Lib.hid hg; clear hg
          obtain ⟨c3, f3⟩ := Slab.facts (o3)
          go_wp2_with fail
          refine (fail_in s i f 0 0 g _ o3 5 k (by omega) (by omega) (by omega)).mono ?_
          rintro e4 w4 ⟨rfl, o4, h4⟩
          have H4 := Lib.hid (H3.out.trans h4)
          clear h4 o3 c3 f3
          go_wp2
          first | go_end0 | refine bodyPost_ret (results_none rfl _ _ _) rfl ?_
          exact ⟨rfl, by rw [← HG.out, classGo_bad hlt' HY.out HB.out]; exact ⟨_, _, o4⟩, H4.out⟩

theorem marks_zero (w : World) : Calls Try.prog 68 #[.int .u8 0] w fun e w' => e = .returned (.bool false) ∧ w' = w := marks_any 0 w
set_option maxRecDepth 100000 in
set_option maxHeartbeats 2000000 in
theorem span_any (s : ByteArray) (i : Nat) (f : Nat → Bool) (g : Nat) (w : World) (o : RdAt w g s i f 0 0) (c : UInt8) (hi : i < s.size) (hs : s.size ≤ 4611686018427387000) :
    Calls Try.prog 69 #[rp g, .int .u8 (c.toNat : Int)] w fun e w' => Unit0 e ∧ ResAt s (spanF s i f c) g w' ∧ Only g w w' := by
  have hc := c.toNat_lt
  obtain ⟨R, hR⟩ : ∃ R, spanF s i f c = R := ⟨_, rfl⟩
  rw [hR]
  have HR := Lib.hid hR; clear hR
  obtain ⟨c0, f0⟩ := Slab.facts (o)
  go_enter Try.func69, Try.ntmps69
  by_cases k1 : s.size ≤ i + 1
  · go_wp2_with fail
    refine (at_out s i f 0 0 g _ o (i + 1) k1 (by omega)).mono ?_
    rintro e1 w1 ⟨rfl, o1, h1⟩
    obtain ⟨c1, f1⟩ := Slab.facts (o1)
    go_wp2_with fail
    refine (one_any s i f 2 s.size g _ o1 c (by omega)).mono ?_
    rintro e9 w9 ⟨rfl, o9, h9⟩
    go_wp2
    first | go_end0 | refine bodyPost_ret (results_none rfl _ _ _) rfl ?_
    exact ⟨rfl, by rw [← HR.out]; unfold spanF; rw [if_pos k1]; exact ⟨_, _, o9⟩, h1.trans h9⟩
  go_wp2_with fail
  refine (at_in s i f 0 0 g _ o (i + 1) (by omega) (by omega)).mono ?_
  rintro e2 w2 ⟨rfl, rfl⟩
  cases hy : (bt s (i + 1) == 45) with
  | false =>
    have y : (((bt s (i + 1)).toNat : Int) == 45) = false := (beq_int (bt s (i + 1)) 45).trans hy
    have yn : (((bt s (i + 1)).toNat : Int) != 45) = !false := by
      have := bne_int (bt s (i + 1)) 45
      rw [hy] at this
      exact this
    have HY := Lib.hid hy; clear hy
    go_wp2_with fail
    refine (one_any s i f 0 0 g _ o c (by omega)).mono ?_
    rintro e9 w9 ⟨rfl, o9, h9⟩
    go_wp2
    first | go_end0 | refine bodyPost_ret (results_none rfl _ _ _) rfl ?_
    exact ⟨rfl, by rw [← HR.out]; unfold spanF; rw [if_neg k1, if_pos (by unfold bne; rw [HY.out]; rfl)]; exact o9, h9⟩
  | true =>
  have y : (((bt s (i + 1)).toNat : Int) == 45) = true := (beq_int (bt s (i + 1)) 45).trans hy
  have yn : (((bt s (i + 1)).toNat : Int) != 45) = !true := by
    have := bne_int (bt s (i + 1)) 45
    rw [hy] at this
    exact this
  have HY := Lib.hid hy; clear hy
  have Q1 : ∀ R', spanF s i f c = R' → (bt s (i + 1) != 45) = false := fun _ _ => by unfold bne; rw [HY.out]; rfl
  have Q2 := Lib.hid Q1; clear Q1
  by_cases k2 : s.size ≤ i + 2
  · go_wp2_with fail
    refine (at_out s i f 0 0 g _ o (i + 2) k2 (by omega)).mono ?_
    rintro e1 w1 ⟨rfl, o1, h1⟩
    obtain ⟨c1, f1⟩ := Slab.facts (o1)
    go_wp2_with fail
    refine (one_any s i f 2 s.size g _ o1 c (by omega)).mono ?_
    rintro e9 w9 ⟨rfl, o9, h9⟩
    go_wp2
    first | go_end0 | refine bodyPost_ret (results_none rfl _ _ _) rfl ?_
    exact ⟨rfl, by rw [← HR.out]; unfold spanF; rw [if_neg k1, if_neg (by rw [Q2.out _ rfl]; simp), if_pos k2]; exact ⟨_, _, o9⟩, h1.trans h9⟩
  go_wp2_with fail
  refine (at_in s i f 0 0 g _ o (i + 2) (by omega) (by omega)).mono ?_
  rintro e3 w3 ⟨rfl, rfl⟩
  cases hz : (bt s (i + 2) == 93) with
  | true =>
    have z : (((bt s (i + 2)).toNat : Int) == 93) = true := (beq_int (bt s (i + 2)) 93).trans hz
    have zn : (((bt s (i + 2)).toNat : Int) != 93) = !true := by
      have := bne_int (bt s (i + 2)) 93
      rw [hz] at this
      exact this
    have HZ := Lib.hid hz; clear hz
    go_wp2_with fail
    refine (one_any s i f 0 0 g _ o c (by omega)).mono ?_
    rintro e9 w9 ⟨rfl, o9, h9⟩
    go_wp2
    first | go_end0 | refine bodyPost_ret (results_none rfl _ _ _) rfl ?_
    exact ⟨rfl, by rw [← HR.out]; unfold spanF; rw [if_neg k1, if_neg (by rw [Q2.out _ rfl]; simp), if_neg k2, if_pos HZ.out]; exact o9, h9⟩
  | false =>
  have z : (((bt s (i + 2)).toNat : Int) == 93) = false := (beq_int (bt s (i + 2)) 93).trans hz
  have zn : (((bt s (i + 2)).toNat : Int) != 93) = !false := by
    have := bne_int (bt s (i + 2)) 93
    rw [hz] at this
    exact this
  have HZ := Lib.hid hz; clear hz
  have hd := (bt s (i + 2)).toNat_lt
  cases hl : decide ((bt s (i + 2)).toNat < c.toNat) with
  | true =>
    have k3 : (bt s (i + 2)).toNat < c.toNat := by simpa using hl
    have K3 := Lib.hid k3; clear k3
    go_wp2_with fail
    refine (fail_in s i f 0 0 g _ o 4 (i + 2 : Nat) (by omega) (by omega) (by omega)).mono ?_
    rintro e4 w4 ⟨rfl, o4, h4⟩
    go_wp2
    first | go_end0 | refine bodyPost_ret (results_none rfl _ _ _) rfl ?_
    exact ⟨rfl, by rw [← HR.out]; unfold spanF; rw [if_neg k1, if_neg (by rw [Q2.out _ rfl]; simp), if_neg k2, if_neg (by rw [HZ.out]; simp), if_pos K3.out]; exact ⟨_, _, o4⟩, h4⟩
  | false =>
  have k3 : ¬ (bt s (i + 2)).toNat < c.toNat := by simpa using hl
  have K3 := Lib.hid k3; clear k3
  cases hv : (bt s (i + 2) == 91) with
  | true =>
    have v : (((bt s (i + 2)).toNat : Int) == 91) = true := (beq_int (bt s (i + 2)) 91).trans hv
    have vn : (((bt s (i + 2)).toNat : Int) != 91) = !true := by
      have := bne_int (bt s (i + 2)) 91
      rw [hv] at this
      exact this
    have HV := Lib.hid hv; clear hv
    by_cases k4 : s.size ≤ i + 3
    · go_wp2_with fail
      refine (at_out s i f 0 0 g _ o (i + 3) k4 (by omega)).mono ?_
      rintro e1 w1 ⟨rfl, o1, h1⟩
      have H1 := Lib.hid h1; clear h1 c0 f0 o
      obtain ⟨c1, f1⟩ := Slab.facts (o1)
      go_wp2_with fail
      refine (marks_zero _).mono ?_
      rintro e5 w5 ⟨rfl, rfl⟩
      go_wp2_with fail
      go_region_with (first | (go_at_call 25; refine (range_any _ _ (by omega) (by omega) (by omega) (by omega) _).mono ?_; rintro e6 w6 ⟨rfl, hb6⟩; have o6 := o1.callD hb6 rfl; have h6 := (H1.out.drew).call hb6; clear hb6; obtain ⟨ca6, fa6⟩ := o6.facts) | (go_at_call 24; refine (or_any _ _ _).mono ?_; rintro e7 w7 ⟨rfl, hb7⟩; have o7 := o6.callD hb7 rfl; have h7 := h6.call hb7; clear hb7; obtain ⟨ca7, fa7⟩ := o7.facts))
      all_goals
        go_wp2
        first | go_end0 | refine bodyPost_ret (results_none rfl _ _ _) rfl ?_
        exact ⟨rfl, by rw [← HR.out]; unfold spanF; rw [if_neg k1, if_neg (by rw [Q2.out _ rfl]; simp), if_neg k2, if_neg (by rw [HZ.out]; simp), if_neg K3.out, if_pos (by rw [HV.out]; simpa using k4)]; exact ⟨_, _, RdAt.goto (RdAt.put o7 _) _⟩, (h7.put _ _ _ _).set 1 _⟩
    · go_wp2_with fail
      refine (at_in s i f 0 0 g _ o (i + 3) (by omega) (by omega)).mono ?_
      rintro e4 w4 ⟨rfl, rfl⟩
      go_wp2_with fail
      refine (marks_any (bt s (i + 3)) _).mono ?_
      rintro e5 w5 ⟨rfl, rfl⟩
      cases hm : marksB (bt s (i + 3)) with
      | true =>
        have HM := Lib.hid hm; clear hm
        go_wp2_with fail
        refine (fail_in s i f 0 0 g _ o 3 (i + 3 : Nat) (by omega) (by omega) (by omega)).mono ?_
        rintro e6 w6 ⟨rfl, o6, h6⟩
        go_wp2
        first | go_end0 | refine bodyPost_ret (results_none rfl _ _ _) rfl ?_
        exact ⟨rfl, by rw [← HR.out]; unfold spanF; rw [if_neg k1, if_neg (by rw [Q2.out _ rfl]; simp), if_neg k2, if_neg (by rw [HZ.out]; simp), if_neg K3.out, if_neg (by simp [k4]), if_pos (by rw [HV.out, HM.out]; rfl)]; exact ⟨_, _, o6⟩, h6⟩
      | false =>
        have HM := Lib.hid hm; clear hm
        have H1 := Lib.hid (Only.refl g w5)
        go_wp2_with fail
        go_region_with (first | (go_at_call 25; refine (range_any _ _ (by omega) (by omega) (by omega) (by omega) _).mono ?_; rintro e6 w6 ⟨rfl, hb6⟩; have o6 := o.callD hb6 rfl; have h6 := (H1.out.drew).call hb6; clear hb6; obtain ⟨ca6, fa6⟩ := o6.facts) | (go_at_call 24; refine (or_any _ _ _).mono ?_; rintro e7 w7 ⟨rfl, hb7⟩; have o7 := o6.callD hb7 rfl; have h7 := h6.call hb7; clear hb7; obtain ⟨ca7, fa7⟩ := o7.facts))
        all_goals
          go_wp2
          first | go_end0 | refine bodyPost_ret (results_none rfl _ _ _) rfl ?_
          exact ⟨rfl, by rw [← HR.out]; unfold spanF; rw [if_neg k1, if_neg (by rw [Q2.out _ rfl]; simp), if_neg k2, if_neg (by rw [HZ.out]; simp), if_neg K3.out, if_neg (by simp [k4]), if_neg (by rw [HM.out]; simp)]; exact RdAt.goto (RdAt.put o7 _) _, (h7.put _ _ _ _).set 1 _⟩
  | false =>
    have v : (((bt s (i + 2)).toNat : Int) == 91) = false := (beq_int (bt s (i + 2)) 91).trans hv
    have vn : (((bt s (i + 2)).toNat : Int) != 91) = !false := by
      have := bne_int (bt s (i + 2)) 91
      rw [hv] at this
      exact this
    have HV := Lib.hid hv; clear hv
    have H1 := Lib.hid (Only.refl g w3)
    go_wp2_with fail
    go_region_with (first | (go_at_call 25; refine (range_any _ _ (by omega) (by omega) (by omega) (by omega) _).mono ?_; rintro e6 w6 ⟨rfl, hb6⟩; have o6 := o.callD hb6 rfl; have h6 := (H1.out.drew).call hb6; clear hb6; obtain ⟨ca6, fa6⟩ := o6.facts) | (go_at_call 24; refine (or_any _ _ _).mono ?_; rintro e7 w7 ⟨rfl, hb7⟩; have o7 := o6.callD hb7 rfl; have h7 := h6.call hb7; clear hb7; obtain ⟨ca7, fa7⟩ := o7.facts))
    all_goals
      go_wp2
      first | go_end0 | refine bodyPost_ret (results_none rfl _ _ _) rfl ?_
      exact ⟨rfl, by rw [← HR.out]; unfold spanF; rw [if_neg k1, if_neg (by rw [Q2.out _ rfl]; simp), if_neg k2, if_neg (by rw [HZ.out]; simp), if_neg K3.out, if_neg (by rw [HV.out]; simp), if_neg (by rw [HV.out]; simp)]; exact RdAt.goto (RdAt.put o7 _) _, (h7.put _ _ _ _).set 1 _⟩

set_option maxRecDepth 100000 in
set_option maxHeartbeats 2000000 in
theorem span_short (s : ByteArray) (i : Nat) (f : Nat → Bool) (e p : Int) (g : Nat) (w : World) (o : RdAt w g s i f e p) (c : UInt8) (k1 : s.size ≤ i + 1) (hi : i < s.size) (hs : s.size ≤ 4611686018427387000) :
    Calls Try.prog 69 #[rp g, .int .u8 (c.toNat : Int)] w fun e w' => Unit0 e ∧ ResAt s (.bad 2 s.size) g w' ∧ Only g w w' := by
  have hc := c.toNat_lt
  obtain ⟨c0, f0⟩ := Slab.facts (o)
  go_enter Try.func69, Try.ntmps69
  go_wp2_with fail
  refine (at_out s i f e p g _ o (i + 1) k1 (by omega)).mono ?_
  rintro e1 w1 ⟨rfl, o1, h1⟩
  obtain ⟨c1, f1⟩ := Slab.facts (o1)
  go_wp2_with fail
  refine (one_any s i f 2 s.size g _ o1 c (by omega)).mono ?_
  rintro e9 w9 ⟨rfl, o9, h9⟩
  go_wp2
  first | go_end0 | refine bodyPost_ret (results_none rfl _ _ _) rfl ?_
  exact ⟨rfl, ⟨_, _, o9⟩, h1.trans h9⟩
set_option maxRecDepth 100000 in
set_option maxHeartbeats 2000000 in
theorem thing_any (s : ByteArray) (i : Nat) (f : Nat → Bool) (g : Nat) (w : World) (o : RdAt w g s i f 0 0) (hi : i < s.size) (hs : s.size ≤ 4611686018427387000) :
    Calls Try.prog 60 #[rp g, .int .u8 ((bt s i).toNat : Int)] w fun e w' => Unit0 e ∧ ResAt s (thingF s i f) g w' ∧ Only g w w' := by
  have hc := (bt s i).toNat_lt
  obtain ⟨R, hR⟩ : ∃ R, thingF s i f = R := ⟨_, rfl⟩
  rw [hR]
  have HR := Lib.hid hR; clear hR
  obtain ⟨c0, f0⟩ := Slab.facts (o)
  go_enter Try.func60, Try.ntmps60
  cases hv : (bt s i == 91) with
  | false =>
    have v : (((bt s i).toNat : Int) == 91) = false := (beq_int (bt s i) 91).trans hv
    have vn : (((bt s i).toNat : Int) != 91) = !false := by
      have := bne_int (bt s i) 91
      rw [hv] at this
      exact this
    have HV := Lib.hid hv; clear hv
    go_wp2_with fail
    refine (span_any s i f g _ o (bt s i) hi hs).mono ?_
    rintro e1 w1 ⟨rfl, r1, h1⟩
    have R1 := Lib.hid r1; clear r1
    go_wp2
    first | go_end0 | refine bodyPost_ret (results_none rfl _ _ _) rfl ?_
    exact ⟨rfl, by rw [← HR.out]; unfold thingF; rw [if_neg (by rw [HV.out]; simp)]; exact R1.out, h1⟩
  | true =>
  have v : (((bt s i).toNat : Int) == 91) = true := (beq_int (bt s i) 91).trans hv
  have vn : (((bt s i).toNat : Int) != 91) = !true := by
    have := bne_int (bt s i) 91
    rw [hv] at this
    exact this
  have e91 : bt s i = 91 := by simpa using hv
  have HV := Lib.hid hv; clear hv
  have e91n : ((bt s i).toNat : Int) = 91 := by rw [e91]; rfl
  have E91 := Lib.hid e91; clear e91
  have hin : thingF s i f = if s.size ≤ i + 1 then .bad 2 s.size else if bt s (i + 1) == 58 then classGo s (i + 2) f (i + 2) else if marksB (bt s (i + 1)) then .bad 3 (i + 2) else spanF s i f 91 := by
    unfold thingF; rw [if_pos HV.out]
  have HIN := Lib.hid hin; clear hin
  have E91N := Lib.hid e91n; clear e91n
  have C : ∀ W, RdAt W g s i f 0 0 → Calls Try.prog 69 #[rp g, .int .u8 ((bt s i).toNat : Int)] W fun e w' => Unit0 e ∧ ResAt s (spanF s i f 91) g w' ∧ Only g W w' := fun W oW => by
    have := span_any s i f g W oW 91 hi hs
    rw [E91N.out]; exact this
  have HC := Lib.hid C; clear C
  by_cases k1 : s.size ≤ i + 1
  · go_wp2_with fail
    refine (at_out s i f 0 0 g _ o (i + 1) k1 (by omega)).mono ?_
    rintro e1 w1 ⟨rfl, o1, h1⟩
    have H1 := Lib.hid h1; clear h1 c0 f0 o
    go_wp2_with fail
    refine (marks_zero _).mono ?_
    rintro e5 w5 ⟨rfl, rfl⟩
    go_wp2_with fail
    refine (span_short s i f 2 s.size g _ o1 (bt s i) k1 hi hs).mono ?_
    rintro e6 w6 ⟨rfl, r6, h6⟩
    have R6 := Lib.hid r6; clear r6
    go_wp2
    first | go_end0 | refine bodyPost_ret (results_none rfl _ _ _) rfl ?_
    exact ⟨rfl, by rw [← HR.out, HIN.out, if_pos k1]; exact R6.out, H1.out.trans h6⟩
  go_wp2_with fail
  refine (at_in s i f 0 0 g _ o (i + 1) (by omega) (by omega)).mono ?_
  rintro e2 w2 ⟨rfl, rfl⟩
  cases hz : (bt s (i + 1) == 58) with
  | true =>
    have z : (((bt s (i + 1)).toNat : Int) == 58) = true := (beq_int (bt s (i + 1)) 58).trans hz
    have zn : (((bt s (i + 1)).toNat : Int) != 58) = !true := by
      have := bne_int (bt s (i + 1)) 58
      rw [hz] at this
      exact this
    have HZ := Lib.hid hz; clear hz
    go_wp2_with fail
    refine (class_any s i f g _ o hi hs).mono ?_
    rintro e6 w6 ⟨rfl, r6, h6⟩
    have R6 := Lib.hid r6; clear r6
    go_wp2
    first | go_end0 | refine bodyPost_ret (results_none rfl _ _ _) rfl ?_
    exact ⟨rfl, by rw [← HR.out, HIN.out, if_neg k1, if_pos HZ.out]; exact R6.out, h6⟩
  | false =>
    have z : (((bt s (i + 1)).toNat : Int) == 58) = false := (beq_int (bt s (i + 1)) 58).trans hz
    have zn : (((bt s (i + 1)).toNat : Int) != 58) = !false := by
      have := bne_int (bt s (i + 1)) 58
      rw [hz] at this
      exact this
    have HZ := Lib.hid hz; clear hz
    go_wp2_with fail
    refine (marks_any (bt s (i + 1)) _).mono ?_
    rintro e5 w5 ⟨rfl, rfl⟩
    cases hm : marksB (bt s (i + 1)) with
    | true =>
      have HM := Lib.hid hm; clear hm
      go_wp2_with fail
      refine (fail_in s i f 0 0 g _ o 3 (i + 1 : Nat) (by omega) (by omega) (by omega)).mono ?_
      rintro e6 w6 ⟨rfl, o6, h6⟩
      go_wp2
      first | go_end0 | refine bodyPost_ret (results_none rfl _ _ _) rfl ?_
      exact ⟨rfl, by rw [← HR.out, HIN.out, if_neg k1, if_neg (by rw [HZ.out]; simp), if_pos HM.out]; exact ⟨_, _, o6⟩, h6⟩
    | false =>
      have HM := Lib.hid hm; clear hm
      go_wp2_with fail
      refine (HC.out _ o).mono ?_
      rintro e6 w6 ⟨rfl, r6, h6⟩
      have R6 := Lib.hid r6; clear r6
      go_wp2
      first | go_end0 | refine bodyPost_ret (results_none rfl _ _ _) rfl ?_
      exact ⟨rfl, by rw [← HR.out, HIN.out, if_neg k1, if_neg (by rw [HZ.out]; simp), if_neg (by rw [HM.out]; simp)]; exact R6.out, h6⟩
end Go.Proofs.Ythppilfojicfdaa
