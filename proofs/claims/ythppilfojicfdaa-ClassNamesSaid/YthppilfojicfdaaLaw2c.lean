/- ClassNames, walked. -/
import Derived.Test.YthppilfojicfdaaProg
import Derived.WalkKit
import Derived.WalkSpells
import Derived.WalkLawsBesides
import Derived.Handy
import Derived.Lib.Hide
import Derived.Test.YthppilfojicfdaaLaw2
import Derived.IntWalk
import Derived.BigQuiet
namespace Go.Proofs.Ythppilfojicfdaa
open Go.RowKit SetP Go.Sort
attribute [local go_sem] run_eq_set run_eq_set0

theorem beginsF_cut (k : Nat) (hk : k < 12) (c : Nat) (hc : c ≤ (nm k).size) : beginsF ((nm k).extract 0 c) = true := by
  refine List.any_eq_true.2 ⟨k, by simpa using hk, ?_⟩
  unfold hpF
  have e : ((nm k).extract 0 c).size = c := by simp; omega
  rw [e]
  simp [hc]
theorem findF_cls : ∀ k, k < 12 → findF (cls k) = nm k := by
  have H : ∀ k, k < 12 → (List.range 12).find? (fun j => same (cls j) (cls k)) = some k := by decide +kernel
  intro k hk
  unfold findF
  rw [H k hk]
def orF08 : Nat → Bool := fun x => cls 0 x || cls 8 x
def andF08 : Nat → Bool := fun x => cls 0 x && cls 8 x
def lessF (k : Nat) : Nat → Bool := fun x => cls k x && !rangeF 0 255 x
theorem or08 : same orF08 (cls 5) = true := by decide +kernel
theorem and08 : same andF08 (fun _ => false) = true := by decide +kernel
theorem less_all (k : Nat) : same (lessF k) (fun _ => false) = true := same_iff.2 fun x hx => by
  have : rangeF 0 255 x = true := by unfold rangeF; simp; omega
  simp [lessF, this]
theorem or08_any (w : World) : Calls Try.prog 24 #[setV (cls 0), setV (cls 8)] w fun e w' => e = .returned (setV orF08) ∧ Below w.heap.size w w' := or_any _ _ w
theorem and08_any (w : World) : Calls Try.prog 32 #[setV (cls 0), setV (cls 8)] w fun e w' => e = .returned (setV andF08) ∧ Below w.heap.size w w' := and_any _ _ w
theorem lessk_any (k : Nat) (w : World) : Calls Try.prog 33 #[setV (cls k), setV (rangeF 0 255)] w fun e w' => e = .returned (setV (lessF k)) ∧ Below w.heap.size w w' := less_any _ _ w
theorem ofk_any (k : Nat) (hk : k < 12) (w : World) : Calls Try.prog 37 #[.string (nm k)] w fun e w' => e = .returned (.tuple #[setV (cls k), .bool true]) ∧ Below w.heap.size w w' := by
  have h := of_any (nm k) w
  rw [ofV_nm k hk] at h
  exact h
theorem findk_any (k : Nat) (hk : k < 12) (w : World) : Calls Try.prog 41 #[setV (cls k)] w fun e w' => e = .returned (.string (nm k)) ∧ Below w.heap.size w w' := by
  have h := find_any (cls k) w
  rw [findF_cls k hk] at h
  exact h
/-- All names, as a slice. -/
def NamesAt (w : World) (g : Nat) : Prop := g < w.heap.size ∧ ∀ j, j < 12 → w.cell? ⟨g, j, none⟩ = some (.string (nm j))
theorem NamesAt.below {w w' : World} {g B : Nat} (h : NamesAt w g) (hb : Below B w w') (hg : g < B) : NamesAt w' g := ⟨Nat.lt_of_lt_of_le h.1 hb.size, fun j hj => (hb.cell (p := ⟨g, j, none⟩) hg).trans (h.2 j hj)⟩
theorem NamesAt.call {w w' : World} {g : Nat} (h : NamesAt w g) (hb : Below w.heap.size w w') : NamesAt w' g := h.below hb h.1
theorem NamesAt.alloc {w : World} {g : Nat} (h : NamesAt w g) (o : Obj) : NamesAt (w.alloc o) g := h.call ((Below.refl _ _).alloc (Nat.le_refl _) _)
theorem names_at (w : World) : Calls Try.prog 43 #[] w fun e w' => ∃ g c, e = .returned (.slice (some ⟨g, 0, none⟩) 12 c) ∧ NamesAt w' g ∧ Below w.heap.size w w' :=
  (names_any w).mono fun _ w' ⟨A, c, he, ho, hb⟩ => by
    obtain ⟨g, rfl, _, hg, _, hc⟩ := row_cell ho (by omega)
    exact ⟨g, c, he, ⟨hg, fun j hj => by rw [hc j (by omega)]; simp [nmL, hj]⟩, hb⟩

theorem nm_less (k : Nat) (hk : k < 12) (h0 : 0 < k) : (!Op.bytesLess (nm (k - 1)).toList (nm k).toList) = false := by
  have H : ∀ k, k < 12 → 0 < k → (!Op.bytesLess (nm (k - 1)).data.toList (nm k).data.toList) = false := by decide +kernel
  rw [ByteArray.toList_eq, ByteArray.toList_eq]
  exact H k hk h0
set_option maxRecDepth 100000 in
set_option maxHeartbeats 4000000 in
theorem names_pos (k : Nat) (hk : k < 12) (h0 : 0 < k) (cut : Int) (hc0 : -9223372036854775808 ≤ cut) (hc1 : cut ≤ 9223372036854775807) (w : World) : Calls Try.prog 9 #[.int .i64 k, .int .i64 cut] w fun e w' => e = .returned (.bool true) ∧ Below w.heap.size w w' := by
  go_enter Try.func9, Try.ntmps9
  go_wp2_with fail
  refine (names_at _).mono ?_
  rintro e1 w1 ⟨g, c, rfl, hN, hb1⟩
  have hcell := hN.2 k hk
  go_wp2_with fail
  refine (ofk_any k hk _).mono ?_
  rintro e2 w2 ⟨rfl, hb2⟩
  have o1 : Slab (w2.alloc (.cells (cells4 (cls k)) 24)) w2.heap.size (cells4 (cls k)) 24 := Slab.new _ _ _
  have N1 := (hN.call hb2).alloc (.cells (cells4 (cls k)) 24)
  have HB1' := below_then hb1 hb2
  have HB1 := Lib.hid (HB1'.alloc HB1'.size (.cells (cells4 (cls k)) 24))
  clear hb1 hb2 HB1' hN hcell
  have hq : ∀ d os i, (grow (redrawn (w2.alloc (.cells (cells4 (cls k)) 24)) d) os).cell? _ = _ := fun d os i => (o1.below (below_regrown _ d os) o1.lt).cell i
  have hcell : ∀ d os, (grow (redrawn (w2.alloc (.cells (cells4 (cls k)) 24)) d) os).cell? _ = _ := fun d os => (N1.below (below_regrown _ d os) N1.1).2 k hk
  go_wp2_with fail
  have hcell2 : ∀ d os, (grow (redrawn (w2.alloc (.cells (cells4 (cls k)) 24)) d) os).cell? _ = _ := fun d os => (N1.below (below_regrown _ d os) N1.1).2 (k - 1) (by omega)
  have d0 : decide (0 < k) = true := by simpa using h0
  have d1 := nm_less k hk h0
  have x0 : IntKind.i64.wrap ((k : Int) - 1) = (k : Int) - 1 := IntWalk.i64_in _ (by omega)
  have x1 : 0 ≤ (k : Int) - 1 := by omega
  have x2 : ((k : Int) - 1).toNat = k - 1 := by omega
  have x3 : 1 ≤ (k : Int) := by omega
  have x4 : (k : Int) - 1 < 12 := by omega
  have x5 : (k : Int) < 12 + 1 := by omega
  have x6 : (k : Int) < 13 := by omega
  refine wp_region_quiet_below (by kernel_rfl) (by kernel_rfl) ?_
  repeat (first | go_big_quiet_step ((first | (go_at_call 41; exact Calls.regrown_of (findk_any k hk _)))) | quiet_step ((first | (go_at_call 41; exact Calls.regrown_of (findk_any k hk _)))))
  refine wpQuiet_nil ?_
  intro _ hw'
  obtain ⟨⟨qd, qos⟩, hw''⟩ := hw'
  subst hw''
  clear x0 x1 x2 x3 x4 x5 x6 hcell2
  have hbq := below_regrown (w2.alloc (.cells (cells4 (cls k)) 24)) qd qos
  have o1' := o1.call hbq
  have N2 := N1.call hbq
  have HB2 := Lib.hid (below_then HB1.out hbq)
  clear hbq o1 N1 HB1 hq hcell
  generalize hg : grow (redrawn (w2.alloc (.cells (cells4 (cls k)) 24)) qd) qos = W2 at *
  clear hg
  generalize hg : w2.heap.size = g2 at *
  clear hg
  cases c0 : decide (0 ≤ cut) with
  | false =>
    have HB1 := HB2
    have o1 := o1'
    clear HB2 o1' N2
    go_wp2_with fail
    refine (ofk_any 0 (by decide) _).mono ?_
    rintro e2 w2 ⟨rfl, hb2⟩
    have p0 := (o1.call hb2).alloc (.cells (cells4 (cls 0)) 24)
    have q0 : Slab (w2.alloc (.cells (cells4 (cls 0)) 24)) w2.heap.size (cells4 (cls 0)) 24 := Slab.new _ _ _
    have HB2' := below_then HB1.out hb2
    have HB2 := Lib.hid (HB2'.alloc HB2'.size (.cells (cells4 (cls 0)) 24))
    clear hb2 HB2' HB1 o1
    go_wp2_with fail
    refine (ofk_any 8 (by decide) _).mono ?_
    rintro e3 w3 ⟨rfl, hb3⟩
    have p1 := (p0.call hb3).alloc (.cells (cells4 (cls 8)) 24)
    have q1 := (q0.call hb3).alloc (.cells (cells4 (cls 8)) 24)
    have r1 : Slab (w3.alloc (.cells (cells4 (cls 8)) 24)) w3.heap.size (cells4 (cls 8)) 24 := Slab.new _ _ _
    have HB3' := below_then HB2.out hb3
    have HB3 := Lib.hid (HB3'.alloc HB3'.size (.cells (cells4 (cls 8)) 24))
    clear hb3 HB3' HB2 p0 q0
    go_wp2_with fail
    refine (ofk_any 5 (by decide) _).mono ?_
    rintro e4 w4 ⟨rfl, hb4⟩
    have p2 := (p1.call hb4).alloc (.cells (cells4 (cls 5)) 24)
    have q2 := (q1.call hb4).alloc (.cells (cells4 (cls 5)) 24)
    have r2 := (r1.call hb4).alloc (.cells (cells4 (cls 5)) 24)
    have s2 : Slab (w4.alloc (.cells (cells4 (cls 5)) 24)) w4.heap.size (cells4 (cls 5)) 24 := Slab.new _ _ _
    have HB4' := below_then HB3.out hb4
    have HB4 := Lib.hid (HB4'.alloc HB4'.size (.cells (cells4 (cls 5)) 24))
    clear hb4 HB4' HB3 p1 q1 r1
    go_wp2_with fail
    have hp : ∀ d os i, (grow (redrawn (w4.alloc (.cells (cells4 (cls 5)) 24)) d) os).cell? _ = _ := fun d os i => (p2.below (below_regrown _ d os) p2.lt).cell i
    have hq : ∀ d os i, (grow (redrawn (w4.alloc (.cells (cells4 (cls 5)) 24)) d) os).cell? _ = _ := fun d os i => (q2.below (below_regrown _ d os) q2.lt).cell i
    have hr : ∀ d os i, (grow (redrawn (w4.alloc (.cells (cells4 (cls 5)) 24)) d) os).cell? _ = _ := fun d os i => (r2.below (below_regrown _ d os) r2.lt).cell i
    have hs : ∀ d os i, (grow (redrawn (w4.alloc (.cells (cells4 (cls 5)) 24)) d) os).cell? _ = _ := fun d os i => (s2.below (below_regrown _ d os) s2.lt).cell i
    clear p2 q2 r2 s2
    have t1 := or08
    have t2 := and08
    have t3 := less_all k
    refine wp_region_quiet_below (by kernel_rfl) (by kernel_rfl) ?_
    repeat (first | go_big_quiet_step ((first | (go_at_call 24; exact Calls.regrown_of (or08_any _)) | (go_at_call 32; exact Calls.regrown_of (and08_any _)) | (go_at_call 44; exact Calls.regrown_of (anyset_any _)) | (go_at_call 33; exact Calls.regrown_of (lessk_any _ _)) | (go_at_call 36; exact Calls.regrown_of (sure2_any _)))) | quiet_step ((first | (go_at_call 24; exact Calls.regrown_of (or08_any _)) | (go_at_call 32; exact Calls.regrown_of (and08_any _)) | (go_at_call 44; exact Calls.regrown_of (anyset_any _)) | (go_at_call 33; exact Calls.regrown_of (lessk_any _ _)) | (go_at_call 36; exact Calls.regrown_of (sure2_any _)))))
    refine wpQuiet_nil ?_
    intro _ hw'
    obtain ⟨⟨qd, qos⟩, hw''⟩ := hw'
    subst hw''
    have hb := below_then HB4.out (below_regrown _ qd qos)
    go_wp2
    go_ret
    exact ⟨rfl, hb⟩
  | true =>
  have hcell := N2.2 k hk
  cases c1 : decide (cut ≤ ((nm k).size : Int)) with
  | false =>
    have HB1 := HB2
    have o1 := o1'
    clear HB2 o1' N2
    go_wp2_with fail
    refine (ofk_any 0 (by decide) _).mono ?_
    rintro e2 w2 ⟨rfl, hb2⟩
    have p0 := (o1.call hb2).alloc (.cells (cells4 (cls 0)) 24)
    have q0 : Slab (w2.alloc (.cells (cells4 (cls 0)) 24)) w2.heap.size (cells4 (cls 0)) 24 := Slab.new _ _ _
    have HB2' := below_then HB1.out hb2
    have HB2 := Lib.hid (HB2'.alloc HB2'.size (.cells (cells4 (cls 0)) 24))
    clear hb2 HB2' HB1 o1
    go_wp2_with fail
    refine (ofk_any 8 (by decide) _).mono ?_
    rintro e3 w3 ⟨rfl, hb3⟩
    have p1 := (p0.call hb3).alloc (.cells (cells4 (cls 8)) 24)
    have q1 := (q0.call hb3).alloc (.cells (cells4 (cls 8)) 24)
    have r1 : Slab (w3.alloc (.cells (cells4 (cls 8)) 24)) w3.heap.size (cells4 (cls 8)) 24 := Slab.new _ _ _
    have HB3' := below_then HB2.out hb3
    have HB3 := Lib.hid (HB3'.alloc HB3'.size (.cells (cells4 (cls 8)) 24))
    clear hb3 HB3' HB2 p0 q0
    go_wp2_with fail
    refine (ofk_any 5 (by decide) _).mono ?_
    rintro e4 w4 ⟨rfl, hb4⟩
    have p2 := (p1.call hb4).alloc (.cells (cells4 (cls 5)) 24)
    have q2 := (q1.call hb4).alloc (.cells (cells4 (cls 5)) 24)
    have r2 := (r1.call hb4).alloc (.cells (cells4 (cls 5)) 24)
    have s2 : Slab (w4.alloc (.cells (cells4 (cls 5)) 24)) w4.heap.size (cells4 (cls 5)) 24 := Slab.new _ _ _
    have HB4' := below_then HB3.out hb4
    have HB4 := Lib.hid (HB4'.alloc HB4'.size (.cells (cells4 (cls 5)) 24))
    clear hb4 HB4' HB3 p1 q1 r1
    go_wp2_with fail
    have hp : ∀ d os i, (grow (redrawn (w4.alloc (.cells (cells4 (cls 5)) 24)) d) os).cell? _ = _ := fun d os i => (p2.below (below_regrown _ d os) p2.lt).cell i
    have hq : ∀ d os i, (grow (redrawn (w4.alloc (.cells (cells4 (cls 5)) 24)) d) os).cell? _ = _ := fun d os i => (q2.below (below_regrown _ d os) q2.lt).cell i
    have hr : ∀ d os i, (grow (redrawn (w4.alloc (.cells (cells4 (cls 5)) 24)) d) os).cell? _ = _ := fun d os i => (r2.below (below_regrown _ d os) r2.lt).cell i
    have hs : ∀ d os i, (grow (redrawn (w4.alloc (.cells (cells4 (cls 5)) 24)) d) os).cell? _ = _ := fun d os i => (s2.below (below_regrown _ d os) s2.lt).cell i
    clear p2 q2 r2 s2
    have t1 := or08
    have t2 := and08
    have t3 := less_all k
    refine wp_region_quiet_below (by kernel_rfl) (by kernel_rfl) ?_
    repeat (first | go_big_quiet_step ((first | (go_at_call 24; exact Calls.regrown_of (or08_any _)) | (go_at_call 32; exact Calls.regrown_of (and08_any _)) | (go_at_call 44; exact Calls.regrown_of (anyset_any _)) | (go_at_call 33; exact Calls.regrown_of (lessk_any _ _)) | (go_at_call 36; exact Calls.regrown_of (sure2_any _)))) | quiet_step ((first | (go_at_call 24; exact Calls.regrown_of (or08_any _)) | (go_at_call 32; exact Calls.regrown_of (and08_any _)) | (go_at_call 44; exact Calls.regrown_of (anyset_any _)) | (go_at_call 33; exact Calls.regrown_of (lessk_any _ _)) | (go_at_call 36; exact Calls.regrown_of (sure2_any _)))))
    refine wpQuiet_nil ?_
    intro _ hw'
    obtain ⟨⟨qd, qos⟩, hw''⟩ := hw'
    subst hw''
    have hb := below_then HB4.out (below_regrown _ qd qos)
    go_wp2
    go_ret
    exact ⟨rfl, hb⟩
  | true =>
  simp at c0 c1
  obtain ⟨c, rfl⟩ := Int.eq_ofNat_of_zero_le c0
  have CB := begins_any ((nm k).extract 0 c) (by have := nm_size k; simp; omega)
  rw [beginsF_cut k hk c (by omega)] at CB
  go_wp2_with fail
  refine (CB _).mono ?_
  rintro e5 w5 ⟨rfl, hb5⟩
  have HB1 := Lib.hid (below_then HB2.out hb5)
  have o1 := o1'.call hb5
  clear HB2 o1' N2 hb5 hcell
  go_wp2_with fail
  refine (ofk_any 0 (by decide) _).mono ?_
  rintro e2 w2 ⟨rfl, hb2⟩
  have p0 := (o1.call hb2).alloc (.cells (cells4 (cls 0)) 24)
  have q0 : Slab (w2.alloc (.cells (cells4 (cls 0)) 24)) w2.heap.size (cells4 (cls 0)) 24 := Slab.new _ _ _
  have HB2' := below_then HB1.out hb2
  have HB2 := Lib.hid (HB2'.alloc HB2'.size (.cells (cells4 (cls 0)) 24))
  clear hb2 HB2' HB1 o1
  go_wp2_with fail
  refine (ofk_any 8 (by decide) _).mono ?_
  rintro e3 w3 ⟨rfl, hb3⟩
  have p1 := (p0.call hb3).alloc (.cells (cells4 (cls 8)) 24)
  have q1 := (q0.call hb3).alloc (.cells (cells4 (cls 8)) 24)
  have r1 : Slab (w3.alloc (.cells (cells4 (cls 8)) 24)) w3.heap.size (cells4 (cls 8)) 24 := Slab.new _ _ _
  have HB3' := below_then HB2.out hb3
  have HB3 := Lib.hid (HB3'.alloc HB3'.size (.cells (cells4 (cls 8)) 24))
  clear hb3 HB3' HB2 p0 q0
  go_wp2_with fail
  refine (ofk_any 5 (by decide) _).mono ?_
  rintro e4 w4 ⟨rfl, hb4⟩
  have p2 := (p1.call hb4).alloc (.cells (cells4 (cls 5)) 24)
  have q2 := (q1.call hb4).alloc (.cells (cells4 (cls 5)) 24)
  have r2 := (r1.call hb4).alloc (.cells (cells4 (cls 5)) 24)
  have s2 : Slab (w4.alloc (.cells (cells4 (cls 5)) 24)) w4.heap.size (cells4 (cls 5)) 24 := Slab.new _ _ _
  have HB4' := below_then HB3.out hb4
  have HB4 := Lib.hid (HB4'.alloc HB4'.size (.cells (cells4 (cls 5)) 24))
  clear hb4 HB4' HB3 p1 q1 r1
  go_wp2_with fail
  have hp : ∀ d os i, (grow (redrawn (w4.alloc (.cells (cells4 (cls 5)) 24)) d) os).cell? _ = _ := fun d os i => (p2.below (below_regrown _ d os) p2.lt).cell i
  have hq : ∀ d os i, (grow (redrawn (w4.alloc (.cells (cells4 (cls 5)) 24)) d) os).cell? _ = _ := fun d os i => (q2.below (below_regrown _ d os) q2.lt).cell i
  have hr : ∀ d os i, (grow (redrawn (w4.alloc (.cells (cells4 (cls 5)) 24)) d) os).cell? _ = _ := fun d os i => (r2.below (below_regrown _ d os) r2.lt).cell i
  have hs : ∀ d os i, (grow (redrawn (w4.alloc (.cells (cells4 (cls 5)) 24)) d) os).cell? _ = _ := fun d os i => (s2.below (below_regrown _ d os) s2.lt).cell i
  clear p2 q2 r2 s2
  have t1 := or08
  have t2 := and08
  have t3 := less_all k
  refine wp_region_quiet_below (by kernel_rfl) (by kernel_rfl) ?_
  repeat (first | go_big_quiet_step ((first | (go_at_call 24; exact Calls.regrown_of (or08_any _)) | (go_at_call 32; exact Calls.regrown_of (and08_any _)) | (go_at_call 44; exact Calls.regrown_of (anyset_any _)) | (go_at_call 33; exact Calls.regrown_of (lessk_any _ _)) | (go_at_call 36; exact Calls.regrown_of (sure2_any _)))) | quiet_step ((first | (go_at_call 24; exact Calls.regrown_of (or08_any _)) | (go_at_call 32; exact Calls.regrown_of (and08_any _)) | (go_at_call 44; exact Calls.regrown_of (anyset_any _)) | (go_at_call 33; exact Calls.regrown_of (lessk_any _ _)) | (go_at_call 36; exact Calls.regrown_of (sure2_any _)))))
  refine wpQuiet_nil ?_
  intro _ hw'
  obtain ⟨⟨qd, qos⟩, hw''⟩ := hw'
  subst hw''
  have hb := below_then HB4.out (below_regrown _ qd qos)
  go_wp2
  go_ret
  exact ⟨rfl, hb⟩
set_option maxRecDepth 100000 in
set_option maxHeartbeats 4000000 in
theorem names_zero (cut : Int) (hc0 : -9223372036854775808 ≤ cut) (hc1 : cut ≤ 9223372036854775807) (w : World) : Calls Try.prog 9 #[.int .i64 0, .int .i64 cut] w fun e w' => e = .returned (.bool true) ∧ Below w.heap.size w w' := by
  go_enter Try.func9, Try.ntmps9
  go_wp2_with fail
  refine (names_at _).mono ?_
  rintro e1 w1 ⟨g, c, rfl, hN, hb1⟩
  have hcell := hN.2 0 (by decide)
  go_wp2_with fail
  refine (ofk_any 0 (by decide) _).mono ?_
  rintro e2 w2 ⟨rfl, hb2⟩
  have o1 : Slab (w2.alloc (.cells (cells4 (cls 0)) 24)) w2.heap.size (cells4 (cls 0)) 24 := Slab.new _ _ _
  have N1 := (hN.call hb2).alloc (.cells (cells4 (cls 0)) 24)
  have HB1' := below_then hb1 hb2
  have HB1 := Lib.hid (HB1'.alloc HB1'.size (.cells (cells4 (cls 0)) 24))
  clear hb1 hb2 HB1' hN hcell
  have hq : ∀ d os i, (grow (redrawn (w2.alloc (.cells (cells4 (cls 0)) 24)) d) os).cell? _ = _ := fun d os i => (o1.below (below_regrown _ d os) o1.lt).cell i
  have hcell : ∀ d os, (grow (redrawn (w2.alloc (.cells (cells4 (cls 0)) 24)) d) os).cell? _ = _ := fun d os => (N1.below (below_regrown _ d os) N1.1).2 0 (by decide)
  go_wp2_with fail
  refine wp_region_quiet_below (by kernel_rfl) (by kernel_rfl) ?_
  repeat (first | go_big_quiet_step ((first | (go_at_call 41; exact Calls.regrown_of (findk_any 0 (by decide) _)))) | quiet_step ((first | (go_at_call 41; exact Calls.regrown_of (findk_any 0 (by decide) _)))))
  refine wpQuiet_nil ?_
  intro _ hw'
  obtain ⟨⟨qd, qos⟩, hw''⟩ := hw'
  subst hw''
  have hbq := below_regrown (w2.alloc (.cells (cells4 (cls 0)) 24)) qd qos
  have o1' := o1.call hbq
  have N2 := N1.call hbq
  have HB2 := Lib.hid (below_then HB1.out hbq)
  clear hbq o1 N1 HB1 hq hcell
  generalize hg : grow (redrawn (w2.alloc (.cells (cells4 (cls 0)) 24)) qd) qos = W2 at *
  clear hg
  generalize hg : w2.heap.size = g2 at *
  clear hg
  cases c0 : decide (0 ≤ cut) with
  | false =>
    have HB1 := HB2
    have o1 := o1'
    clear HB2 o1' N2
    go_wp2_with fail
    refine (ofk_any 0 (by decide) _).mono ?_
    rintro e2 w2 ⟨rfl, hb2⟩
    have p0 := (o1.call hb2).alloc (.cells (cells4 (cls 0)) 24)
    have q0 : Slab (w2.alloc (.cells (cells4 (cls 0)) 24)) w2.heap.size (cells4 (cls 0)) 24 := Slab.new _ _ _
    have HB2' := below_then HB1.out hb2
    have HB2 := Lib.hid (HB2'.alloc HB2'.size (.cells (cells4 (cls 0)) 24))
    clear hb2 HB2' HB1 o1
    go_wp2_with fail
    refine (ofk_any 8 (by decide) _).mono ?_
    rintro e3 w3 ⟨rfl, hb3⟩
    have p1 := (p0.call hb3).alloc (.cells (cells4 (cls 8)) 24)
    have q1 := (q0.call hb3).alloc (.cells (cells4 (cls 8)) 24)
    have r1 : Slab (w3.alloc (.cells (cells4 (cls 8)) 24)) w3.heap.size (cells4 (cls 8)) 24 := Slab.new _ _ _
    have HB3' := below_then HB2.out hb3
    have HB3 := Lib.hid (HB3'.alloc HB3'.size (.cells (cells4 (cls 8)) 24))
    clear hb3 HB3' HB2 p0 q0
    go_wp2_with fail
    refine (ofk_any 5 (by decide) _).mono ?_
    rintro e4 w4 ⟨rfl, hb4⟩
    have p2 := (p1.call hb4).alloc (.cells (cells4 (cls 5)) 24)
    have q2 := (q1.call hb4).alloc (.cells (cells4 (cls 5)) 24)
    have r2 := (r1.call hb4).alloc (.cells (cells4 (cls 5)) 24)
    have s2 : Slab (w4.alloc (.cells (cells4 (cls 5)) 24)) w4.heap.size (cells4 (cls 5)) 24 := Slab.new _ _ _
    have HB4' := below_then HB3.out hb4
    have HB4 := Lib.hid (HB4'.alloc HB4'.size (.cells (cells4 (cls 5)) 24))
    clear hb4 HB4' HB3 p1 q1 r1
    go_wp2_with fail
    have hp : ∀ d os i, (grow (redrawn (w4.alloc (.cells (cells4 (cls 5)) 24)) d) os).cell? _ = _ := fun d os i => (p2.below (below_regrown _ d os) p2.lt).cell i
    have hq : ∀ d os i, (grow (redrawn (w4.alloc (.cells (cells4 (cls 5)) 24)) d) os).cell? _ = _ := fun d os i => (q2.below (below_regrown _ d os) q2.lt).cell i
    have hr : ∀ d os i, (grow (redrawn (w4.alloc (.cells (cells4 (cls 5)) 24)) d) os).cell? _ = _ := fun d os i => (r2.below (below_regrown _ d os) r2.lt).cell i
    have hs : ∀ d os i, (grow (redrawn (w4.alloc (.cells (cells4 (cls 5)) 24)) d) os).cell? _ = _ := fun d os i => (s2.below (below_regrown _ d os) s2.lt).cell i
    clear p2 q2 r2 s2
    have t1 := or08
    have t2 := and08
    have t3 := less_all 0
    refine wp_region_quiet_below (by kernel_rfl) (by kernel_rfl) ?_
    repeat (first | go_big_quiet_step ((first | (go_at_call 24; exact Calls.regrown_of (or08_any _)) | (go_at_call 32; exact Calls.regrown_of (and08_any _)) | (go_at_call 44; exact Calls.regrown_of (anyset_any _)) | (go_at_call 33; exact Calls.regrown_of (lessk_any _ _)) | (go_at_call 36; exact Calls.regrown_of (sure2_any _)))) | quiet_step ((first | (go_at_call 24; exact Calls.regrown_of (or08_any _)) | (go_at_call 32; exact Calls.regrown_of (and08_any _)) | (go_at_call 44; exact Calls.regrown_of (anyset_any _)) | (go_at_call 33; exact Calls.regrown_of (lessk_any _ _)) | (go_at_call 36; exact Calls.regrown_of (sure2_any _)))))
    refine wpQuiet_nil ?_
    intro _ hw'
    obtain ⟨⟨qd, qos⟩, hw''⟩ := hw'
    subst hw''
    have hb := below_then HB4.out (below_regrown _ qd qos)
    go_wp2
    go_ret
    exact ⟨rfl, hb⟩
  | true =>
  have hcell := N2.2 0 (by decide)
  cases c1 : decide (cut ≤ ((nm 0).size : Int)) with
  | false =>
    have HB1 := HB2
    have o1 := o1'
    clear HB2 o1' N2
    go_wp2_with fail
    refine (ofk_any 0 (by decide) _).mono ?_
    rintro e2 w2 ⟨rfl, hb2⟩
    have p0 := (o1.call hb2).alloc (.cells (cells4 (cls 0)) 24)
    have q0 : Slab (w2.alloc (.cells (cells4 (cls 0)) 24)) w2.heap.size (cells4 (cls 0)) 24 := Slab.new _ _ _
    have HB2' := below_then HB1.out hb2
    have HB2 := Lib.hid (HB2'.alloc HB2'.size (.cells (cells4 (cls 0)) 24))
    clear hb2 HB2' HB1 o1
    go_wp2_with fail
    refine (ofk_any 8 (by decide) _).mono ?_
    rintro e3 w3 ⟨rfl, hb3⟩
    have p1 := (p0.call hb3).alloc (.cells (cells4 (cls 8)) 24)
    have q1 := (q0.call hb3).alloc (.cells (cells4 (cls 8)) 24)
    have r1 : Slab (w3.alloc (.cells (cells4 (cls 8)) 24)) w3.heap.size (cells4 (cls 8)) 24 := Slab.new _ _ _
    have HB3' := below_then HB2.out hb3
    have HB3 := Lib.hid (HB3'.alloc HB3'.size (.cells (cells4 (cls 8)) 24))
    clear hb3 HB3' HB2 p0 q0
    go_wp2_with fail
    refine (ofk_any 5 (by decide) _).mono ?_
    rintro e4 w4 ⟨rfl, hb4⟩
    have p2 := (p1.call hb4).alloc (.cells (cells4 (cls 5)) 24)
    have q2 := (q1.call hb4).alloc (.cells (cells4 (cls 5)) 24)
    have r2 := (r1.call hb4).alloc (.cells (cells4 (cls 5)) 24)
    have s2 : Slab (w4.alloc (.cells (cells4 (cls 5)) 24)) w4.heap.size (cells4 (cls 5)) 24 := Slab.new _ _ _
    have HB4' := below_then HB3.out hb4
    have HB4 := Lib.hid (HB4'.alloc HB4'.size (.cells (cells4 (cls 5)) 24))
    clear hb4 HB4' HB3 p1 q1 r1
    go_wp2_with fail
    have hp : ∀ d os i, (grow (redrawn (w4.alloc (.cells (cells4 (cls 5)) 24)) d) os).cell? _ = _ := fun d os i => (p2.below (below_regrown _ d os) p2.lt).cell i
    have hq : ∀ d os i, (grow (redrawn (w4.alloc (.cells (cells4 (cls 5)) 24)) d) os).cell? _ = _ := fun d os i => (q2.below (below_regrown _ d os) q2.lt).cell i
    have hr : ∀ d os i, (grow (redrawn (w4.alloc (.cells (cells4 (cls 5)) 24)) d) os).cell? _ = _ := fun d os i => (r2.below (below_regrown _ d os) r2.lt).cell i
    have hs : ∀ d os i, (grow (redrawn (w4.alloc (.cells (cells4 (cls 5)) 24)) d) os).cell? _ = _ := fun d os i => (s2.below (below_regrown _ d os) s2.lt).cell i
    clear p2 q2 r2 s2
    have t1 := or08
    have t2 := and08
    have t3 := less_all 0
    refine wp_region_quiet_below (by kernel_rfl) (by kernel_rfl) ?_
    repeat (first | go_big_quiet_step ((first | (go_at_call 24; exact Calls.regrown_of (or08_any _)) | (go_at_call 32; exact Calls.regrown_of (and08_any _)) | (go_at_call 44; exact Calls.regrown_of (anyset_any _)) | (go_at_call 33; exact Calls.regrown_of (lessk_any _ _)) | (go_at_call 36; exact Calls.regrown_of (sure2_any _)))) | quiet_step ((first | (go_at_call 24; exact Calls.regrown_of (or08_any _)) | (go_at_call 32; exact Calls.regrown_of (and08_any _)) | (go_at_call 44; exact Calls.regrown_of (anyset_any _)) | (go_at_call 33; exact Calls.regrown_of (lessk_any _ _)) | (go_at_call 36; exact Calls.regrown_of (sure2_any _)))))
    refine wpQuiet_nil ?_
    intro _ hw'
    obtain ⟨⟨qd, qos⟩, hw''⟩ := hw'
    subst hw''
    have hb := below_then HB4.out (below_regrown _ qd qos)
    go_wp2
    go_ret
    exact ⟨rfl, hb⟩
  | true =>
  simp at c0 c1
  obtain ⟨c, rfl⟩ := Int.eq_ofNat_of_zero_le c0
  have CB := begins_any ((nm 0).extract 0 c) (by have := nm_size 0; simp; omega)
  rw [beginsF_cut 0 (by decide) c (by omega)] at CB
  go_wp2_with fail
  refine (CB _).mono ?_
  rintro e5 w5 ⟨rfl, hb5⟩
  have HB1 := Lib.hid (below_then HB2.out hb5)
  have o1 := o1'.call hb5
  clear HB2 o1' N2 hb5 hcell
  go_wp2_with fail
  refine (ofk_any 0 (by decide) _).mono ?_
  rintro e2 w2 ⟨rfl, hb2⟩
  have p0 := (o1.call hb2).alloc (.cells (cells4 (cls 0)) 24)
  have q0 : Slab (w2.alloc (.cells (cells4 (cls 0)) 24)) w2.heap.size (cells4 (cls 0)) 24 := Slab.new _ _ _
  have HB2' := below_then HB1.out hb2
  have HB2 := Lib.hid (HB2'.alloc HB2'.size (.cells (cells4 (cls 0)) 24))
  clear hb2 HB2' HB1 o1
  go_wp2_with fail
  refine (ofk_any 8 (by decide) _).mono ?_
  rintro e3 w3 ⟨rfl, hb3⟩
  have p1 := (p0.call hb3).alloc (.cells (cells4 (cls 8)) 24)
  have q1 := (q0.call hb3).alloc (.cells (cells4 (cls 8)) 24)
  have r1 : Slab (w3.alloc (.cells (cells4 (cls 8)) 24)) w3.heap.size (cells4 (cls 8)) 24 := Slab.new _ _ _
  have HB3' := below_then HB2.out hb3
  have HB3 := Lib.hid (HB3'.alloc HB3'.size (.cells (cells4 (cls 8)) 24))
  clear hb3 HB3' HB2 p0 q0
  go_wp2_with fail
  refine (ofk_any 5 (by decide) _).mono ?_
  rintro e4 w4 ⟨rfl, hb4⟩
  have p2 := (p1.call hb4).alloc (.cells (cells4 (cls 5)) 24)
  have q2 := (q1.call hb4).alloc (.cells (cells4 (cls 5)) 24)
  have r2 := (r1.call hb4).alloc (.cells (cells4 (cls 5)) 24)
  have s2 : Slab (w4.alloc (.cells (cells4 (cls 5)) 24)) w4.heap.size (cells4 (cls 5)) 24 := Slab.new _ _ _
  have HB4' := below_then HB3.out hb4
  have HB4 := Lib.hid (HB4'.alloc HB4'.size (.cells (cells4 (cls 5)) 24))
  clear hb4 HB4' HB3 p1 q1 r1
  go_wp2_with fail
  have hp : ∀ d os i, (grow (redrawn (w4.alloc (.cells (cells4 (cls 5)) 24)) d) os).cell? _ = _ := fun d os i => (p2.below (below_regrown _ d os) p2.lt).cell i
  have hq : ∀ d os i, (grow (redrawn (w4.alloc (.cells (cells4 (cls 5)) 24)) d) os).cell? _ = _ := fun d os i => (q2.below (below_regrown _ d os) q2.lt).cell i
  have hr : ∀ d os i, (grow (redrawn (w4.alloc (.cells (cells4 (cls 5)) 24)) d) os).cell? _ = _ := fun d os i => (r2.below (below_regrown _ d os) r2.lt).cell i
  have hs : ∀ d os i, (grow (redrawn (w4.alloc (.cells (cells4 (cls 5)) 24)) d) os).cell? _ = _ := fun d os i => (s2.below (below_regrown _ d os) s2.lt).cell i
  clear p2 q2 r2 s2
  have t1 := or08
  have t2 := and08
  have t3 := less_all 0
  refine wp_region_quiet_below (by kernel_rfl) (by kernel_rfl) ?_
  repeat (first | go_big_quiet_step ((first | (go_at_call 24; exact Calls.regrown_of (or08_any _)) | (go_at_call 32; exact Calls.regrown_of (and08_any _)) | (go_at_call 44; exact Calls.regrown_of (anyset_any _)) | (go_at_call 33; exact Calls.regrown_of (lessk_any _ _)) | (go_at_call 36; exact Calls.regrown_of (sure2_any _)))) | quiet_step ((first | (go_at_call 24; exact Calls.regrown_of (or08_any _)) | (go_at_call 32; exact Calls.regrown_of (and08_any _)) | (go_at_call 44; exact Calls.regrown_of (anyset_any _)) | (go_at_call 33; exact Calls.regrown_of (lessk_any _ _)) | (go_at_call 36; exact Calls.regrown_of (sure2_any _)))))
  refine wpQuiet_nil ?_
  intro _ hw'
  obtain ⟨⟨qd, qos⟩, hw''⟩ := hw'
  subst hw''
  have hb := below_then HB4.out (below_regrown _ qd qos)
  go_wp2
  go_ret
  exact ⟨rfl, hb⟩
set_option maxRecDepth 100000 in
set_option maxHeartbeats 2000000 in
theorem classnames_any (i cut : Int) (hc0 : -9223372036854775808 ≤ cut) (hc1 : cut ≤ 9223372036854775807) (w : World) : Calls Try.prog 9 #[.int .i64 i, .int .i64 cut] w fun e w' => e = .returned (.bool true) ∧ Below w.heap.size w w' := by
  by_cases hin : 0 ≤ i ∧ i < 12
  · obtain ⟨k, rfl⟩ := Int.eq_ofNat_of_zero_le hin.1
    by_cases h0 : 0 < k
    · exact names_pos k (by omega) h0 cut hc0 hc1 w
    · obtain rfl : k = 0 := by omega
      exact names_zero cut hc0 hc1 w
  go_enter Try.func9, Try.ntmps9
  go_wp2_with fail
  refine (names_at _).mono ?_
  rintro e1 w1 ⟨g, c, rfl, hN, hb1⟩
  cases h : decide (i < 0) with
  | true =>
    have HB := Lib.hid hb1; clear hb1
    go_wp2_with fail
    refine (sure2_any _).mono ?_
    rintro e2 w2 ⟨rfl, hb2⟩
    have hb := below_then HB.out hb2
    go_wp2
    go_ret
    exact ⟨rfl, hb⟩
  | false =>
  have h' : decide (12 ≤ i) = true := by simp at h; simp; omega
  have HB := Lib.hid hb1; clear hb1
  go_wp2_with fail
  refine (sure2_any _).mono ?_
  rintro e2 w2 ⟨rfl, hb2⟩
  have hb := below_then HB.out hb2
  go_wp2
  go_ret
  exact ⟨rfl, hb⟩
end Go.Proofs.Ythppilfojicfdaa
