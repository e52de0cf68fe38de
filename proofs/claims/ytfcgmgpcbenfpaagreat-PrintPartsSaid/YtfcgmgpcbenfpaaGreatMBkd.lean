/- Walks of the package gimletref03: one thing more, or the end. -/
import Derived.Test.YtfcgmgpcbenfpaaGreatProg
import Derived.WalkKit
import Derived.WalkSpells
import Derived.WalkLawsBesides
import Derived.Handy
import Derived.Lib.Hide
import Derived.Test.YtfcgmgpcbenfpaaGreatBrkD
import Derived.Deep.RegionHeld3
import Derived.Test.YtfcgmgpcbenfpaaGreatMRef
set_option linter.unusedVariables false
set_option linter.unusedSimpArgs false
namespace Go.Proofs.YtfcgmgpcbenfpaaGreat
open Go.RowKit SetP BrkP
set_option maxRecDepth 100000 in
/-- A byte's fact, in the walk's spelling; what it says of the text is kept. -/
theorem add1_any (f : Nat → Bool) (pos : Int) (nt : Bool) (c : UInt8) (q : Int) (w : World) :
    Calls Tryz.prog 115 #[stV f pos 0 0 false nt, .int .i64 (c.toNat : Int), .int .i64 (c.toNat : Int), .int .i64 q] w fun e' w' =>
      e' = .returned (stV (addB f c.toNat) q 0 0 false nt) ∧ Below w.heap.size w w' := by
  have h := add_any f pos nt c c q w
  rw [or_one] at h
  exact h
def rthing (s : ByteArray) (i : Nat) (f : Nat → Bool) (nt first : Bool) : Value :=
  if s.size ≤ i then badV 2 s.size else if bt s i == 93 && !first then stV f ((i : Int) + 1) 0 0 true nt else resV3 nt (thingF s i f)
set_option maxRecDepth 100000 in
set_option maxHeartbeats 2000000 in
theorem rthing_out (s : ByteArray) (i : Nat) (f : Nat → Bool) (nt first : Bool) (hs : s.size ≤ 4611686018427387000) (hi : i ≤ 4611686018427387000) (w : World) (k0 : s.size ≤ i) : Calls Tryz.prog 99 #[.string s, stV f i 0 0 false nt, .bool first] w fun e' w' => e' = .returned (badV 2 s.size) ∧ Below w.heap.size w w' := by
  have d0 : decide (s.size ≤ i) = true := by simpa using k0
  have q0 : Slab ((w.alloc (.cells (stCells f i 0 0 false nt) 148)).alloc (.cells (badCells 0 0) 148)) (w.heap.size + 1) (badCells 0 0) 148 := Slab.newAt _ _ _ (by simp)
  have HB0 : Below w.heap.size w ((w.alloc (.cells (stCells f i 0 0 false nt) 148)).alloc (.cells (badCells 0 0) 148)) := by (repeat' (first | (with_reducible exact Below.refl _ _) | (with_reducible assumption) | (with_reducible refine Below.alloc ?_ ?_ _) | (with_reducible refine Below.drew ?_) | (with_reducible refine below_set ?_ ?_ _) | (with_reducible refine below_call ?_ ?_ (by assumption)) | (with_reducible exact Below.size (by assumption)) | omega | go_size))
  have HB := Lib.hid HB0; clear HB0
  go_enter Tryz.func99, Tryz.ntmps99
  go_wp2_with fail
  refine (bad_any 2 s.size _).mono ?_
  rintro e9 w9 ⟨rfl, hb9⟩
  have q9 := q0.callD hb9 rfl
  have HB9 := Lib.hid (below_then HB.out hb9)
  clear hb9
  obtain ⟨c9, f9⟩ := q9.facts
  go_wp2
  refine bodyPost_ret (results_cell rfl rfl (load_slab (t := 148) (cs := badCells 2 s.size) ?_ 148 Tryz.underlying148 rfl (by kernel_rfl))) rfl ⟨rfl, ?_⟩
  · exact slab_setCells (vs := badCells 2 s.size) q9 rfl
  have hb := HB9.out
  (repeat' (first | (with_reducible exact Below.refl _ _) | (with_reducible assumption) | (with_reducible refine Below.alloc ?_ ?_ _) | (with_reducible refine Below.drew ?_) | (with_reducible refine below_set ?_ ?_ _) | (with_reducible refine below_call ?_ ?_ (by assumption)) | (with_reducible exact Below.size (by assumption)) | omega | go_size))
set_option maxRecDepth 100000 in
set_option maxHeartbeats 2000000 in
theorem rthing_end (s : ByteArray) (i : Nat) (f : Nat → Bool) (nt first : Bool) (hs : s.size ≤ 4611686018427387000) (hi : i ≤ 4611686018427387000) (w : World) (k0 : i < s.size) (hy : (bt s i == 93) = true) (hf : first = false) : Calls Tryz.prog 99 #[.string s, stV f i 0 0 false nt, .bool first] w fun e' w' => e' = .returned (stV f ((i : Int) + 1) 0 0 true nt) ∧ Below w.heap.size w w' := by
  subst hf
  have d0 : decide (s.size ≤ i) = false := by simpa using k0
  have Hy := Lib.hid hy
  rw [bt_at s (i) (by omega)] at hy
  have y : (((s[i]).toNat : Int) == 93) = true := (beq_int' (s[i]) 93).trans hy
  have yn : (((s[i]).toNat : Int) != 93) = !true := by
    have := bne_int' (s[i]) 93
    rw [hy] at this
    exact this
  clear hy
  go_enter Tryz.func99, Tryz.ntmps99
  go_wp2
  refine bodyPost_ret (v := stV f ((i : Int) + 1) 0 0 true nt) (by simp [results, Tryz.results99, go_sem]) rfl ⟨rfl, ?_⟩
  (repeat' (first | (with_reducible exact Below.refl _ _) | (with_reducible assumption) | (with_reducible refine Below.alloc ?_ ?_ _) | (with_reducible refine Below.drew ?_) | (with_reducible refine below_set ?_ ?_ _) | (with_reducible refine below_call ?_ ?_ (by assumption)) | (with_reducible exact Below.size (by assumption)) | omega | go_size))
set_option maxRecDepth 100000 in
set_option maxHeartbeats 2000000 in
theorem rthing_short (s : ByteArray) (i : Nat) (f : Nat → Bool) (nt first : Bool) (hs : s.size ≤ 4611686018427387000) (hi : i ≤ 4611686018427387000) (w : World) (k0 : i < s.size) (hy : (bt s i == 93) = false ∨ first = true) (k1 : s.size ≤ i + 1) : Calls Tryz.prog 99 #[.string s, stV f i 0 0 false nt, .bool first] w fun e' w' => e' = .returned (badV 2 s.size) ∧ Below w.heap.size w w' := by
  have d1 : decide (s.size ≤ i + 1) = true := by simpa using k1
  have d0 : decide (s.size ≤ i) = false := by simpa using k0
  cases hv : (bt s i == 93) with
  | false =>
    clear hy
    have hy := hv
    clear hv
    have Hy := Lib.hid hy
    rw [bt_at s (i) (by omega)] at hy
    have y : (((s[i]).toNat : Int) == 93) = false := (beq_int' (s[i]) 93).trans hy
    have yn : (((s[i]).toNat : Int) != 93) = !false := by
      have := bne_int' (s[i]) 93
      rw [hy] at this
      exact this
    clear hy
    clear Hy
    have q0 : Slab ((w.alloc (.cells (stCells f i 0 0 false nt) 148)).alloc (.cells (badCells 0 0) 148)) (w.heap.size + 1) (badCells 0 0) 148 := Slab.newAt _ _ _ (by simp)
    have HB0 : Below w.heap.size w ((w.alloc (.cells (stCells f i 0 0 false nt) 148)).alloc (.cells (badCells 0 0) 148)) := by (repeat' (first | (with_reducible exact Below.refl _ _) | (with_reducible assumption) | (with_reducible refine Below.alloc ?_ ?_ _) | (with_reducible refine Below.drew ?_) | (with_reducible refine below_set ?_ ?_ _) | (with_reducible refine below_call ?_ ?_ (by assumption)) | (with_reducible exact Below.size (by assumption)) | omega | go_size))
    have HB := Lib.hid HB0; clear HB0
    go_enter Tryz.func99, Tryz.ntmps99
    go_wp2_with fail
    refine (bad_any 2 s.size _).mono ?_
    rintro e9 w9 ⟨rfl, hb9⟩
    have q9 := q0.callD hb9 rfl
    have HB9 := Lib.hid (below_then HB.out hb9)
    clear hb9
    obtain ⟨c9, f9⟩ := q9.facts
    go_wp2
    refine bodyPost_ret (results_cell rfl rfl (load_slab (t := 148) (cs := badCells 2 s.size) ?_ 148 Tryz.underlying148 rfl (by kernel_rfl))) rfl ⟨rfl, ?_⟩
    · exact slab_setCells (vs := badCells 2 s.size) q9 rfl
    have hb := HB9.out
    (repeat' (first | (with_reducible exact Below.refl _ _) | (with_reducible assumption) | (with_reducible refine Below.alloc ?_ ?_ _) | (with_reducible refine Below.drew ?_) | (with_reducible refine below_set ?_ ?_ _) | (with_reducible refine below_call ?_ ?_ (by assumption)) | (with_reducible exact Below.size (by assumption)) | omega | go_size))
  | true =>
    rw [hv] at hy
    obtain rfl : first = true := by simpa using hy
    clear hy
    have hy := hv
    clear hv
    have Hy := Lib.hid hy
    rw [bt_at s (i) (by omega)] at hy
    have y : (((s[i]).toNat : Int) == 93) = true := (beq_int' (s[i]) 93).trans hy
    have yn : (((s[i]).toNat : Int) != 93) = !true := by
      have := bne_int' (s[i]) 93
      rw [hy] at this
      exact this
    clear hy
    clear Hy
    have q0 : Slab ((w.alloc (.cells (stCells f i 0 0 false nt) 148)).alloc (.cells (badCells 0 0) 148)) (w.heap.size + 1) (badCells 0 0) 148 := Slab.newAt _ _ _ (by simp)
    have HB0 : Below w.heap.size w ((w.alloc (.cells (stCells f i 0 0 false nt) 148)).alloc (.cells (badCells 0 0) 148)) := by (repeat' (first | (with_reducible exact Below.refl _ _) | (with_reducible assumption) | (with_reducible refine Below.alloc ?_ ?_ _) | (with_reducible refine Below.drew ?_) | (with_reducible refine below_set ?_ ?_ _) | (with_reducible refine below_call ?_ ?_ (by assumption)) | (with_reducible exact Below.size (by assumption)) | omega | go_size))
    have HB := Lib.hid HB0; clear HB0
    go_enter Tryz.func99, Tryz.ntmps99
    go_wp2_with fail
    refine (bad_any 2 s.size _).mono ?_
    rintro e9 w9 ⟨rfl, hb9⟩
    have q9 := q0.callD hb9 rfl
    have HB9 := Lib.hid (below_then HB.out hb9)
    clear hb9
    obtain ⟨c9, f9⟩ := q9.facts
    go_wp2
    refine bodyPost_ret (results_cell rfl rfl (load_slab (t := 148) (cs := badCells 2 s.size) ?_ 148 Tryz.underlying148 rfl (by kernel_rfl))) rfl ⟨rfl, ?_⟩
    · exact slab_setCells (vs := badCells 2 s.size) q9 rfl
    have hb := HB9.out
    (repeat' (first | (with_reducible exact Below.refl _ _) | (with_reducible assumption) | (with_reducible refine Below.alloc ?_ ?_ _) | (with_reducible refine Below.drew ?_) | (with_reducible refine below_set ?_ ?_ _) | (with_reducible refine below_call ?_ ?_ (by assumption)) | (with_reducible exact Below.size (by assumption)) | omega | go_size))
set_option maxRecDepth 100000 in
set_option maxHeartbeats 2000000 in
theorem rthing_name (s : ByteArray) (i : Nat) (f : Nat → Bool) (nt first : Bool) (hs : s.size ≤ 4611686018427387000) (hi : i ≤ 4611686018427387000) (w : World) (k1 : i + 1 < s.size) (hv : (bt s i == 91) = true) (hz : (bt s (i + 1) == 58) = true) : Calls Tryz.prog 99 #[.string s, stV f i 0 0 false nt, .bool first] w fun e' w' => e' = .returned (resV3 nt (classGo s (i + 2) f (i + 2))) ∧ Below w.heap.size w w' := by
  have hb : bt s i = 91 := by simpa using hv
  have h93 : (bt s i == 93) = false := by rw [hb]; rfl
  have d0 : decide (s.size ≤ i) = false := by simp; omega
  have d1 : decide (s.size ≤ i + 1) = false := by simpa using k1
  clear hb
  have Hv := Lib.hid hv
  rw [bt_at s (i) (by omega)] at hv
  have v : (((s[i]).toNat : Int) == 91) = true := (beq_int' (s[i]) 91).trans hv
  have vn : (((s[i]).toNat : Int) != 91) = !true := by
    have := bne_int' (s[i]) 91
    rw [hv] at this
    exact this
  clear hv
  have h93' := h93
  clear h93
  have hy := h93'
  clear h93'
  have Hy := Lib.hid hy
  rw [bt_at s (i) (by omega)] at hy
  have y : (((s[i]).toNat : Int) == 93) = false := (beq_int' (s[i]) 93).trans hy
  have yn : (((s[i]).toNat : Int) != 93) = !false := by
    have := bne_int' (s[i]) 93
    rw [hy] at this
    exact this
  clear hy
  have Hz := Lib.hid hz
  rw [bt_at s (i + 1) (by omega)] at hz
  have z : (((s[i + 1]).toNat : Int) == 58) = true := (beq_int' (s[i + 1]) 58).trans hz
  have zn : (((s[i + 1]).toNat : Int) != 58) = !true := by
    have := bne_int' (s[i + 1]) 58
    rw [hz] at this
    exact this
  clear hz
  have C := name_any s i f nt (by omega) hs
  cases hR : classGo s (i + 2) f (i + 2) with
  | go i' f' =>
    rw [hR] at C
    clear hR
    have q0 : Slab ((w.alloc (.cells (stCells f i 0 0 false nt) 148)).alloc (.cells (badCells 0 0) 148)) (w.heap.size + 1) (badCells 0 0) 148 := Slab.newAt _ _ _ (by simp)
    have HB0 : Below w.heap.size w ((w.alloc (.cells (stCells f i 0 0 false nt) 148)).alloc (.cells (badCells 0 0) 148)) := by (repeat' (first | (with_reducible exact Below.refl _ _) | (with_reducible assumption) | (with_reducible refine Below.alloc ?_ ?_ _) | (with_reducible refine Below.drew ?_) | (with_reducible refine below_set ?_ ?_ _) | (with_reducible refine below_call ?_ ?_ (by assumption)) | (with_reducible exact Below.size (by assumption)) | omega | go_size))
    have HB := Lib.hid HB0; clear HB0
    go_enter Tryz.func99, Tryz.ntmps99
    go_wp2_with fail
    refine (C _).mono ?_
    rintro e9 w9 ⟨rfl, hb9⟩
    have q9 := q0.callD hb9 rfl
    have HB9 := Lib.hid (below_then HB.out hb9)
    clear hb9
    obtain ⟨c9, f9⟩ := q9.facts
    go_wp2
    refine bodyPost_ret (results_cell rfl rfl (load_slab (t := 148) (cs := stCells f' i' 0 0 false nt) ?_ 148 Tryz.underlying148 rfl (by kernel_rfl))) rfl ⟨rfl, ?_⟩
    · exact slab_setCells (vs := stCells f' i' 0 0 false nt) q9 rfl
    have hb := HB9.out
    (repeat' (first | (with_reducible exact Below.refl _ _) | (with_reducible assumption) | (with_reducible refine Below.alloc ?_ ?_ _) | (with_reducible refine Below.drew ?_) | (with_reducible refine below_set ?_ ?_ _) | (with_reducible refine below_call ?_ ?_ (by assumption)) | (with_reducible exact Below.size (by assumption)) | omega | go_size))
  | bad e p =>
    rw [hR] at C
    clear hR
    have q0 : Slab ((w.alloc (.cells (stCells f i 0 0 false nt) 148)).alloc (.cells (badCells 0 0) 148)) (w.heap.size + 1) (badCells 0 0) 148 := Slab.newAt _ _ _ (by simp)
    have HB0 : Below w.heap.size w ((w.alloc (.cells (stCells f i 0 0 false nt) 148)).alloc (.cells (badCells 0 0) 148)) := by (repeat' (first | (with_reducible exact Below.refl _ _) | (with_reducible assumption) | (with_reducible refine Below.alloc ?_ ?_ _) | (with_reducible refine Below.drew ?_) | (with_reducible refine below_set ?_ ?_ _) | (with_reducible refine below_call ?_ ?_ (by assumption)) | (with_reducible exact Below.size (by assumption)) | omega | go_size))
    have HB := Lib.hid HB0; clear HB0
    go_enter Tryz.func99, Tryz.ntmps99
    go_wp2_with fail
    refine (C _).mono ?_
    rintro e9 w9 ⟨rfl, hb9⟩
    have q9 := q0.callD hb9 rfl
    have HB9 := Lib.hid (below_then HB.out hb9)
    clear hb9
    obtain ⟨c9, f9⟩ := q9.facts
    go_wp2
    refine bodyPost_ret (results_cell rfl rfl (load_slab (t := 148) (cs := badCells e p) ?_ 148 Tryz.underlying148 rfl (by kernel_rfl))) rfl ⟨rfl, ?_⟩
    · exact slab_setCells (vs := badCells e p) q9 rfl
    have hb := HB9.out
    (repeat' (first | (with_reducible exact Below.refl _ _) | (with_reducible assumption) | (with_reducible refine Below.alloc ?_ ?_ _) | (with_reducible refine Below.drew ?_) | (with_reducible refine below_set ?_ ?_ _) | (with_reducible refine below_call ?_ ?_ (by assumption)) | (with_reducible exact Below.size (by assumption)) | omega | go_size))
set_option maxRecDepth 100000 in
set_option maxHeartbeats 2000000 in
theorem rthing_spec (s : ByteArray) (i : Nat) (f : Nat → Bool) (nt first : Bool) (hs : s.size ≤ 4611686018427387000) (hi : i ≤ 4611686018427387000) (w : World) (k1 : i + 1 < s.size) (hv : (bt s i == 91) = true) (hz : (bt s (i + 1) == 58) = false) (hm : marksB (bt s (i + 1)) = true) : Calls Tryz.prog 99 #[.string s, stV f i 0 0 false nt, .bool first] w fun e' w' => e' = .returned (badV 3 ((i : Int) + 2)) ∧ Below w.heap.size w w' := by
  have hb : bt s i = 91 := by simpa using hv
  have h93 : (bt s i == 93) = false := by rw [hb]; rfl
  have d0 : decide (s.size ≤ i) = false := by simp; omega
  have d1 : decide (s.size ≤ i + 1) = false := by simpa using k1
  clear hb
  have Hv := Lib.hid hv
  rw [bt_at s (i) (by omega)] at hv
  have v : (((s[i]).toNat : Int) == 91) = true := (beq_int' (s[i]) 91).trans hv
  have vn : (((s[i]).toNat : Int) != 91) = !true := by
    have := bne_int' (s[i]) 91
    rw [hv] at this
    exact this
  clear hv
  have h93' := h93
  clear h93
  have hy := h93'
  clear h93'
  have Hy := Lib.hid hy
  rw [bt_at s (i) (by omega)] at hy
  have y : (((s[i]).toNat : Int) == 93) = false := (beq_int' (s[i]) 93).trans hy
  have yn : (((s[i]).toNat : Int) != 93) = !false := by
    have := bne_int' (s[i]) 93
    rw [hy] at this
    exact this
  clear hy
  have Hz := Lib.hid hz
  rw [bt_at s (i + 1) (by omega)] at hz
  have z : (((s[i + 1]).toNat : Int) == 58) = false := (beq_int' (s[i + 1]) 58).trans hz
  have zn : (((s[i + 1]).toNat : Int) != 58) = !false := by
    have := bne_int' (s[i + 1]) 58
    rw [hz] at this
    exact this
  clear hz
  rw [bt_at s (i + 1) (by omega)] at hm
  have HM := Lib.hid hm; clear hm
  have q0 : Slab ((w.alloc (.cells (stCells f i 0 0 false nt) 148)).alloc (.cells (badCells 0 0) 148)) (w.heap.size + 1) (badCells 0 0) 148 := Slab.newAt _ _ _ (by simp)
  have HB0 : Below w.heap.size w ((w.alloc (.cells (stCells f i 0 0 false nt) 148)).alloc (.cells (badCells 0 0) 148)) := by (repeat' (first | (with_reducible exact Below.refl _ _) | (with_reducible assumption) | (with_reducible refine Below.alloc ?_ ?_ _) | (with_reducible refine Below.drew ?_) | (with_reducible refine below_set ?_ ?_ _) | (with_reducible refine below_call ?_ ?_ (by assumption)) | (with_reducible exact Below.size (by assumption)) | omega | go_size))
  have HB := Lib.hid HB0; clear HB0
  go_enter Tryz.func99, Tryz.ntmps99
  go_wp2_with fail
  refine (special_any s[i + 1] _).mono ?_
  rintro e1 w1 ⟨rfl, rfl⟩
  rw [HM.out]
  go_wp2_with fail
  refine (bad_any 3 ((i : Int) + 2) _).mono ?_
  rintro e9 w9 ⟨rfl, hb9⟩
  have q9 := q0.callD hb9 rfl
  have HB9 := Lib.hid (below_then HB.out hb9)
  clear hb9
  obtain ⟨c9, f9⟩ := q9.facts
  go_wp2
  refine bodyPost_ret (results_cell rfl rfl (load_slab (t := 148) (cs := badCells 3 ((i : Int) + 2)) ?_ 148 Tryz.underlying148 rfl (by kernel_rfl))) rfl ⟨rfl, ?_⟩
  · exact slab_setCells (vs := badCells 3 ((i : Int) + 2)) q9 rfl
  have hb := HB9.out
  (repeat' (first | (with_reducible exact Below.refl _ _) | (with_reducible assumption) | (with_reducible refine Below.alloc ?_ ?_ _) | (with_reducible refine Below.drew ?_) | (with_reducible refine below_set ?_ ?_ _) | (with_reducible refine below_call ?_ ?_ (by assumption)) | (with_reducible exact Below.size (by assumption)) | omega | go_size))
/- The span: three ways to come to it. -/
set_option maxRecDepth 100000 in
set_option maxHeartbeats 2000000 in
theorem rthing_one (s : ByteArray) (i : Nat) (f : Nat → Bool) (nt first : Bool) (hs : s.size ≤ 4611686018427387000) (hi : i ≤ 4611686018427387000) (w : World) (k0 : i + 1 < s.size) (hy : (bt s i == 93) = false ∨ first = true) (hC : (bt s i == 91) = false ∨ ((bt s (i + 1) == 58) = false ∧ marksB (bt s (i + 1)) = false)) (hq : (bt s (i + 1) == 45) = false) : Calls Tryz.prog 99 #[.string s, stV f i 0 0 false nt, .bool first] w fun e' w' => e' = .returned (stV (addB f (bt s i).toNat) ((i : Int) + 1) 0 0 false nt) ∧ Below w.heap.size w w' := by
  have Hq := Lib.hid hq
  rw [bt_at s (i + 1) (by omega)] at hq
  have q : (((s[i + 1]).toNat : Int) == 45) = false := (beq_int' (s[i + 1]) 45).trans hq
  have qn : (((s[i + 1]).toNat : Int) != 45) = !false := by
    have := bne_int' (s[i + 1]) 45
    rw [hq] at this
    exact this
  clear hq
  rw [bt_at s i (by omega)]
  have b0 : (s[i]'(by omega)).toNat < 256 := UInt8.toNat_lt _
  have d0 : decide (s.size ≤ i) = false := by simp; omega
  have d1 : decide (s.size ≤ i + 1) = false := by simpa using k0
  cases hv : (bt s i == 91) with
  | true =>
    have hb : bt s i = 91 := by simpa using hv
    rw [hv] at hC
    obtain ⟨hz, hm⟩ : (bt s (i + 1) == 58) = false ∧ marksB (bt s (i + 1)) = false := by simpa using hC
    clear hy hC
    have hy : (bt s i == 93) = false := by rw [hb]; rfl
    clear hb
    have Hv := Lib.hid hv
    rw [bt_at s (i) (by omega)] at hv
    have v : (((s[i]).toNat : Int) == 91) = true := (beq_int' (s[i]) 91).trans hv
    have vn : (((s[i]).toNat : Int) != 91) = !true := by
      have := bne_int' (s[i]) 91
      rw [hv] at this
      exact this
    clear hv
    have Hy := Lib.hid hy
    rw [bt_at s (i) (by omega)] at hy
    have y : (((s[i]).toNat : Int) == 93) = false := (beq_int' (s[i]) 93).trans hy
    have yn : (((s[i]).toNat : Int) != 93) = !false := by
      have := bne_int' (s[i]) 93
      rw [hy] at this
      exact this
    clear hy
    have Hz := Lib.hid hz
    rw [bt_at s (i + 1) (by omega)] at hz
    have z : (((s[i + 1]).toNat : Int) == 58) = false := (beq_int' (s[i + 1]) 58).trans hz
    have zn : (((s[i + 1]).toNat : Int) != 58) = !false := by
      have := bne_int' (s[i + 1]) 58
      rw [hz] at this
      exact this
    clear hz
    rw [bt_at s (i + 1) (by omega)] at hm
    have HM := Lib.hid hm; clear hm
    have q0 : Slab ((w.alloc (.cells (stCells f i 0 0 false nt) 148)).alloc (.cells (badCells 0 0) 148)) (w.heap.size + 1) (badCells 0 0) 148 := Slab.newAt _ _ _ (by simp)
    have HB0 : Below w.heap.size w ((w.alloc (.cells (stCells f i 0 0 false nt) 148)).alloc (.cells (badCells 0 0) 148)) := by (repeat' (first | (with_reducible exact Below.refl _ _) | (with_reducible assumption) | (with_reducible refine Below.alloc ?_ ?_ _) | (with_reducible refine Below.drew ?_) | (with_reducible refine below_set ?_ ?_ _) | (with_reducible refine below_call ?_ ?_ (by assumption)) | (with_reducible exact Below.size (by assumption)) | omega | go_size))
    have HB := Lib.hid HB0; clear HB0
    go_enter Tryz.func99, Tryz.ntmps99
    go_wp2_with fail
    refine (special_any s[i + 1] _).mono ?_
    rintro e1 w1 ⟨rfl, rfl⟩
    rw [HM.out]
    go_wp2_with fail
    refine (add1_any f i nt s[i] ((i : Int) + 1) _).mono ?_
    rintro e9 w9 ⟨rfl, hb9⟩
    have q9 := q0.callD hb9 rfl
    have HB9 := Lib.hid (below_then HB.out hb9)
    clear hb9
    obtain ⟨c9, f9⟩ := q9.facts
    go_wp2
    refine bodyPost_ret (results_cell rfl rfl (load_slab (t := 148) (cs := stCells (addB f (s[i]).toNat) ((i : Int) + 1) 0 0 false nt) ?_ 148 Tryz.underlying148 rfl (by kernel_rfl))) rfl ⟨rfl, ?_⟩
    · exact slab_setCells (vs := stCells (addB f (s[i]).toNat) ((i : Int) + 1) 0 0 false nt) q9 rfl
    have hb := HB9.out
    (repeat' (first | (with_reducible exact Below.refl _ _) | (with_reducible assumption) | (with_reducible refine Below.alloc ?_ ?_ _) | (with_reducible refine Below.drew ?_) | (with_reducible refine below_set ?_ ?_ _) | (with_reducible refine below_call ?_ ?_ (by assumption)) | (with_reducible exact Below.size (by assumption)) | omega | go_size))
  | false =>
    clear hC
    have Hv := Lib.hid hv
    rw [bt_at s (i) (by omega)] at hv
    have v : (((s[i]).toNat : Int) == 91) = false := (beq_int' (s[i]) 91).trans hv
    have vn : (((s[i]).toNat : Int) != 91) = !false := by
      have := bne_int' (s[i]) 91
      rw [hv] at this
      exact this
    clear hv
    cases hx : (bt s i == 93) with
    | false =>
      clear hy
      have hy := hx
      clear hx
      have Hy := Lib.hid hy
      rw [bt_at s (i) (by omega)] at hy
      have y : (((s[i]).toNat : Int) == 93) = false := (beq_int' (s[i]) 93).trans hy
      have yn : (((s[i]).toNat : Int) != 93) = !false := by
        have := bne_int' (s[i]) 93
        rw [hy] at this
        exact this
      clear hy
      have q0 : Slab ((w.alloc (.cells (stCells f i 0 0 false nt) 148)).alloc (.cells (badCells 0 0) 148)) (w.heap.size + 1) (badCells 0 0) 148 := Slab.newAt _ _ _ (by simp)
      have HB0 : Below w.heap.size w ((w.alloc (.cells (stCells f i 0 0 false nt) 148)).alloc (.cells (badCells 0 0) 148)) := by (repeat' (first | (with_reducible exact Below.refl _ _) | (with_reducible assumption) | (with_reducible refine Below.alloc ?_ ?_ _) | (with_reducible refine Below.drew ?_) | (with_reducible refine below_set ?_ ?_ _) | (with_reducible refine below_call ?_ ?_ (by assumption)) | (with_reducible exact Below.size (by assumption)) | omega | go_size))
      have HB := Lib.hid HB0; clear HB0
      go_enter Tryz.func99, Tryz.ntmps99
      go_wp2_with fail
      refine (add1_any f i nt s[i] ((i : Int) + 1) _).mono ?_
      rintro e9 w9 ⟨rfl, hb9⟩
      have q9 := q0.callD hb9 rfl
      have HB9 := Lib.hid (below_then HB.out hb9)
      clear hb9
      obtain ⟨c9, f9⟩ := q9.facts
      go_wp2
      refine bodyPost_ret (results_cell rfl rfl (load_slab (t := 148) (cs := stCells (addB f (s[i]).toNat) ((i : Int) + 1) 0 0 false nt) ?_ 148 Tryz.underlying148 rfl (by kernel_rfl))) rfl ⟨rfl, ?_⟩
      · exact slab_setCells (vs := stCells (addB f (s[i]).toNat) ((i : Int) + 1) 0 0 false nt) q9 rfl
      have hb := HB9.out
      (repeat' (first | (with_reducible exact Below.refl _ _) | (with_reducible assumption) | (with_reducible refine Below.alloc ?_ ?_ _) | (with_reducible refine Below.drew ?_) | (with_reducible refine below_set ?_ ?_ _) | (with_reducible refine below_call ?_ ?_ (by assumption)) | (with_reducible exact Below.size (by assumption)) | omega | go_size))
    | true =>
      rw [hx] at hy
      obtain rfl : first = true := by simpa using hy
      clear hy
      have hy := hx
      clear hx
      have Hy := Lib.hid hy
      rw [bt_at s (i) (by omega)] at hy
      have y : (((s[i]).toNat : Int) == 93) = true := (beq_int' (s[i]) 93).trans hy
      have yn : (((s[i]).toNat : Int) != 93) = !true := by
        have := bne_int' (s[i]) 93
        rw [hy] at this
        exact this
      clear hy
      have q0 : Slab ((w.alloc (.cells (stCells f i 0 0 false nt) 148)).alloc (.cells (badCells 0 0) 148)) (w.heap.size + 1) (badCells 0 0) 148 := Slab.newAt _ _ _ (by simp)
      have HB0 : Below w.heap.size w ((w.alloc (.cells (stCells f i 0 0 false nt) 148)).alloc (.cells (badCells 0 0) 148)) := by (repeat' (first | (with_reducible exact Below.refl _ _) | (with_reducible assumption) | (with_reducible refine Below.alloc ?_ ?_ _) | (with_reducible refine Below.drew ?_) | (with_reducible refine below_set ?_ ?_ _) | (with_reducible refine below_call ?_ ?_ (by assumption)) | (with_reducible exact Below.size (by assumption)) | omega | go_size))
      have HB := Lib.hid HB0; clear HB0
      go_enter Tryz.func99, Tryz.ntmps99
      go_wp2_with fail
      refine (add1_any f i nt s[i] ((i : Int) + 1) _).mono ?_
      rintro e9 w9 ⟨rfl, hb9⟩
      have q9 := q0.callD hb9 rfl
      have HB9 := Lib.hid (below_then HB.out hb9)
      clear hb9
      obtain ⟨c9, f9⟩ := q9.facts
      go_wp2
      refine bodyPost_ret (results_cell rfl rfl (load_slab (t := 148) (cs := stCells (addB f (s[i]).toNat) ((i : Int) + 1) 0 0 false nt) ?_ 148 Tryz.underlying148 rfl (by kernel_rfl))) rfl ⟨rfl, ?_⟩
      · exact slab_setCells (vs := stCells (addB f (s[i]).toNat) ((i : Int) + 1) 0 0 false nt) q9 rfl
      have hb := HB9.out
      (repeat' (first | (with_reducible exact Below.refl _ _) | (with_reducible assumption) | (with_reducible refine Below.alloc ?_ ?_ _) | (with_reducible refine Below.drew ?_) | (with_reducible refine below_set ?_ ?_ _) | (with_reducible refine below_call ?_ ?_ (by assumption)) | (with_reducible exact Below.size (by assumption)) | omega | go_size))
set_option maxRecDepth 100000 in
set_option maxHeartbeats 2000000 in
theorem rthing_short2 (s : ByteArray) (i : Nat) (f : Nat → Bool) (nt first : Bool) (hs : s.size ≤ 4611686018427387000) (hi : i ≤ 4611686018427387000) (w : World) (k0 : i + 1 < s.size) (hy : (bt s i == 93) = false ∨ first = true) (hC : (bt s i == 91) = false ∨ ((bt s (i + 1) == 58) = false ∧ marksB (bt s (i + 1)) = false)) (hq : (bt s (i + 1) == 45) = true) (k2 : s.size ≤ i + 2) : Calls Tryz.prog 99 #[.string s, stV f i 0 0 false nt, .bool first] w fun e' w' => e' = .returned (badV 2 s.size) ∧ Below w.heap.size w w' := by
  have Hq := Lib.hid hq
  rw [bt_at s (i + 1) (by omega)] at hq
  have q : (((s[i + 1]).toNat : Int) == 45) = true := (beq_int' (s[i + 1]) 45).trans hq
  have qn : (((s[i + 1]).toNat : Int) != 45) = !true := by
    have := bne_int' (s[i + 1]) 45
    rw [hq] at this
    exact this
  clear hq
  have d2 : decide (s.size ≤ i + 2) = true := by simpa using k2
  have b0 : (s[i]'(by omega)).toNat < 256 := UInt8.toNat_lt _
  have d0 : decide (s.size ≤ i) = false := by simp; omega
  have d1 : decide (s.size ≤ i + 1) = false := by simpa using k0
  cases hv : (bt s i == 91) with
  | true =>
    have hb : bt s i = 91 := by simpa using hv
    rw [hv] at hC
    obtain ⟨hz, hm⟩ : (bt s (i + 1) == 58) = false ∧ marksB (bt s (i + 1)) = false := by simpa using hC
    clear hy hC
    have hy : (bt s i == 93) = false := by rw [hb]; rfl
    clear hb
    have Hv := Lib.hid hv
    rw [bt_at s (i) (by omega)] at hv
    have v : (((s[i]).toNat : Int) == 91) = true := (beq_int' (s[i]) 91).trans hv
    have vn : (((s[i]).toNat : Int) != 91) = !true := by
      have := bne_int' (s[i]) 91
      rw [hv] at this
      exact this
    clear hv
    have Hy := Lib.hid hy
    rw [bt_at s (i) (by omega)] at hy
    have y : (((s[i]).toNat : Int) == 93) = false := (beq_int' (s[i]) 93).trans hy
    have yn : (((s[i]).toNat : Int) != 93) = !false := by
      have := bne_int' (s[i]) 93
      rw [hy] at this
      exact this
    clear hy
    have Hz := Lib.hid hz
    rw [bt_at s (i + 1) (by omega)] at hz
    have z : (((s[i + 1]).toNat : Int) == 58) = false := (beq_int' (s[i + 1]) 58).trans hz
    have zn : (((s[i + 1]).toNat : Int) != 58) = !false := by
      have := bne_int' (s[i + 1]) 58
      rw [hz] at this
      exact this
    clear hz
    rw [bt_at s (i + 1) (by omega)] at hm
    have HM := Lib.hid hm; clear hm
    have q0 : Slab ((w.alloc (.cells (stCells f i 0 0 false nt) 148)).alloc (.cells (badCells 0 0) 148)) (w.heap.size + 1) (badCells 0 0) 148 := Slab.newAt _ _ _ (by simp)
    have HB0 : Below w.heap.size w ((w.alloc (.cells (stCells f i 0 0 false nt) 148)).alloc (.cells (badCells 0 0) 148)) := by (repeat' (first | (with_reducible exact Below.refl _ _) | (with_reducible assumption) | (with_reducible refine Below.alloc ?_ ?_ _) | (with_reducible refine Below.drew ?_) | (with_reducible refine below_set ?_ ?_ _) | (with_reducible refine below_call ?_ ?_ (by assumption)) | (with_reducible exact Below.size (by assumption)) | omega | go_size))
    have HB := Lib.hid HB0; clear HB0
    go_enter Tryz.func99, Tryz.ntmps99
    go_wp2_with fail
    refine (special_any s[i + 1] _).mono ?_
    rintro e1 w1 ⟨rfl, rfl⟩
    rw [HM.out]
    go_wp2_with fail
    refine (bad_any 2 s.size _).mono ?_
    rintro e9 w9 ⟨rfl, hb9⟩
    have q9 := q0.callD hb9 rfl
    have HB9 := Lib.hid (below_then HB.out hb9)
    clear hb9
    obtain ⟨c9, f9⟩ := q9.facts
    go_wp2
    refine bodyPost_ret (results_cell rfl rfl (load_slab (t := 148) (cs := badCells 2 s.size) ?_ 148 Tryz.underlying148 rfl (by kernel_rfl))) rfl ⟨rfl, ?_⟩
    · exact slab_setCells (vs := badCells 2 s.size) q9 rfl
    have hb := HB9.out
    (repeat' (first | (with_reducible exact Below.refl _ _) | (with_reducible assumption) | (with_reducible refine Below.alloc ?_ ?_ _) | (with_reducible refine Below.drew ?_) | (with_reducible refine below_set ?_ ?_ _) | (with_reducible refine below_call ?_ ?_ (by assumption)) | (with_reducible exact Below.size (by assumption)) | omega | go_size))
  | false =>
    clear hC
    have Hv := Lib.hid hv
    rw [bt_at s (i) (by omega)] at hv
    have v : (((s[i]).toNat : Int) == 91) = false := (beq_int' (s[i]) 91).trans hv
    have vn : (((s[i]).toNat : Int) != 91) = !false := by
      have := bne_int' (s[i]) 91
      rw [hv] at this
      exact this
    clear hv
    cases hx : (bt s i == 93) with
    | false =>
      clear hy
      have hy := hx
      clear hx
      have Hy := Lib.hid hy
      rw [bt_at s (i) (by omega)] at hy
      have y : (((s[i]).toNat : Int) == 93) = false := (beq_int' (s[i]) 93).trans hy
      have yn : (((s[i]).toNat : Int) != 93) = !false := by
        have := bne_int' (s[i]) 93
        rw [hy] at this
        exact this
      clear hy
      have q0 : Slab ((w.alloc (.cells (stCells f i 0 0 false nt) 148)).alloc (.cells (badCells 0 0) 148)) (w.heap.size + 1) (badCells 0 0) 148 := Slab.newAt _ _ _ (by simp)
      have HB0 : Below w.heap.size w ((w.alloc (.cells (stCells f i 0 0 false nt) 148)).alloc (.cells (badCells 0 0) 148)) := by (repeat' (first | (with_reducible exact Below.refl _ _) | (with_reducible assumption) | (with_reducible refine Below.alloc ?_ ?_ _) | (with_reducible refine Below.drew ?_) | (with_reducible refine below_set ?_ ?_ _) | (with_reducible refine below_call ?_ ?_ (by assumption)) | (with_reducible exact Below.size (by assumption)) | omega | go_size))
      have HB := Lib.hid HB0; clear HB0
      go_enter Tryz.func99, Tryz.ntmps99
      go_wp2_with fail
      refine (bad_any 2 s.size _).mono ?_
      rintro e9 w9 ⟨rfl, hb9⟩
      have q9 := q0.callD hb9 rfl
      have HB9 := Lib.hid (below_then HB.out hb9)
      clear hb9
      obtain ⟨c9, f9⟩ := q9.facts
      go_wp2
      refine bodyPost_ret (results_cell rfl rfl (load_slab (t := 148) (cs := badCells 2 s.size) ?_ 148 Tryz.underlying148 rfl (by kernel_rfl))) rfl ⟨rfl, ?_⟩
      · exact slab_setCells (vs := badCells 2 s.size) q9 rfl
      have hb := HB9.out
      (repeat' (first | (with_reducible exact Below.refl _ _) | (with_reducible assumption) | (with_reducible refine Below.alloc ?_ ?_ _) | (with_reducible refine Below.drew ?_) | (with_reducible refine below_set ?_ ?_ _) | (with_reducible refine below_call ?_ ?_ (by assumption)) | (with_reducible exact Below.size (by assumption)) | omega | go_size))
    | true =>
      rw [hx] at hy
      obtain rfl : first = true := by simpa using hy
      clear hy
      have hy := hx
      clear hx
      have Hy := Lib.hid hy
      rw [bt_at s (i) (by omega)] at hy
      have y : (((s[i]).toNat : Int) == 93) = true := (beq_int' (s[i]) 93).trans hy
      have yn : (((s[i]).toNat : Int) != 93) = !true := by
        have := bne_int' (s[i]) 93
        rw [hy] at this
        exact this
      clear hy
      have q0 : Slab ((w.alloc (.cells (stCells f i 0 0 false nt) 148)).alloc (.cells (badCells 0 0) 148)) (w.heap.size + 1) (badCells 0 0) 148 := Slab.newAt _ _ _ (by simp)
      have HB0 : Below w.heap.size w ((w.alloc (.cells (stCells f i 0 0 false nt) 148)).alloc (.cells (badCells 0 0) 148)) := by (repeat' (first | (with_reducible exact Below.refl _ _) | (with_reducible assumption) | (with_reducible refine Below.alloc ?_ ?_ _) | (with_reducible refine Below.drew ?_) | (with_reducible refine below_set ?_ ?_ _) | (with_reducible refine below_call ?_ ?_ (by assumption)) | (with_reducible exact Below.size (by assumption)) | omega | go_size))
      have HB := Lib.hid HB0; clear HB0
      go_enter Tryz.func99, Tryz.ntmps99
      go_wp2_with fail
      refine (bad_any 2 s.size _).mono ?_
      rintro e9 w9 ⟨rfl, hb9⟩
      have q9 := q0.callD hb9 rfl
      have HB9 := Lib.hid (below_then HB.out hb9)
      clear hb9
      obtain ⟨c9, f9⟩ := q9.facts
      go_wp2
      refine bodyPost_ret (results_cell rfl rfl (load_slab (t := 148) (cs := badCells 2 s.size) ?_ 148 Tryz.underlying148 rfl (by kernel_rfl))) rfl ⟨rfl, ?_⟩
      · exact slab_setCells (vs := badCells 2 s.size) q9 rfl
      have hb := HB9.out
      (repeat' (first | (with_reducible exact Below.refl _ _) | (with_reducible assumption) | (with_reducible refine Below.alloc ?_ ?_ _) | (with_reducible refine Below.drew ?_) | (with_reducible refine below_set ?_ ?_ _) | (with_reducible refine below_call ?_ ?_ (by assumption)) | (with_reducible exact Below.size (by assumption)) | omega | go_size))
set_option maxRecDepth 100000 in
set_option maxHeartbeats 2000000 in
theorem rthing_shut (s : ByteArray) (i : Nat) (f : Nat → Bool) (nt first : Bool) (hs : s.size ≤ 4611686018427387000) (hi : i ≤ 4611686018427387000) (w : World) (k0 : i + 1 < s.size) (hy : (bt s i == 93) = false ∨ first = true) (hC : (bt s i == 91) = false ∨ ((bt s (i + 1) == 58) = false ∧ marksB (bt s (i + 1)) = false)) (hq : (bt s (i + 1) == 45) = true) (k2 : i + 2 < s.size) (hr : (bt s (i + 2) == 93) = true) : Calls Tryz.prog 99 #[.string s, stV f i 0 0 false nt, .bool first] w fun e' w' => e' = .returned (stV (addB f (bt s i).toNat) ((i : Int) + 1) 0 0 false nt) ∧ Below w.heap.size w w' := by
  have Hq := Lib.hid hq
  rw [bt_at s (i + 1) (by omega)] at hq
  have q : (((s[i + 1]).toNat : Int) == 45) = true := (beq_int' (s[i + 1]) 45).trans hq
  have qn : (((s[i + 1]).toNat : Int) != 45) = !true := by
    have := bne_int' (s[i + 1]) 45
    rw [hq] at this
    exact this
  clear hq
  have d2 : decide (s.size ≤ i + 2) = false := by simpa using k2
  have Hr := Lib.hid hr
  rw [bt_at s (i + 2) (by omega)] at hr
  have r : (((s[i + 2]).toNat : Int) == 93) = true := (beq_int' (s[i + 2]) 93).trans hr
  have rn : (((s[i + 2]).toNat : Int) != 93) = !true := by
    have := bne_int' (s[i + 2]) 93
    rw [hr] at this
    exact this
  clear hr
  rw [bt_at s i (by omega)]
  have b0 : (s[i]'(by omega)).toNat < 256 := UInt8.toNat_lt _
  have d0 : decide (s.size ≤ i) = false := by simp; omega
  have d1 : decide (s.size ≤ i + 1) = false := by simpa using k0
  cases hv : (bt s i == 91) with
  | true =>
    have hb : bt s i = 91 := by simpa using hv
    rw [hv] at hC
    obtain ⟨hz, hm⟩ : (bt s (i + 1) == 58) = false ∧ marksB (bt s (i + 1)) = false := by simpa using hC
    clear hy hC
    have hy : (bt s i == 93) = false := by rw [hb]; rfl
    clear hb
    have Hv := Lib.hid hv
    rw [bt_at s (i) (by omega)] at hv
    have v : (((s[i]).toNat : Int) == 91) = true := (beq_int' (s[i]) 91).trans hv
    have vn : (((s[i]).toNat : Int) != 91) = !true := by
      have := bne_int' (s[i]) 91
      rw [hv] at this
      exact this
    clear hv
    have Hy := Lib.hid hy
    rw [bt_at s (i) (by omega)] at hy
    have y : (((s[i]).toNat : Int) == 93) = false := (beq_int' (s[i]) 93).trans hy
    have yn : (((s[i]).toNat : Int) != 93) = !false := by
      have := bne_int' (s[i]) 93
      rw [hy] at this
      exact this
    clear hy
    have Hz := Lib.hid hz
    rw [bt_at s (i + 1) (by omega)] at hz
    have z : (((s[i + 1]).toNat : Int) == 58) = false := (beq_int' (s[i + 1]) 58).trans hz
    have zn : (((s[i + 1]).toNat : Int) != 58) = !false := by
      have := bne_int' (s[i + 1]) 58
      rw [hz] at this
      exact this
    clear hz
    rw [bt_at s (i + 1) (by omega)] at hm
    have HM := Lib.hid hm; clear hm
    have q0 : Slab ((w.alloc (.cells (stCells f i 0 0 false nt) 148)).alloc (.cells (badCells 0 0) 148)) (w.heap.size + 1) (badCells 0 0) 148 := Slab.newAt _ _ _ (by simp)
    have HB0 : Below w.heap.size w ((w.alloc (.cells (stCells f i 0 0 false nt) 148)).alloc (.cells (badCells 0 0) 148)) := by (repeat' (first | (with_reducible exact Below.refl _ _) | (with_reducible assumption) | (with_reducible refine Below.alloc ?_ ?_ _) | (with_reducible refine Below.drew ?_) | (with_reducible refine below_set ?_ ?_ _) | (with_reducible refine below_call ?_ ?_ (by assumption)) | (with_reducible exact Below.size (by assumption)) | omega | go_size))
    have HB := Lib.hid HB0; clear HB0
    go_enter Tryz.func99, Tryz.ntmps99
    go_wp2_with fail
    refine (special_any s[i + 1] _).mono ?_
    rintro e1 w1 ⟨rfl, rfl⟩
    rw [HM.out]
    go_wp2_with fail
    refine (add1_any f i nt s[i] ((i : Int) + 1) _).mono ?_
    rintro e9 w9 ⟨rfl, hb9⟩
    have q9 := q0.callD hb9 rfl
    have HB9 := Lib.hid (below_then HB.out hb9)
    clear hb9
    obtain ⟨c9, f9⟩ := q9.facts
    go_wp2
    refine bodyPost_ret (results_cell rfl rfl (load_slab (t := 148) (cs := stCells (addB f (s[i]).toNat) ((i : Int) + 1) 0 0 false nt) ?_ 148 Tryz.underlying148 rfl (by kernel_rfl))) rfl ⟨rfl, ?_⟩
    · exact slab_setCells (vs := stCells (addB f (s[i]).toNat) ((i : Int) + 1) 0 0 false nt) q9 rfl
    have hb := HB9.out
    (repeat' (first | (with_reducible exact Below.refl _ _) | (with_reducible assumption) | (with_reducible refine Below.alloc ?_ ?_ _) | (with_reducible refine Below.drew ?_) | (with_reducible refine below_set ?_ ?_ _) | (with_reducible refine below_call ?_ ?_ (by assumption)) | (with_reducible exact Below.size (by assumption)) | omega | go_size))
  | false =>
    clear hC
    have Hv := Lib.hid hv
    rw [bt_at s (i) (by omega)] at hv
    have v : (((s[i]).toNat : Int) == 91) = false := (beq_int' (s[i]) 91).trans hv
    have vn : (((s[i]).toNat : Int) != 91) = !false := by
      have := bne_int' (s[i]) 91
      rw [hv] at this
      exact this
    clear hv
    cases hx : (bt s i == 93) with
    | false =>
      clear hy
      have hy := hx
      clear hx
      have Hy := Lib.hid hy
      rw [bt_at s (i) (by omega)] at hy
      have y : (((s[i]).toNat : Int) == 93) = false := (beq_int' (s[i]) 93).trans hy
      have yn : (((s[i]).toNat : Int) != 93) = !false := by
        have := bne_int' (s[i]) 93
        rw [hy] at this
        exact this
      clear hy
      have q0 : Slab ((w.alloc (.cells (stCells f i 0 0 false nt) 148)).alloc (.cells (badCells 0 0) 148)) (w.heap.size + 1) (badCells 0 0) 148 := Slab.newAt _ _ _ (by simp)
      have HB0 : Below w.heap.size w ((w.alloc (.cells (stCells f i 0 0 false nt) 148)).alloc (.cells (badCells 0 0) 148)) := by (repeat' (first | (with_reducible exact Below.refl _ _) | (with_reducible assumption) | (with_reducible refine Below.alloc ?_ ?_ _) | (with_reducible refine Below.drew ?_) | (with_reducible refine below_set ?_ ?_ _) | (with_reducible refine below_call ?_ ?_ (by assumption)) | (with_reducible exact Below.size (by assumption)) | omega | go_size))
      have HB := Lib.hid HB0; clear HB0
      go_enter Tryz.func99, Tryz.ntmps99
      go_wp2_with fail
      refine (add1_any f i nt s[i] ((i : Int) + 1) _).mono ?_
      rintro e9 w9 ⟨rfl, hb9⟩
      have q9 := q0.callD hb9 rfl
      have HB9 := Lib.hid (below_then HB.out hb9)
      clear hb9
      obtain ⟨c9, f9⟩ := q9.facts
      go_wp2
      refine bodyPost_ret (results_cell rfl rfl (load_slab (t := 148) (cs := stCells (addB f (s[i]).toNat) ((i : Int) + 1) 0 0 false nt) ?_ 148 Tryz.underlying148 rfl (by kernel_rfl))) rfl ⟨rfl, ?_⟩
      · exact slab_setCells (vs := stCells (addB f (s[i]).toNat) ((i : Int) + 1) 0 0 false nt) q9 rfl
      have hb := HB9.out
      (repeat' (first | (with_reducible exact Below.refl _ _) | (with_reducible assumption) | (with_reducible refine Below.alloc ?_ ?_ _) | (with_reducible refine Below.drew ?_) | (with_reducible refine below_set ?_ ?_ _) | (with_reducible refine below_call ?_ ?_ (by assumption)) | (with_reducible exact Below.size (by assumption)) | omega | go_size))
    | true =>
      rw [hx] at hy
      obtain rfl : first = true := by simpa using hy
      clear hy
      have hy := hx
      clear hx
      have Hy := Lib.hid hy
      rw [bt_at s (i) (by omega)] at hy
      have y : (((s[i]).toNat : Int) == 93) = true := (beq_int' (s[i]) 93).trans hy
      have yn : (((s[i]).toNat : Int) != 93) = !true := by
        have := bne_int' (s[i]) 93
        rw [hy] at this
        exact this
      clear hy
      have q0 : Slab ((w.alloc (.cells (stCells f i 0 0 false nt) 148)).alloc (.cells (badCells 0 0) 148)) (w.heap.size + 1) (badCells 0 0) 148 := Slab.newAt _ _ _ (by simp)
      have HB0 : Below w.heap.size w ((w.alloc (.cells (stCells f i 0 0 false nt) 148)).alloc (.cells (badCells 0 0) 148)) := by (repeat' (first | (with_reducible exact Below.refl _ _) | (with_reducible assumption) | (with_reducible refine Below.alloc ?_ ?_ _) | (with_reducible refine Below.drew ?_) | (with_reducible refine below_set ?_ ?_ _) | (with_reducible refine below_call ?_ ?_ (by assumption)) | (with_reducible exact Below.size (by assumption)) | omega | go_size))
      have HB := Lib.hid HB0; clear HB0
      go_enter Tryz.func99, Tryz.ntmps99
      go_wp2_with fail
      refine (add1_any f i nt s[i] ((i : Int) + 1) _).mono ?_
      rintro e9 w9 ⟨rfl, hb9⟩
      have q9 := q0.callD hb9 rfl
      have HB9 := Lib.hid (below_then HB.out hb9)
      clear hb9
      obtain ⟨c9, f9⟩ := q9.facts
      go_wp2
      refine bodyPost_ret (results_cell rfl rfl (load_slab (t := 148) (cs := stCells (addB f (s[i]).toNat) ((i : Int) + 1) 0 0 false nt) ?_ 148 Tryz.underlying148 rfl (by kernel_rfl))) rfl ⟨rfl, ?_⟩
      · exact slab_setCells (vs := stCells (addB f (s[i]).toNat) ((i : Int) + 1) 0 0 false nt) q9 rfl
      have hb := HB9.out
      (repeat' (first | (with_reducible exact Below.refl _ _) | (with_reducible assumption) | (with_reducible refine Below.alloc ?_ ?_ _) | (with_reducible refine Below.drew ?_) | (with_reducible refine below_set ?_ ?_ _) | (with_reducible refine below_call ?_ ?_ (by assumption)) | (with_reducible exact Below.size (by assumption)) | omega | go_size))
set_option maxRecDepth 100000 in
set_option maxHeartbeats 2000000 in
theorem rthing_less (s : ByteArray) (i : Nat) (f : Nat → Bool) (nt first : Bool) (hs : s.size ≤ 4611686018427387000) (hi : i ≤ 4611686018427387000) (w : World) (k0 : i + 1 < s.size) (hy : (bt s i == 93) = false ∨ first = true) (hC : (bt s i == 91) = false ∨ ((bt s (i + 1) == 58) = false ∧ marksB (bt s (i + 1)) = false)) (hq : (bt s (i + 1) == 45) = true) (k2 : i + 2 < s.size) (hr : (bt s (i + 2) == 93) = false) (hl : (bt s (i + 2)).toNat < (bt s i).toNat) : Calls Tryz.prog 99 #[.string s, stV f i 0 0 false nt, .bool first] w fun e' w' => e' = .returned (badV 4 ((i : Int) + 3)) ∧ Below w.heap.size w w' := by
  have Hq := Lib.hid hq
  rw [bt_at s (i + 1) (by omega)] at hq
  have q : (((s[i + 1]).toNat : Int) == 45) = true := (beq_int' (s[i + 1]) 45).trans hq
  have qn : (((s[i + 1]).toNat : Int) != 45) = !true := by
    have := bne_int' (s[i + 1]) 45
    rw [hq] at this
    exact this
  clear hq
  have d2 : decide (s.size ≤ i + 2) = false := by simpa using k2
  have Hr := Lib.hid hr
  rw [bt_at s (i + 2) (by omega)] at hr
  have r : (((s[i + 2]).toNat : Int) == 93) = false := (beq_int' (s[i + 2]) 93).trans hr
  have rn : (((s[i + 2]).toNat : Int) != 93) = !false := by
    have := bne_int' (s[i + 2]) 93
    rw [hr] at this
    exact this
  clear hr
  rw [bt_at s i (by omega), bt_at s (i + 2) (by omega)] at hl
  have d3 : decide ((s[i + 2]).toNat < (s[i]).toNat) = true := by simpa using hl
  clear hl
  have b0 : (s[i]'(by omega)).toNat < 256 := UInt8.toNat_lt _
  have d0 : decide (s.size ≤ i) = false := by simp; omega
  have d1 : decide (s.size ≤ i + 1) = false := by simpa using k0
  cases hv : (bt s i == 91) with
  | true =>
    have hb : bt s i = 91 := by simpa using hv
    rw [hv] at hC
    obtain ⟨hz, hm⟩ : (bt s (i + 1) == 58) = false ∧ marksB (bt s (i + 1)) = false := by simpa using hC
    clear hy hC
    have hy : (bt s i == 93) = false := by rw [hb]; rfl
    clear hb
    have Hv := Lib.hid hv
    rw [bt_at s (i) (by omega)] at hv
    have v : (((s[i]).toNat : Int) == 91) = true := (beq_int' (s[i]) 91).trans hv
    have vn : (((s[i]).toNat : Int) != 91) = !true := by
      have := bne_int' (s[i]) 91
      rw [hv] at this
      exact this
    clear hv
    have Hy := Lib.hid hy
    rw [bt_at s (i) (by omega)] at hy
    have y : (((s[i]).toNat : Int) == 93) = false := (beq_int' (s[i]) 93).trans hy
    have yn : (((s[i]).toNat : Int) != 93) = !false := by
      have := bne_int' (s[i]) 93
      rw [hy] at this
      exact this
    clear hy
    have Hz := Lib.hid hz
    rw [bt_at s (i + 1) (by omega)] at hz
    have z : (((s[i + 1]).toNat : Int) == 58) = false := (beq_int' (s[i + 1]) 58).trans hz
    have zn : (((s[i + 1]).toNat : Int) != 58) = !false := by
      have := bne_int' (s[i + 1]) 58
      rw [hz] at this
      exact this
    clear hz
    rw [bt_at s (i + 1) (by omega)] at hm
    have HM := Lib.hid hm; clear hm
    have q0 : Slab ((w.alloc (.cells (stCells f i 0 0 false nt) 148)).alloc (.cells (badCells 0 0) 148)) (w.heap.size + 1) (badCells 0 0) 148 := Slab.newAt _ _ _ (by simp)
    have HB0 : Below w.heap.size w ((w.alloc (.cells (stCells f i 0 0 false nt) 148)).alloc (.cells (badCells 0 0) 148)) := by (repeat' (first | (with_reducible exact Below.refl _ _) | (with_reducible assumption) | (with_reducible refine Below.alloc ?_ ?_ _) | (with_reducible refine Below.drew ?_) | (with_reducible refine below_set ?_ ?_ _) | (with_reducible refine below_call ?_ ?_ (by assumption)) | (with_reducible exact Below.size (by assumption)) | omega | go_size))
    have HB := Lib.hid HB0; clear HB0
    go_enter Tryz.func99, Tryz.ntmps99
    go_wp2_with fail
    refine (special_any s[i + 1] _).mono ?_
    rintro e1 w1 ⟨rfl, rfl⟩
    rw [HM.out]
    go_wp2_with fail
    refine (bad_any 4 ((i : Int) + 3) _).mono ?_
    rintro e9 w9 ⟨rfl, hb9⟩
    have q9 := q0.callD hb9 rfl
    have HB9 := Lib.hid (below_then HB.out hb9)
    clear hb9
    obtain ⟨c9, f9⟩ := q9.facts
    go_wp2
    refine bodyPost_ret (results_cell rfl rfl (load_slab (t := 148) (cs := badCells 4 ((i : Int) + 3)) ?_ 148 Tryz.underlying148 rfl (by kernel_rfl))) rfl ⟨rfl, ?_⟩
    · exact slab_setCells (vs := badCells 4 ((i : Int) + 3)) q9 rfl
    have hb := HB9.out
    (repeat' (first | (with_reducible exact Below.refl _ _) | (with_reducible assumption) | (with_reducible refine Below.alloc ?_ ?_ _) | (with_reducible refine Below.drew ?_) | (with_reducible refine below_set ?_ ?_ _) | (with_reducible refine below_call ?_ ?_ (by assumption)) | (with_reducible exact Below.size (by assumption)) | omega | go_size))
  | false =>
    clear hC
    have Hv := Lib.hid hv
    rw [bt_at s (i) (by omega)] at hv
    have v : (((s[i]).toNat : Int) == 91) = false := (beq_int' (s[i]) 91).trans hv
    have vn : (((s[i]).toNat : Int) != 91) = !false := by
      have := bne_int' (s[i]) 91
      rw [hv] at this
      exact this
    clear hv
    cases hx : (bt s i == 93) with
    | false =>
      clear hy
      have hy := hx
      clear hx
      have Hy := Lib.hid hy
      rw [bt_at s (i) (by omega)] at hy
      have y : (((s[i]).toNat : Int) == 93) = false := (beq_int' (s[i]) 93).trans hy
      have yn : (((s[i]).toNat : Int) != 93) = !false := by
        have := bne_int' (s[i]) 93
        rw [hy] at this
        exact this
      clear hy
      have q0 : Slab ((w.alloc (.cells (stCells f i 0 0 false nt) 148)).alloc (.cells (badCells 0 0) 148)) (w.heap.size + 1) (badCells 0 0) 148 := Slab.newAt _ _ _ (by simp)
      have HB0 : Below w.heap.size w ((w.alloc (.cells (stCells f i 0 0 false nt) 148)).alloc (.cells (badCells 0 0) 148)) := by (repeat' (first | (with_reducible exact Below.refl _ _) | (with_reducible assumption) | (with_reducible refine Below.alloc ?_ ?_ _) | (with_reducible refine Below.drew ?_) | (with_reducible refine below_set ?_ ?_ _) | (with_reducible refine below_call ?_ ?_ (by assumption)) | (with_reducible exact Below.size (by assumption)) | omega | go_size))
      have HB := Lib.hid HB0; clear HB0
      go_enter Tryz.func99, Tryz.ntmps99
      go_wp2_with fail
      refine (bad_any 4 ((i : Int) + 3) _).mono ?_
      rintro e9 w9 ⟨rfl, hb9⟩
      have q9 := q0.callD hb9 rfl
      have HB9 := Lib.hid (below_then HB.out hb9)
      clear hb9
      obtain ⟨c9, f9⟩ := q9.facts
      go_wp2
      refine bodyPost_ret (results_cell rfl rfl (load_slab (t := 148) (cs := badCells 4 ((i : Int) + 3)) ?_ 148 Tryz.underlying148 rfl (by kernel_rfl))) rfl ⟨rfl, ?_⟩
      · exact slab_setCells (vs := badCells 4 ((i : Int) + 3)) q9 rfl
      have hb := HB9.out
      (repeat' (first | (with_reducible exact Below.refl _ _) | (with_reducible assumption) | (with_reducible refine Below.alloc ?_ ?_ _) | (with_reducible refine Below.drew ?_) | (with_reducible refine below_set ?_ ?_ _) | (with_reducible refine below_call ?_ ?_ (by assumption)) | (with_reducible exact Below.size (by assumption)) | omega | go_size))
    | true =>
      rw [hx] at hy
      obtain rfl : first = true := by simpa using hy
      clear hy
      have hy := hx
      clear hx
      have Hy := Lib.hid hy
      rw [bt_at s (i) (by omega)] at hy
      have y : (((s[i]).toNat : Int) == 93) = true := (beq_int' (s[i]) 93).trans hy
      have yn : (((s[i]).toNat : Int) != 93) = !true := by
        have := bne_int' (s[i]) 93
        rw [hy] at this
        exact this
      clear hy
      have q0 : Slab ((w.alloc (.cells (stCells f i 0 0 false nt) 148)).alloc (.cells (badCells 0 0) 148)) (w.heap.size + 1) (badCells 0 0) 148 := Slab.newAt _ _ _ (by simp)
      have HB0 : Below w.heap.size w ((w.alloc (.cells (stCells f i 0 0 false nt) 148)).alloc (.cells (badCells 0 0) 148)) := by (repeat' (first | (with_reducible exact Below.refl _ _) | (with_reducible assumption) | (with_reducible refine Below.alloc ?_ ?_ _) | (with_reducible refine Below.drew ?_) | (with_reducible refine below_set ?_ ?_ _) | (with_reducible refine below_call ?_ ?_ (by assumption)) | (with_reducible exact Below.size (by assumption)) | omega | go_size))
      have HB := Lib.hid HB0; clear HB0
      go_enter Tryz.func99, Tryz.ntmps99
      go_wp2_with fail
      refine (bad_any 4 ((i : Int) + 3) _).mono ?_
      rintro e9 w9 ⟨rfl, hb9⟩
      have q9 := q0.callD hb9 rfl
      have HB9 := Lib.hid (below_then HB.out hb9)
      clear hb9
      obtain ⟨c9, f9⟩ := q9.facts
      go_wp2
      refine bodyPost_ret (results_cell rfl rfl (load_slab (t := 148) (cs := badCells 4 ((i : Int) + 3)) ?_ 148 Tryz.underlying148 rfl (by kernel_rfl))) rfl ⟨rfl, ?_⟩
      · exact slab_setCells (vs := badCells 4 ((i : Int) + 3)) q9 rfl
      have hb := HB9.out
      (repeat' (first | (with_reducible exact Below.refl _ _) | (with_reducible assumption) | (with_reducible refine Below.alloc ?_ ?_ _) | (with_reducible refine Below.drew ?_) | (with_reducible refine below_set ?_ ?_ _) | (with_reducible refine below_call ?_ ?_ (by assumption)) | (with_reducible exact Below.size (by assumption)) | omega | go_size))
set_option maxRecDepth 100000 in
set_option maxHeartbeats 2000000 in
theorem rthing_short3 (s : ByteArray) (i : Nat) (f : Nat → Bool) (nt first : Bool) (hs : s.size ≤ 4611686018427387000) (hi : i ≤ 4611686018427387000) (w : World) (k0 : i + 1 < s.size) (hy : (bt s i == 93) = false ∨ first = true) (hC : (bt s i == 91) = false ∨ ((bt s (i + 1) == 58) = false ∧ marksB (bt s (i + 1)) = false)) (hq : (bt s (i + 1) == 45) = true) (k2 : i + 2 < s.size) (hr : (bt s (i + 2) == 93) = false) (hl : ¬ (bt s (i + 2)).toNat < (bt s i).toNat) (ht : (bt s (i + 2) == 91) = true) (k3 : s.size ≤ i + 3) : Calls Tryz.prog 99 #[.string s, stV f i 0 0 false nt, .bool first] w fun e' w' => e' = .returned (badV 2 s.size) ∧ Below w.heap.size w w' := by
  have Hq := Lib.hid hq
  rw [bt_at s (i + 1) (by omega)] at hq
  have q : (((s[i + 1]).toNat : Int) == 45) = true := (beq_int' (s[i + 1]) 45).trans hq
  have qn : (((s[i + 1]).toNat : Int) != 45) = !true := by
    have := bne_int' (s[i + 1]) 45
    rw [hq] at this
    exact this
  clear hq
  have d2 : decide (s.size ≤ i + 2) = false := by simpa using k2
  have Hr := Lib.hid hr
  rw [bt_at s (i + 2) (by omega)] at hr
  have r : (((s[i + 2]).toNat : Int) == 93) = false := (beq_int' (s[i + 2]) 93).trans hr
  have rn : (((s[i + 2]).toNat : Int) != 93) = !false := by
    have := bne_int' (s[i + 2]) 93
    rw [hr] at this
    exact this
  clear hr
  have Ht := Lib.hid ht
  rw [bt_at s (i + 2) (by omega)] at ht
  have t : (((s[i + 2]).toNat : Int) == 91) = true := (beq_int' (s[i + 2]) 91).trans ht
  have tn : (((s[i + 2]).toNat : Int) != 91) = !true := by
    have := bne_int' (s[i + 2]) 91
    rw [ht] at this
    exact this
  clear ht
  have b2 : (s[i + 2]'(by omega)).toNat < 256 := UInt8.toNat_lt _
  rw [bt_at s i (by omega), bt_at s (i + 2) (by omega)] at hl
  have d3 : decide ((s[i + 2]).toNat < (s[i]).toNat) = false := by simpa using hl
  clear hl
  have d4 : decide (s.size ≤ i + 3) = true := by simpa using k3
  have b0 : (s[i]'(by omega)).toNat < 256 := UInt8.toNat_lt _
  have d0 : decide (s.size ≤ i) = false := by simp; omega
  have d1 : decide (s.size ≤ i + 1) = false := by simpa using k0
  cases hv : (bt s i == 91) with
  | true =>
    have hb : bt s i = 91 := by simpa using hv
    rw [hv] at hC
    obtain ⟨hz, hm⟩ : (bt s (i + 1) == 58) = false ∧ marksB (bt s (i + 1)) = false := by simpa using hC
    clear hy hC
    have hy : (bt s i == 93) = false := by rw [hb]; rfl
    clear hb
    have Hv := Lib.hid hv
    rw [bt_at s (i) (by omega)] at hv
    have v : (((s[i]).toNat : Int) == 91) = true := (beq_int' (s[i]) 91).trans hv
    have vn : (((s[i]).toNat : Int) != 91) = !true := by
      have := bne_int' (s[i]) 91
      rw [hv] at this
      exact this
    clear hv
    have Hy := Lib.hid hy
    rw [bt_at s (i) (by omega)] at hy
    have y : (((s[i]).toNat : Int) == 93) = false := (beq_int' (s[i]) 93).trans hy
    have yn : (((s[i]).toNat : Int) != 93) = !false := by
      have := bne_int' (s[i]) 93
      rw [hy] at this
      exact this
    clear hy
    have Hz := Lib.hid hz
    rw [bt_at s (i + 1) (by omega)] at hz
    have z : (((s[i + 1]).toNat : Int) == 58) = false := (beq_int' (s[i + 1]) 58).trans hz
    have zn : (((s[i + 1]).toNat : Int) != 58) = !false := by
      have := bne_int' (s[i + 1]) 58
      rw [hz] at this
      exact this
    clear hz
    rw [bt_at s (i + 1) (by omega)] at hm
    have HM := Lib.hid hm; clear hm
    have q0 : Slab ((w.alloc (.cells (stCells f i 0 0 false nt) 148)).alloc (.cells (badCells 0 0) 148)) (w.heap.size + 1) (badCells 0 0) 148 := Slab.newAt _ _ _ (by simp)
    have HB0 : Below w.heap.size w ((w.alloc (.cells (stCells f i 0 0 false nt) 148)).alloc (.cells (badCells 0 0) 148)) := by (repeat' (first | (with_reducible exact Below.refl _ _) | (with_reducible assumption) | (with_reducible refine Below.alloc ?_ ?_ _) | (with_reducible refine Below.drew ?_) | (with_reducible refine below_set ?_ ?_ _) | (with_reducible refine below_call ?_ ?_ (by assumption)) | (with_reducible exact Below.size (by assumption)) | omega | go_size))
    have HB := Lib.hid HB0; clear HB0
    go_enter Tryz.func99, Tryz.ntmps99
    go_wp2_with fail
    refine (special_any s[i + 1] _).mono ?_
    rintro e1 w1 ⟨rfl, rfl⟩
    rw [HM.out]
    go_wp2_with fail
    refine (bad_any 2 s.size _).mono ?_
    rintro e9 w9 ⟨rfl, hb9⟩
    have q9 := q0.callD hb9 rfl
    have HB9 := Lib.hid (below_then HB.out hb9)
    clear hb9
    obtain ⟨c9, f9⟩ := q9.facts
    go_wp2
    refine bodyPost_ret (results_cell rfl rfl (load_slab (t := 148) (cs := badCells 2 s.size) ?_ 148 Tryz.underlying148 rfl (by kernel_rfl))) rfl ⟨rfl, ?_⟩
    · exact slab_setCells (vs := badCells 2 s.size) q9 rfl
    have hb := HB9.out
    (repeat' (first | (with_reducible exact Below.refl _ _) | (with_reducible assumption) | (with_reducible refine Below.alloc ?_ ?_ _) | (with_reducible refine Below.drew ?_) | (with_reducible refine below_set ?_ ?_ _) | (with_reducible refine below_call ?_ ?_ (by assumption)) | (with_reducible exact Below.size (by assumption)) | omega | go_size))
  | false =>
    clear hC
    have Hv := Lib.hid hv
    rw [bt_at s (i) (by omega)] at hv
    have v : (((s[i]).toNat : Int) == 91) = false := (beq_int' (s[i]) 91).trans hv
    have vn : (((s[i]).toNat : Int) != 91) = !false := by
      have := bne_int' (s[i]) 91
      rw [hv] at this
      exact this
    clear hv
    cases hx : (bt s i == 93) with
    | false =>
      clear hy
      have hy := hx
      clear hx
      have Hy := Lib.hid hy
      rw [bt_at s (i) (by omega)] at hy
      have y : (((s[i]).toNat : Int) == 93) = false := (beq_int' (s[i]) 93).trans hy
      have yn : (((s[i]).toNat : Int) != 93) = !false := by
        have := bne_int' (s[i]) 93
        rw [hy] at this
        exact this
      clear hy
      have q0 : Slab ((w.alloc (.cells (stCells f i 0 0 false nt) 148)).alloc (.cells (badCells 0 0) 148)) (w.heap.size + 1) (badCells 0 0) 148 := Slab.newAt _ _ _ (by simp)
      have HB0 : Below w.heap.size w ((w.alloc (.cells (stCells f i 0 0 false nt) 148)).alloc (.cells (badCells 0 0) 148)) := by (repeat' (first | (with_reducible exact Below.refl _ _) | (with_reducible assumption) | (with_reducible refine Below.alloc ?_ ?_ _) | (with_reducible refine Below.drew ?_) | (with_reducible refine below_set ?_ ?_ _) | (with_reducible refine below_call ?_ ?_ (by assumption)) | (with_reducible exact Below.size (by assumption)) | omega | go_size))
      have HB := Lib.hid HB0; clear HB0
      go_enter Tryz.func99, Tryz.ntmps99
      go_wp2_with fail
      refine (bad_any 2 s.size _).mono ?_
      rintro e9 w9 ⟨rfl, hb9⟩
      have q9 := q0.callD hb9 rfl
      have HB9 := Lib.hid (below_then HB.out hb9)
      clear hb9
      obtain ⟨c9, f9⟩ := q9.facts
      go_wp2
      refine bodyPost_ret (results_cell rfl rfl (load_slab (t := 148) (cs := badCells 2 s.size) ?_ 148 Tryz.underlying148 rfl (by kernel_rfl))) rfl ⟨rfl, ?_⟩
      · exact slab_setCells (vs := badCells 2 s.size) q9 rfl
      have hb := HB9.out
      (repeat' (first | (with_reducible exact Below.refl _ _) | (with_reducible assumption) | (with_reducible refine Below.alloc ?_ ?_ _) | (with_reducible refine Below.drew ?_) | (with_reducible refine below_set ?_ ?_ _) | (with_reducible refine below_call ?_ ?_ (by assumption)) | (with_reducible exact Below.size (by assumption)) | omega | go_size))
    | true =>
      rw [hx] at hy
      obtain rfl : first = true := by simpa using hy
      clear hy
      have hy := hx
      clear hx
      have Hy := Lib.hid hy
      rw [bt_at s (i) (by omega)] at hy
      have y : (((s[i]).toNat : Int) == 93) = true := (beq_int' (s[i]) 93).trans hy
      have yn : (((s[i]).toNat : Int) != 93) = !true := by
        have := bne_int' (s[i]) 93
        rw [hy] at this
        exact this
      clear hy
      have q0 : Slab ((w.alloc (.cells (stCells f i 0 0 false nt) 148)).alloc (.cells (badCells 0 0) 148)) (w.heap.size + 1) (badCells 0 0) 148 := Slab.newAt _ _ _ (by simp)
      have HB0 : Below w.heap.size w ((w.alloc (.cells (stCells f i 0 0 false nt) 148)).alloc (.cells (badCells 0 0) 148)) := by (repeat' (first | (with_reducible exact Below.refl _ _) | (with_reducible assumption) | (with_reducible refine Below.alloc ?_ ?_ _) | (with_reducible refine Below.drew ?_) | (with_reducible refine below_set ?_ ?_ _) | (with_reducible refine below_call ?_ ?_ (by assumption)) | (with_reducible exact Below.size (by assumption)) | omega | go_size))
      have HB := Lib.hid HB0; clear HB0
      go_enter Tryz.func99, Tryz.ntmps99
      go_wp2_with fail
      refine (bad_any 2 s.size _).mono ?_
      rintro e9 w9 ⟨rfl, hb9⟩
      have q9 := q0.callD hb9 rfl
      have HB9 := Lib.hid (below_then HB.out hb9)
      clear hb9
      obtain ⟨c9, f9⟩ := q9.facts
      go_wp2
      refine bodyPost_ret (results_cell rfl rfl (load_slab (t := 148) (cs := badCells 2 s.size) ?_ 148 Tryz.underlying148 rfl (by kernel_rfl))) rfl ⟨rfl, ?_⟩
      · exact slab_setCells (vs := badCells 2 s.size) q9 rfl
      have hb := HB9.out
      (repeat' (first | (with_reducible exact Below.refl _ _) | (with_reducible assumption) | (with_reducible refine Below.alloc ?_ ?_ _) | (with_reducible refine Below.drew ?_) | (with_reducible refine below_set ?_ ?_ _) | (with_reducible refine below_call ?_ ?_ (by assumption)) | (with_reducible exact Below.size (by assumption)) | omega | go_size))
set_option maxRecDepth 100000 in
set_option maxHeartbeats 2000000 in
theorem rthing_spec3 (s : ByteArray) (i : Nat) (f : Nat → Bool) (nt first : Bool) (hs : s.size ≤ 4611686018427387000) (hi : i ≤ 4611686018427387000) (w : World) (k0 : i + 1 < s.size) (hy : (bt s i == 93) = false ∨ first = true) (hC : (bt s i == 91) = false ∨ ((bt s (i + 1) == 58) = false ∧ marksB (bt s (i + 1)) = false)) (hq : (bt s (i + 1) == 45) = true) (k2 : i + 2 < s.size) (hr : (bt s (i + 2) == 93) = false) (hl : ¬ (bt s (i + 2)).toNat < (bt s i).toNat) (ht : (bt s (i + 2) == 91) = true) (k3 : i + 3 < s.size) (hm3 : marksB (bt s (i + 3)) = true) : Calls Tryz.prog 99 #[.string s, stV f i 0 0 false nt, .bool first] w fun e' w' => e' = .returned (badV 3 ((i : Int) + 4)) ∧ Below w.heap.size w w' := by
  have Hq := Lib.hid hq
  rw [bt_at s (i + 1) (by omega)] at hq
  have q : (((s[i + 1]).toNat : Int) == 45) = true := (beq_int' (s[i + 1]) 45).trans hq
  have qn : (((s[i + 1]).toNat : Int) != 45) = !true := by
    have := bne_int' (s[i + 1]) 45
    rw [hq] at this
    exact this
  clear hq
  have d2 : decide (s.size ≤ i + 2) = false := by simpa using k2
  have Hr := Lib.hid hr
  rw [bt_at s (i + 2) (by omega)] at hr
  have r : (((s[i + 2]).toNat : Int) == 93) = false := (beq_int' (s[i + 2]) 93).trans hr
  have rn : (((s[i + 2]).toNat : Int) != 93) = !false := by
    have := bne_int' (s[i + 2]) 93
    rw [hr] at this
    exact this
  clear hr
  have Ht := Lib.hid ht
  rw [bt_at s (i + 2) (by omega)] at ht
  have t : (((s[i + 2]).toNat : Int) == 91) = true := (beq_int' (s[i + 2]) 91).trans ht
  have tn : (((s[i + 2]).toNat : Int) != 91) = !true := by
    have := bne_int' (s[i + 2]) 91
    rw [ht] at this
    exact this
  clear ht
  have b2 : (s[i + 2]'(by omega)).toNat < 256 := UInt8.toNat_lt _
  rw [bt_at s i (by omega), bt_at s (i + 2) (by omega)] at hl
  have d3 : decide ((s[i + 2]).toNat < (s[i]).toNat) = false := by simpa using hl
  clear hl
  have d4 : decide (s.size ≤ i + 3) = false := by simpa using k3
  rw [bt_at s (i + 3) (by omega)] at hm3
  have HM3 := Lib.hid hm3; clear hm3
  have b0 : (s[i]'(by omega)).toNat < 256 := UInt8.toNat_lt _
  have d0 : decide (s.size ≤ i) = false := by simp; omega
  have d1 : decide (s.size ≤ i + 1) = false := by simpa using k0
  cases hv : (bt s i == 91) with
  | true =>
    have hb : bt s i = 91 := by simpa using hv
    rw [hv] at hC
    obtain ⟨hz, hm⟩ : (bt s (i + 1) == 58) = false ∧ marksB (bt s (i + 1)) = false := by simpa using hC
    clear hy hC
    have hy : (bt s i == 93) = false := by rw [hb]; rfl
    clear hb
    have Hv := Lib.hid hv
    rw [bt_at s (i) (by omega)] at hv
    have v : (((s[i]).toNat : Int) == 91) = true := (beq_int' (s[i]) 91).trans hv
    have vn : (((s[i]).toNat : Int) != 91) = !true := by
      have := bne_int' (s[i]) 91
      rw [hv] at this
      exact this
    clear hv
    have Hy := Lib.hid hy
    rw [bt_at s (i) (by omega)] at hy
    have y : (((s[i]).toNat : Int) == 93) = false := (beq_int' (s[i]) 93).trans hy
    have yn : (((s[i]).toNat : Int) != 93) = !false := by
      have := bne_int' (s[i]) 93
      rw [hy] at this
      exact this
    clear hy
    have Hz := Lib.hid hz
    rw [bt_at s (i + 1) (by omega)] at hz
    have z : (((s[i + 1]).toNat : Int) == 58) = false := (beq_int' (s[i + 1]) 58).trans hz
    have zn : (((s[i + 1]).toNat : Int) != 58) = !false := by
      have := bne_int' (s[i + 1]) 58
      rw [hz] at this
      exact this
    clear hz
    rw [bt_at s (i + 1) (by omega)] at hm
    have HM := Lib.hid hm; clear hm
    have q0 : Slab ((w.alloc (.cells (stCells f i 0 0 false nt) 148)).alloc (.cells (badCells 0 0) 148)) (w.heap.size + 1) (badCells 0 0) 148 := Slab.newAt _ _ _ (by simp)
    have HB0 : Below w.heap.size w ((w.alloc (.cells (stCells f i 0 0 false nt) 148)).alloc (.cells (badCells 0 0) 148)) := by (repeat' (first | (with_reducible exact Below.refl _ _) | (with_reducible assumption) | (with_reducible refine Below.alloc ?_ ?_ _) | (with_reducible refine Below.drew ?_) | (with_reducible refine below_set ?_ ?_ _) | (with_reducible refine below_call ?_ ?_ (by assumption)) | (with_reducible exact Below.size (by assumption)) | omega | go_size))
    have HB := Lib.hid HB0; clear HB0
    go_enter Tryz.func99, Tryz.ntmps99
    go_wp2_with fail
    refine (special_any s[i + 1] _).mono ?_
    rintro e1 w1 ⟨rfl, rfl⟩
    rw [HM.out]
    go_wp2_with fail
    refine (special_any s[i + 3] _).mono ?_
    rintro e2 w2 ⟨rfl, rfl⟩
    rw [HM3.out]
    go_wp2_with fail
    refine (bad_any 3 ((i : Int) + 4) _).mono ?_
    rintro e9 w9 ⟨rfl, hb9⟩
    have q9 := q0.callD hb9 rfl
    have HB9 := Lib.hid (below_then HB.out hb9)
    clear hb9
    obtain ⟨c9, f9⟩ := q9.facts
    go_wp2
    refine bodyPost_ret (results_cell rfl rfl (load_slab (t := 148) (cs := badCells 3 ((i : Int) + 4)) ?_ 148 Tryz.underlying148 rfl (by kernel_rfl))) rfl ⟨rfl, ?_⟩
    · exact slab_setCells (vs := badCells 3 ((i : Int) + 4)) q9 rfl
    have hb := HB9.out
    (repeat' (first | (with_reducible exact Below.refl _ _) | (with_reducible assumption) | (with_reducible refine Below.alloc ?_ ?_ _) | (with_reducible refine Below.drew ?_) | (with_reducible refine below_set ?_ ?_ _) | (with_reducible refine below_call ?_ ?_ (by assumption)) | (with_reducible exact Below.size (by assumption)) | omega | go_size))
  | false =>
    clear hC
    have Hv := Lib.hid hv
    rw [bt_at s (i) (by omega)] at hv
    have v : (((s[i]).toNat : Int) == 91) = false := (beq_int' (s[i]) 91).trans hv
    have vn : (((s[i]).toNat : Int) != 91) = !false := by
      have := bne_int' (s[i]) 91
      rw [hv] at this
      exact this
    clear hv
    cases hx : (bt s i == 93) with
    | false =>
      clear hy
      have hy := hx
      clear hx
      have Hy := Lib.hid hy
      rw [bt_at s (i) (by omega)] at hy
      have y : (((s[i]).toNat : Int) == 93) = false := (beq_int' (s[i]) 93).trans hy
      have yn : (((s[i]).toNat : Int) != 93) = !false := by
        have := bne_int' (s[i]) 93
        rw [hy] at this
        exact this
      clear hy
      have q0 : Slab ((w.alloc (.cells (stCells f i 0 0 false nt) 148)).alloc (.cells (badCells 0 0) 148)) (w.heap.size + 1) (badCells 0 0) 148 := Slab.newAt _ _ _ (by simp)
      have HB0 : Below w.heap.size w ((w.alloc (.cells (stCells f i 0 0 false nt) 148)).alloc (.cells (badCells 0 0) 148)) := by (repeat' (first | (with_reducible exact Below.refl _ _) | (with_reducible assumption) | (with_reducible refine Below.alloc ?_ ?_ _) | (with_reducible refine Below.drew ?_) | (with_reducible refine below_set ?_ ?_ _) | (with_reducible refine below_call ?_ ?_ (by assumption)) | (with_reducible exact Below.size (by assumption)) | omega | go_size))
      have HB := Lib.hid HB0; clear HB0
      go_enter Tryz.func99, Tryz.ntmps99
      go_wp2_with fail
      refine (special_any s[i + 3] _).mono ?_
      rintro e2 w2 ⟨rfl, rfl⟩
      rw [HM3.out]
      go_wp2_with fail
      refine (bad_any 3 ((i : Int) + 4) _).mono ?_
      rintro e9 w9 ⟨rfl, hb9⟩
      have q9 := q0.callD hb9 rfl
      have HB9 := Lib.hid (below_then HB.out hb9)
      clear hb9
      obtain ⟨c9, f9⟩ := q9.facts
      go_wp2
      refine bodyPost_ret (results_cell rfl rfl (load_slab (t := 148) (cs := badCells 3 ((i : Int) + 4)) ?_ 148 Tryz.underlying148 rfl (by kernel_rfl))) rfl ⟨rfl, ?_⟩
      · exact slab_setCells (vs := badCells 3 ((i : Int) + 4)) q9 rfl
      have hb := HB9.out
      (repeat' (first | (with_reducible exact Below.refl _ _) | (with_reducible assumption) | (with_reducible refine Below.alloc ?_ ?_ _) | (with_reducible refine Below.drew ?_) | (with_reducible refine below_set ?_ ?_ _) | (with_reducible refine below_call ?_ ?_ (by assumption)) | (with_reducible exact Below.size (by assumption)) | omega | go_size))
    | true =>
      rw [hx] at hy
      obtain rfl : first = true := by simpa using hy
      clear hy
      have hy := hx
      clear hx
      have Hy := Lib.hid hy
      rw [bt_at s (i) (by omega)] at hy
      have y : (((s[i]).toNat : Int) == 93) = true := (beq_int' (s[i]) 93).trans hy
      have yn : (((s[i]).toNat : Int) != 93) = !true := by
        have := bne_int' (s[i]) 93
        rw [hy] at this
        exact this
      clear hy
      have q0 : Slab ((w.alloc (.cells (stCells f i 0 0 false nt) 148)).alloc (.cells (badCells 0 0) 148)) (w.heap.size + 1) (badCells 0 0) 148 := Slab.newAt _ _ _ (by simp)
      have HB0 : Below w.heap.size w ((w.alloc (.cells (stCells f i 0 0 false nt) 148)).alloc (.cells (badCells 0 0) 148)) := by (repeat' (first | (with_reducible exact Below.refl _ _) | (with_reducible assumption) | (with_reducible refine Below.alloc ?_ ?_ _) | (with_reducible refine Below.drew ?_) | (with_reducible refine below_set ?_ ?_ _) | (with_reducible refine below_call ?_ ?_ (by assumption)) | (with_reducible exact Below.size (by assumption)) | omega | go_size))
      have HB := Lib.hid HB0; clear HB0
      go_enter Tryz.func99, Tryz.ntmps99
      go_wp2_with fail
      refine (special_any s[i + 3] _).mono ?_
      rintro e2 w2 ⟨rfl, rfl⟩
      rw [HM3.out]
      go_wp2_with fail
      refine (bad_any 3 ((i : Int) + 4) _).mono ?_
      rintro e9 w9 ⟨rfl, hb9⟩
      have q9 := q0.callD hb9 rfl
      have HB9 := Lib.hid (below_then HB.out hb9)
      clear hb9
      obtain ⟨c9, f9⟩ := q9.facts
      go_wp2
      refine bodyPost_ret (results_cell rfl rfl (load_slab (t := 148) (cs := badCells 3 ((i : Int) + 4)) ?_ 148 Tryz.underlying148 rfl (by kernel_rfl))) rfl ⟨rfl, ?_⟩
      · exact slab_setCells (vs := badCells 3 ((i : Int) + 4)) q9 rfl
      have hb := HB9.out
      (repeat' (first | (with_reducible exact Below.refl _ _) | (with_reducible assumption) | (with_reducible refine Below.alloc ?_ ?_ _) | (with_reducible refine Below.drew ?_) | (with_reducible refine below_set ?_ ?_ _) | (with_reducible refine below_call ?_ ?_ (by assumption)) | (with_reducible exact Below.size (by assumption)) | omega | go_size))
set_option maxRecDepth 100000 in
set_option maxHeartbeats 2000000 in
theorem rthing_add3 (s : ByteArray) (i : Nat) (f : Nat → Bool) (nt first : Bool) (hs : s.size ≤ 4611686018427387000) (hi : i ≤ 4611686018427387000) (w : World) (k0 : i + 1 < s.size) (hy : (bt s i == 93) = false ∨ first = true) (hC : (bt s i == 91) = false ∨ ((bt s (i + 1) == 58) = false ∧ marksB (bt s (i + 1)) = false)) (hq : (bt s (i + 1) == 45) = true) (k2 : i + 2 < s.size) (hr : (bt s (i + 2) == 93) = false) (hl : ¬ (bt s (i + 2)).toNat < (bt s i).toNat) (ht : (bt s (i + 2) == 91) = true) (k3 : i + 3 < s.size) (hm3 : marksB (bt s (i + 3)) = false) : Calls Tryz.prog 99 #[.string s, stV f i 0 0 false nt, .bool first] w fun e' w' => e' = .returned (stV (fun x => f x || rangeF ((bt s i).toNat : Int) ((bt s (i + 2)).toNat : Int) x) ((i : Int) + 3) 0 0 false nt) ∧ Below w.heap.size w w' := by
  have Hq := Lib.hid hq
  rw [bt_at s (i + 1) (by omega)] at hq
  have q : (((s[i + 1]).toNat : Int) == 45) = true := (beq_int' (s[i + 1]) 45).trans hq
  have qn : (((s[i + 1]).toNat : Int) != 45) = !true := by
    have := bne_int' (s[i + 1]) 45
    rw [hq] at this
    exact this
  clear hq
  have d2 : decide (s.size ≤ i + 2) = false := by simpa using k2
  have Hr := Lib.hid hr
  rw [bt_at s (i + 2) (by omega)] at hr
  have r : (((s[i + 2]).toNat : Int) == 93) = false := (beq_int' (s[i + 2]) 93).trans hr
  have rn : (((s[i + 2]).toNat : Int) != 93) = !false := by
    have := bne_int' (s[i + 2]) 93
    rw [hr] at this
    exact this
  clear hr
  have Ht := Lib.hid ht
  rw [bt_at s (i + 2) (by omega)] at ht
  have t : (((s[i + 2]).toNat : Int) == 91) = true := (beq_int' (s[i + 2]) 91).trans ht
  have tn : (((s[i + 2]).toNat : Int) != 91) = !true := by
    have := bne_int' (s[i + 2]) 91
    rw [ht] at this
    exact this
  clear ht
  have b2 : (s[i + 2]'(by omega)).toNat < 256 := UInt8.toNat_lt _
  rw [bt_at s i (by omega), bt_at s (i + 2) (by omega)] at hl
  have d3 : decide ((s[i + 2]).toNat < (s[i]).toNat) = false := by simpa using hl
  clear hl
  have d4 : decide (s.size ≤ i + 3) = false := by simpa using k3
  rw [bt_at s (i + 3) (by omega)] at hm3
  have HM3 := Lib.hid hm3; clear hm3
  rw [bt_at s i (by omega), bt_at s (i + 2) (by omega)]
  have b0 : (s[i]'(by omega)).toNat < 256 := UInt8.toNat_lt _
  have d0 : decide (s.size ≤ i) = false := by simp; omega
  have d1 : decide (s.size ≤ i + 1) = false := by simpa using k0
  cases hv : (bt s i == 91) with
  | true =>
    have hb : bt s i = 91 := by simpa using hv
    rw [hv] at hC
    obtain ⟨hz, hm⟩ : (bt s (i + 1) == 58) = false ∧ marksB (bt s (i + 1)) = false := by simpa using hC
    clear hy hC
    have hy : (bt s i == 93) = false := by rw [hb]; rfl
    clear hb
    have Hv := Lib.hid hv
    rw [bt_at s (i) (by omega)] at hv
    have v : (((s[i]).toNat : Int) == 91) = true := (beq_int' (s[i]) 91).trans hv
    have vn : (((s[i]).toNat : Int) != 91) = !true := by
      have := bne_int' (s[i]) 91
      rw [hv] at this
      exact this
    clear hv
    have Hy := Lib.hid hy
    rw [bt_at s (i) (by omega)] at hy
    have y : (((s[i]).toNat : Int) == 93) = false := (beq_int' (s[i]) 93).trans hy
    have yn : (((s[i]).toNat : Int) != 93) = !false := by
      have := bne_int' (s[i]) 93
      rw [hy] at this
      exact this
    clear hy
    have Hz := Lib.hid hz
    rw [bt_at s (i + 1) (by omega)] at hz
    have z : (((s[i + 1]).toNat : Int) == 58) = false := (beq_int' (s[i + 1]) 58).trans hz
    have zn : (((s[i + 1]).toNat : Int) != 58) = !false := by
      have := bne_int' (s[i + 1]) 58
      rw [hz] at this
      exact this
    clear hz
    rw [bt_at s (i + 1) (by omega)] at hm
    have HM := Lib.hid hm; clear hm
    have q0 : Slab ((w.alloc (.cells (stCells f i 0 0 false nt) 148)).alloc (.cells (badCells 0 0) 148)) (w.heap.size + 1) (badCells 0 0) 148 := Slab.newAt _ _ _ (by simp)
    have HB0 : Below w.heap.size w ((w.alloc (.cells (stCells f i 0 0 false nt) 148)).alloc (.cells (badCells 0 0) 148)) := by (repeat' (first | (with_reducible exact Below.refl _ _) | (with_reducible assumption) | (with_reducible refine Below.alloc ?_ ?_ _) | (with_reducible refine Below.drew ?_) | (with_reducible refine below_set ?_ ?_ _) | (with_reducible refine below_call ?_ ?_ (by assumption)) | (with_reducible exact Below.size (by assumption)) | omega | go_size))
    have HB := Lib.hid HB0; clear HB0
    go_enter Tryz.func99, Tryz.ntmps99
    go_wp2_with fail
    refine (special_any s[i + 1] _).mono ?_
    rintro e1 w1 ⟨rfl, rfl⟩
    rw [HM.out]
    go_wp2_with fail
    refine (special_any s[i + 3] _).mono ?_
    rintro e2 w2 ⟨rfl, rfl⟩
    rw [HM3.out]
    go_wp2_with fail
    refine (add_any f i nt s[i] s[i + 2] ((i : Int) + 3) _).mono ?_
    rintro e9 w9 ⟨rfl, hb9⟩
    have q9 := q0.callD hb9 rfl
    have HB9 := Lib.hid (below_then HB.out hb9)
    clear hb9
    obtain ⟨c9, f9⟩ := q9.facts
    go_wp2
    refine bodyPost_ret (results_cell rfl rfl (load_slab (t := 148) (cs := stCells (fun x => f x || rangeF (s[i].toNat : Int) (s[i + 2].toNat : Int) x) ((i : Int) + 3) 0 0 false nt) ?_ 148 Tryz.underlying148 rfl (by kernel_rfl))) rfl ⟨rfl, ?_⟩
    · exact slab_setCells (vs := stCells (fun x => f x || rangeF (s[i].toNat : Int) (s[i + 2].toNat : Int) x) ((i : Int) + 3) 0 0 false nt) q9 rfl
    have hb := HB9.out
    (repeat' (first | (with_reducible exact Below.refl _ _) | (with_reducible assumption) | (with_reducible refine Below.alloc ?_ ?_ _) | (with_reducible refine Below.drew ?_) | (with_reducible refine below_set ?_ ?_ _) | (with_reducible refine below_call ?_ ?_ (by assumption)) | (with_reducible exact Below.size (by assumption)) | omega | go_size))
  | false =>
    clear hC
    have Hv := Lib.hid hv
    rw [bt_at s (i) (by omega)] at hv
    have v : (((s[i]).toNat : Int) == 91) = false := (beq_int' (s[i]) 91).trans hv
    have vn : (((s[i]).toNat : Int) != 91) = !false := by
      have := bne_int' (s[i]) 91
      rw [hv] at this
      exact this
    clear hv
    cases hx : (bt s i == 93) with
    | false =>
      clear hy
      have hy := hx
      clear hx
      have Hy := Lib.hid hy
      rw [bt_at s (i) (by omega)] at hy
      have y : (((s[i]).toNat : Int) == 93) = false := (beq_int' (s[i]) 93).trans hy
      have yn : (((s[i]).toNat : Int) != 93) = !false := by
        have := bne_int' (s[i]) 93
        rw [hy] at this
        exact this
      clear hy
      have q0 : Slab ((w.alloc (.cells (stCells f i 0 0 false nt) 148)).alloc (.cells (badCells 0 0) 148)) (w.heap.size + 1) (badCells 0 0) 148 := Slab.newAt _ _ _ (by simp)
      have HB0 : Below w.heap.size w ((w.alloc (.cells (stCells f i 0 0 false nt) 148)).alloc (.cells (badCells 0 0) 148)) := by (repeat' (first | (with_reducible exact Below.refl _ _) | (with_reducible assumption) | (with_reducible refine Below.alloc ?_ ?_ _) | (with_reducible refine Below.drew ?_) | (with_reducible refine below_set ?_ ?_ _) | (with_reducible refine below_call ?_ ?_ (by assumption)) | (with_reducible exact Below.size (by assumption)) | omega | go_size))
      have HB := Lib.hid HB0; clear HB0
      go_enter Tryz.func99, Tryz.ntmps99
      go_wp2_with fail
      refine (special_any s[i + 3] _).mono ?_
      rintro e2 w2 ⟨rfl, rfl⟩
      rw [HM3.out]
      go_wp2_with fail
      refine (add_any f i nt s[i] s[i + 2] ((i : Int) + 3) _).mono ?_
      rintro e9 w9 ⟨rfl, hb9⟩
      have q9 := q0.callD hb9 rfl
      have HB9 := Lib.hid (below_then HB.out hb9)
      clear hb9
      obtain ⟨c9, f9⟩ := q9.facts
      go_wp2
      refine bodyPost_ret (results_cell rfl rfl (load_slab (t := 148) (cs := stCells (fun x => f x || rangeF (s[i].toNat : Int) (s[i + 2].toNat : Int) x) ((i : Int) + 3) 0 0 false nt) ?_ 148 Tryz.underlying148 rfl (by kernel_rfl))) rfl ⟨rfl, ?_⟩
      · exact slab_setCells (vs := stCells (fun x => f x || rangeF (s[i].toNat : Int) (s[i + 2].toNat : Int) x) ((i : Int) + 3) 0 0 false nt) q9 rfl
      have hb := HB9.out
      (repeat' (first | (with_reducible exact Below.refl _ _) | (with_reducible assumption) | (with_reducible refine Below.alloc ?_ ?_ _) | (with_reducible refine Below.drew ?_) | (with_reducible refine below_set ?_ ?_ _) | (with_reducible refine below_call ?_ ?_ (by assumption)) | (with_reducible exact Below.size (by assumption)) | omega | go_size))
    | true =>
      rw [hx] at hy
      obtain rfl : first = true := by simpa using hy
      clear hy
      have hy := hx
      clear hx
      have Hy := Lib.hid hy
      rw [bt_at s (i) (by omega)] at hy
      have y : (((s[i]).toNat : Int) == 93) = true := (beq_int' (s[i]) 93).trans hy
      have yn : (((s[i]).toNat : Int) != 93) = !true := by
        have := bne_int' (s[i]) 93
        rw [hy] at this
        exact this
      clear hy
      have q0 : Slab ((w.alloc (.cells (stCells f i 0 0 false nt) 148)).alloc (.cells (badCells 0 0) 148)) (w.heap.size + 1) (badCells 0 0) 148 := Slab.newAt _ _ _ (by simp)
      have HB0 : Below w.heap.size w ((w.alloc (.cells (stCells f i 0 0 false nt) 148)).alloc (.cells (badCells 0 0) 148)) := by (repeat' (first | (with_reducible exact Below.refl _ _) | (with_reducible assumption) | (with_reducible refine Below.alloc ?_ ?_ _) | (with_reducible refine Below.drew ?_) | (with_reducible refine below_set ?_ ?_ _) | (with_reducible refine below_call ?_ ?_ (by assumption)) | (with_reducible exact Below.size (by assumption)) | omega | go_size))
      have HB := Lib.hid HB0; clear HB0
      go_enter Tryz.func99, Tryz.ntmps99
      go_wp2_with fail
      refine (special_any s[i + 3] _).mono ?_
      rintro e2 w2 ⟨rfl, rfl⟩
      rw [HM3.out]
      go_wp2_with fail
      refine (add_any f i nt s[i] s[i + 2] ((i : Int) + 3) _).mono ?_
      rintro e9 w9 ⟨rfl, hb9⟩
      have q9 := q0.callD hb9 rfl
      have HB9 := Lib.hid (below_then HB.out hb9)
      clear hb9
      obtain ⟨c9, f9⟩ := q9.facts
      go_wp2
      refine bodyPost_ret (results_cell rfl rfl (load_slab (t := 148) (cs := stCells (fun x => f x || rangeF (s[i].toNat : Int) (s[i + 2].toNat : Int) x) ((i : Int) + 3) 0 0 false nt) ?_ 148 Tryz.underlying148 rfl (by kernel_rfl))) rfl ⟨rfl, ?_⟩
      · exact slab_setCells (vs := stCells (fun x => f x || rangeF (s[i].toNat : Int) (s[i + 2].toNat : Int) x) ((i : Int) + 3) 0 0 false nt) q9 rfl
      have hb := HB9.out
      (repeat' (first | (with_reducible exact Below.refl _ _) | (with_reducible assumption) | (with_reducible refine Below.alloc ?_ ?_ _) | (with_reducible refine Below.drew ?_) | (with_reducible refine below_set ?_ ?_ _) | (with_reducible refine below_call ?_ ?_ (by assumption)) | (with_reducible exact Below.size (by assumption)) | omega | go_size))
set_option maxRecDepth 100000 in
set_option maxHeartbeats 2000000 in
theorem rthing_add (s : ByteArray) (i : Nat) (f : Nat → Bool) (nt first : Bool) (hs : s.size ≤ 4611686018427387000) (hi : i ≤ 4611686018427387000) (w : World) (k0 : i + 1 < s.size) (hy : (bt s i == 93) = false ∨ first = true) (hC : (bt s i == 91) = false ∨ ((bt s (i + 1) == 58) = false ∧ marksB (bt s (i + 1)) = false)) (hq : (bt s (i + 1) == 45) = true) (k2 : i + 2 < s.size) (hr : (bt s (i + 2) == 93) = false) (hl : ¬ (bt s (i + 2)).toNat < (bt s i).toNat) (ht : (bt s (i + 2) == 91) = false) : Calls Tryz.prog 99 #[.string s, stV f i 0 0 false nt, .bool first] w fun e' w' => e' = .returned (stV (fun x => f x || rangeF ((bt s i).toNat : Int) ((bt s (i + 2)).toNat : Int) x) ((i : Int) + 3) 0 0 false nt) ∧ Below w.heap.size w w' := by
  have Hq := Lib.hid hq
  rw [bt_at s (i + 1) (by omega)] at hq
  have q : (((s[i + 1]).toNat : Int) == 45) = true := (beq_int' (s[i + 1]) 45).trans hq
  have qn : (((s[i + 1]).toNat : Int) != 45) = !true := by
    have := bne_int' (s[i + 1]) 45
    rw [hq] at this
    exact this
  clear hq
  have d2 : decide (s.size ≤ i + 2) = false := by simpa using k2
  have Hr := Lib.hid hr
  rw [bt_at s (i + 2) (by omega)] at hr
  have r : (((s[i + 2]).toNat : Int) == 93) = false := (beq_int' (s[i + 2]) 93).trans hr
  have rn : (((s[i + 2]).toNat : Int) != 93) = !false := by
    have := bne_int' (s[i + 2]) 93
    rw [hr] at this
    exact this
  clear hr
  have Ht := Lib.hid ht
  rw [bt_at s (i + 2) (by omega)] at ht
  have t : (((s[i + 2]).toNat : Int) == 91) = false := (beq_int' (s[i + 2]) 91).trans ht
  have tn : (((s[i + 2]).toNat : Int) != 91) = !false := by
    have := bne_int' (s[i + 2]) 91
    rw [ht] at this
    exact this
  clear ht
  have b2 : (s[i + 2]'(by omega)).toNat < 256 := UInt8.toNat_lt _
  rw [bt_at s i (by omega), bt_at s (i + 2) (by omega)] at hl
  have d3 : decide ((s[i + 2]).toNat < (s[i]).toNat) = false := by simpa using hl
  clear hl
  rw [bt_at s i (by omega), bt_at s (i + 2) (by omega)]
  have b0 : (s[i]'(by omega)).toNat < 256 := UInt8.toNat_lt _
  have d0 : decide (s.size ≤ i) = false := by simp; omega
  have d1 : decide (s.size ≤ i + 1) = false := by simpa using k0
  cases hv : (bt s i == 91) with
  | true =>
    have hb : bt s i = 91 := by simpa using hv
    rw [hv] at hC
    obtain ⟨hz, hm⟩ : (bt s (i + 1) == 58) = false ∧ marksB (bt s (i + 1)) = false := by simpa using hC
    clear hy hC
    have hy : (bt s i == 93) = false := by rw [hb]; rfl
    clear hb
    have Hv := Lib.hid hv
    rw [bt_at s (i) (by omega)] at hv
    have v : (((s[i]).toNat : Int) == 91) = true := (beq_int' (s[i]) 91).trans hv
    have vn : (((s[i]).toNat : Int) != 91) = !true := by
      have := bne_int' (s[i]) 91
      rw [hv] at this
      exact this
    clear hv
    have Hy := Lib.hid hy
    rw [bt_at s (i) (by omega)] at hy
    have y : (((s[i]).toNat : Int) == 93) = false := (beq_int' (s[i]) 93).trans hy
    have yn : (((s[i]).toNat : Int) != 93) = !false := by
      have := bne_int' (s[i]) 93
      rw [hy] at this
      exact this
    clear hy
    have Hz := Lib.hid hz
    rw [bt_at s (i + 1) (by omega)] at hz
    have z : (((s[i + 1]).toNat : Int) == 58) = false := (beq_int' (s[i + 1]) 58).trans hz
    have zn : (((s[i + 1]).toNat : Int) != 58) = !false := by
      have := bne_int' (s[i + 1]) 58
      rw [hz] at this
      exact this
    clear hz
    rw [bt_at s (i + 1) (by omega)] at hm
    have HM := Lib.hid hm; clear hm
    have q0 : Slab ((w.alloc (.cells (stCells f i 0 0 false nt) 148)).alloc (.cells (badCells 0 0) 148)) (w.heap.size + 1) (badCells 0 0) 148 := Slab.newAt _ _ _ (by simp)
    have HB0 : Below w.heap.size w ((w.alloc (.cells (stCells f i 0 0 false nt) 148)).alloc (.cells (badCells 0 0) 148)) := by (repeat' (first | (with_reducible exact Below.refl _ _) | (with_reducible assumption) | (with_reducible refine Below.alloc ?_ ?_ _) | (with_reducible refine Below.drew ?_) | (with_reducible refine below_set ?_ ?_ _) | (with_reducible refine below_call ?_ ?_ (by assumption)) | (with_reducible exact Below.size (by assumption)) | omega | go_size))
    have HB := Lib.hid HB0; clear HB0
    go_enter Tryz.func99, Tryz.ntmps99
    go_wp2_with fail
    refine (special_any s[i + 1] _).mono ?_
    rintro e1 w1 ⟨rfl, rfl⟩
    rw [HM.out]
    go_wp2_with fail
    refine (add_any f i nt s[i] s[i + 2] ((i : Int) + 3) _).mono ?_
    rintro e9 w9 ⟨rfl, hb9⟩
    have q9 := q0.callD hb9 rfl
    have HB9 := Lib.hid (below_then HB.out hb9)
    clear hb9
    obtain ⟨c9, f9⟩ := q9.facts
    go_wp2
    refine bodyPost_ret (results_cell rfl rfl (load_slab (t := 148) (cs := stCells (fun x => f x || rangeF (s[i].toNat : Int) (s[i + 2].toNat : Int) x) ((i : Int) + 3) 0 0 false nt) ?_ 148 Tryz.underlying148 rfl (by kernel_rfl))) rfl ⟨rfl, ?_⟩
    · exact slab_setCells (vs := stCells (fun x => f x || rangeF (s[i].toNat : Int) (s[i + 2].toNat : Int) x) ((i : Int) + 3) 0 0 false nt) q9 rfl
    have hb := HB9.out
    (repeat' (first | (with_reducible exact Below.refl _ _) | (with_reducible assumption) | (with_reducible refine Below.alloc ?_ ?_ _) | (with_reducible refine Below.drew ?_) | (with_reducible refine below_set ?_ ?_ _) | (with_reducible refine below_call ?_ ?_ (by assumption)) | (with_reducible exact Below.size (by assumption)) | omega | go_size))
  | false =>
    clear hC
    have Hv := Lib.hid hv
    rw [bt_at s (i) (by omega)] at hv
    have v : (((s[i]).toNat : Int) == 91) = false := (beq_int' (s[i]) 91).trans hv
    have vn : (((s[i]).toNat : Int) != 91) = !false := by
      have := bne_int' (s[i]) 91
      rw [hv] at this
      exact this
    clear hv
    cases hx : (bt s i == 93) with
    | false =>
      clear hy
      have hy := hx
      clear hx
      have Hy := Lib.hid hy
      rw [bt_at s (i) (by omega)] at hy
      have y : (((s[i]).toNat : Int) == 93) = false := (beq_int' (s[i]) 93).trans hy
      have yn : (((s[i]).toNat : Int) != 93) = !false := by
        have := bne_int' (s[i]) 93
        rw [hy] at this
        exact this
      clear hy
      have q0 : Slab ((w.alloc (.cells (stCells f i 0 0 false nt) 148)).alloc (.cells (badCells 0 0) 148)) (w.heap.size + 1) (badCells 0 0) 148 := Slab.newAt _ _ _ (by simp)
      have HB0 : Below w.heap.size w ((w.alloc (.cells (stCells f i 0 0 false nt) 148)).alloc (.cells (badCells 0 0) 148)) := by (repeat' (first | (with_reducible exact Below.refl _ _) | (with_reducible assumption) | (with_reducible refine Below.alloc ?_ ?_ _) | (with_reducible refine Below.drew ?_) | (with_reducible refine below_set ?_ ?_ _) | (with_reducible refine below_call ?_ ?_ (by assumption)) | (with_reducible exact Below.size (by assumption)) | omega | go_size))
      have HB := Lib.hid HB0; clear HB0
      go_enter Tryz.func99, Tryz.ntmps99
      go_wp2_with fail
      refine (add_any f i nt s[i] s[i + 2] ((i : Int) + 3) _).mono ?_
      rintro e9 w9 ⟨rfl, hb9⟩
      have q9 := q0.callD hb9 rfl
      have HB9 := Lib.hid (below_then HB.out hb9)
      clear hb9
      obtain ⟨c9, f9⟩ := q9.facts
      go_wp2
      refine bodyPost_ret (results_cell rfl rfl (load_slab (t := 148) (cs := stCells (fun x => f x || rangeF (s[i].toNat : Int) (s[i + 2].toNat : Int) x) ((i : Int) + 3) 0 0 false nt) ?_ 148 Tryz.underlying148 rfl (by kernel_rfl))) rfl ⟨rfl, ?_⟩
      · exact slab_setCells (vs := stCells (fun x => f x || rangeF (s[i].toNat : Int) (s[i + 2].toNat : Int) x) ((i : Int) + 3) 0 0 false nt) q9 rfl
      have hb := HB9.out
      (repeat' (first | (with_reducible exact Below.refl _ _) | (with_reducible assumption) | (with_reducible refine Below.alloc ?_ ?_ _) | (with_reducible refine Below.drew ?_) | (with_reducible refine below_set ?_ ?_ _) | (with_reducible refine below_call ?_ ?_ (by assumption)) | (with_reducible exact Below.size (by assumption)) | omega | go_size))
    | true =>
      rw [hx] at hy
      obtain rfl : first = true := by simpa using hy
      clear hy
      have hy := hx
      clear hx
      have Hy := Lib.hid hy
      rw [bt_at s (i) (by omega)] at hy
      have y : (((s[i]).toNat : Int) == 93) = true := (beq_int' (s[i]) 93).trans hy
      have yn : (((s[i]).toNat : Int) != 93) = !true := by
        have := bne_int' (s[i]) 93
        rw [hy] at this
        exact this
      clear hy
      have q0 : Slab ((w.alloc (.cells (stCells f i 0 0 false nt) 148)).alloc (.cells (badCells 0 0) 148)) (w.heap.size + 1) (badCells 0 0) 148 := Slab.newAt _ _ _ (by simp)
      have HB0 : Below w.heap.size w ((w.alloc (.cells (stCells f i 0 0 false nt) 148)).alloc (.cells (badCells 0 0) 148)) := by (repeat' (first | (with_reducible exact Below.refl _ _) | (with_reducible assumption) | (with_reducible refine Below.alloc ?_ ?_ _) | (with_reducible refine Below.drew ?_) | (with_reducible refine below_set ?_ ?_ _) | (with_reducible refine below_call ?_ ?_ (by assumption)) | (with_reducible exact Below.size (by assumption)) | omega | go_size))
      have HB := Lib.hid HB0; clear HB0
      go_enter Tryz.func99, Tryz.ntmps99
      go_wp2_with fail
      refine (add_any f i nt s[i] s[i + 2] ((i : Int) + 3) _).mono ?_
      rintro e9 w9 ⟨rfl, hb9⟩
      have q9 := q0.callD hb9 rfl
      have HB9 := Lib.hid (below_then HB.out hb9)
      clear hb9
      obtain ⟨c9, f9⟩ := q9.facts
      go_wp2
      refine bodyPost_ret (results_cell rfl rfl (load_slab (t := 148) (cs := stCells (fun x => f x || rangeF (s[i].toNat : Int) (s[i + 2].toNat : Int) x) ((i : Int) + 3) 0 0 false nt) ?_ 148 Tryz.underlying148 rfl (by kernel_rfl))) rfl ⟨rfl, ?_⟩
      · exact slab_setCells (vs := stCells (fun x => f x || rangeF (s[i].toNat : Int) (s[i + 2].toNat : Int) x) ((i : Int) + 3) 0 0 false nt) q9 rfl
      have hb := HB9.out
      (repeat' (first | (with_reducible exact Below.refl _ _) | (with_reducible assumption) | (with_reducible refine Below.alloc ?_ ?_ _) | (with_reducible refine Below.drew ?_) | (with_reducible refine below_set ?_ ?_ _) | (with_reducible refine below_call ?_ ?_ (by assumption)) | (with_reducible exact Below.size (by assumption)) | omega | go_size))
end Go.Proofs.YtfcgmgpcbenfpaaGreat

/- Walks of the package gimletref03: a thing, whatever it is; Read. -/
namespace Go.Proofs.YtfcgmgpcbenfpaaGreat
open Go.RowKit SetP BrkP
theorem bne_false {b k : UInt8} (h : (b == k) = true) : ¬ (b != k) = true := by unfold bne; rw [h]; simp
theorem bne_true {b k : UInt8} (h : (b == k) = false) : (b != k) = true := by unfold bne; rw [h]; rfl
set_option maxRecDepth 100000 in
theorem rspan_any (s : ByteArray) (i : Nat) (f : Nat → Bool) (nt first : Bool) (hs : s.size ≤ 4611686018427387000) (hi : i ≤ 4611686018427387000) (w : World) (k0 : i + 1 < s.size) (hy : (bt s i == 93) = false ∨ first = true) (hC : (bt s i == 91) = false ∨ ((bt s (i + 1) == 58) = false ∧ marksB (bt s (i + 1)) = false)) : Calls Tryz.prog 99 #[.string s, stV f i 0 0 false nt, .bool first] w fun e' w' => e' = .returned (resV3 nt (spanF s i f (bt s i))) ∧ Below w.heap.size w w' := by
  have n1 : ¬ s.size ≤ i + 1 := by omega
  cases hq : (bt s (i + 1) == 45) with
  | false =>
    have e : spanF s i f (bt s i) = .go (i + 1) (addB f (bt s i).toNat) := by unfold spanF; rw [if_neg n1, if_pos (bne_true hq)]
    rw [e]; exact rthing_one s i f nt first hs hi w k0 hy hC hq
  | true =>
  by_cases k2 : s.size ≤ i + 2
  · have e : spanF s i f (bt s i) = .bad 2 s.size := by unfold spanF; rw [if_neg n1, if_neg (bne_false hq), if_pos k2]
    rw [e]; exact rthing_short2 s i f nt first hs hi w k0 hy hC hq k2
  cases hr : (bt s (i + 2) == 93) with
  | true =>
    have e : spanF s i f (bt s i) = .go (i + 1) (addB f (bt s i).toNat) := by unfold spanF; rw [if_neg n1, if_neg (bne_false hq), if_neg k2, if_pos hr]
    rw [e]; exact rthing_shut s i f nt first hs hi w k0 hy hC hq (by omega) hr
  | false =>
  by_cases hl : (bt s (i + 2)).toNat < (bt s i).toNat
  · have e : spanF s i f (bt s i) = .bad 4 (i + 3) := by unfold spanF; rw [if_neg n1, if_neg (bne_false hq), if_neg k2, if_neg (by rw [hr]; simp), if_pos hl]
    rw [e]; exact rthing_less s i f nt first hs hi w k0 hy hC hq (by omega) hr hl
  cases ht : (bt s (i + 2) == 91) with
  | false =>
    have e : spanF s i f (bt s i) = .go (i + 3) (fun x => f x || rangeF (bt s i).toNat (bt s (i + 2)).toNat x) := by
      unfold spanF; rw [if_neg n1, if_neg (bne_false hq), if_neg k2, if_neg (by rw [hr]; simp), if_neg hl, if_neg (by rw [ht]; simp), if_neg (by rw [ht]; simp)]
    rw [e]; exact rthing_add s i f nt first hs hi w k0 hy hC hq (by omega) hr hl ht
  | true =>
  by_cases k3 : s.size ≤ i + 3
  · have e : spanF s i f (bt s i) = .bad 2 s.size := by
      unfold spanF; rw [if_neg n1, if_neg (bne_false hq), if_neg k2, if_neg (by rw [hr]; simp), if_neg hl, if_pos (by rw [ht]; simpa using k3)]
    rw [e]; exact rthing_short3 s i f nt first hs hi w k0 hy hC hq (by omega) hr hl ht k3
  cases hm : marksB (bt s (i + 3)) with
  | true =>
    have e : spanF s i f (bt s i) = .bad 3 (i + 4) := by
      unfold spanF; rw [if_neg n1, if_neg (bne_false hq), if_neg k2, if_neg (by rw [hr]; simp), if_neg hl, if_neg (by simp [k3]), if_pos (by rw [ht, hm]; rfl)]
    rw [e]; exact rthing_spec3 s i f nt first hs hi w k0 hy hC hq (by omega) hr hl ht (by omega) hm
  | false =>
    have e : spanF s i f (bt s i) = .go (i + 3) (fun x => f x || rangeF (bt s i).toNat (bt s (i + 2)).toNat x) := by
      unfold spanF; rw [if_neg n1, if_neg (bne_false hq), if_neg k2, if_neg (by rw [hr]; simp), if_neg hl, if_neg (by simp [k3]), if_neg (by rw [hm]; simp)]
    rw [e]; exact rthing_add3 s i f nt first hs hi w k0 hy hC hq (by omega) hr hl ht (by omega) hm
set_option maxRecDepth 100000 in
theorem rthing_any (s : ByteArray) (i : Nat) (f : Nat → Bool) (nt first : Bool) (hs : s.size ≤ 4611686018427387000) (hi : i ≤ 4611686018427387000) (w : World) : Calls Tryz.prog 99 #[.string s, stV f i 0 0 false nt, .bool first] w fun e' w' => e' = .returned (rthing s i f nt first) ∧ Below w.heap.size w w' := by
  unfold rthing
  by_cases k0 : s.size ≤ i
  · rw [if_pos k0]; exact rthing_out s i f nt first hs hi w k0
  rw [if_neg k0]
  cases hy : (bt s i == 93 && !first) with
  | true =>
    simp only [Bool.and_eq_true, Bool.not_eq_true'] at hy
    rw [if_pos rfl]; exact rthing_end s i f nt first hs hi w (by omega) hy.1 hy.2
  | false =>
    rw [if_neg (by simp)]
    have hy' : (bt s i == 93) = false ∨ first = true := by
      cases h : (bt s i == 93)
      · exact .inl rfl
      · right; rw [h] at hy; simpa using hy
    by_cases k1 : s.size ≤ i + 1
    · have e : thingF s i f = .bad 2 s.size := by unfold thingF spanF; simp [k1]
      rw [e]; exact rthing_short s i f nt first hs hi w (by omega) hy' k1
    cases hv : (bt s i == 91) with
    | false =>
      have e : thingF s i f = spanF s i f (bt s i) := by unfold thingF; rw [if_neg (by rw [hv]; simp)]
      rw [e]; exact rspan_any s i f nt first hs hi w (by omega) hy' (.inl hv)
    | true =>
      cases hz : (bt s (i + 1) == 58) with
      | true =>
        have e : thingF s i f = classGo s (i + 2) f (i + 2) := by unfold thingF; rw [if_pos hv, if_neg k1, if_pos hz]
        rw [e]; exact rthing_name s i f nt first hs hi w (by omega) hv hz
      | false =>
        cases hm : marksB (bt s (i + 1)) with
        | true =>
          have e : thingF s i f = .bad 3 (i + 2) := by unfold thingF; rw [if_pos hv, if_neg k1, if_neg (by rw [hz]; simp), if_pos hm]
          rw [e]; exact rthing_spec s i f nt first hs hi w (by omega) hv hz hm
        | false =>
          have hb : bt s i = 91 := by simpa using hv
          have e : thingF s i f = spanF s i f (bt s i) := by unfold thingF; rw [if_pos hv, if_neg k1, if_neg (by rw [hz]; simp), if_neg (by rw [hm]; simp), hb]
          rw [e]; exact rspan_any s i f nt first hs hi w (by omega) hy' (.inr ⟨hz, hm⟩)
end Go.Proofs.YtfcgmgpcbenfpaaGreat

/- Walks of the package gimletref03: Read. -/
namespace Go.Proofs.YtfcgmgpcbenfpaaGreat
open Go.RowKit SetP BrkP
theorem wpList_store_slab {P : Program} {ops : Array Oper} {rest : List Oper} {op : Oper} {a : Act} {w : World} {Q : Exit → Act → World → Prop} (hgd : op.guard = none) (ty : TypeId) (x y : Operand) (ho : op.op = .store ty x y)
    (g : Nat) (cells cs : Array Value) (t : TypeId) (hx : a.eval x = .pointer (some ⟨g, 0, none⟩)) (hy : a.eval y = .agg cells)
    (o : Slab w g cs t) (hz : cells.size = cs.size) (hi : (P.info? ty).map (·.size) = some cells.size) (h1 : cells.all (·.oneCell') = true)
    (h : ∀ w', Slab w' g cells t → Only g w w' → wpList P ops Q rest (a.put op.dst undef) w') : wpList P ops Q (op :: rest) a w := by
  refine wpList_store_mid hgd ty x y ho g 0 cells hx hy (there_slab o hz) hi h1 (h _ (slab_setCells o hz) ?_)
  have key : ∀ (vs : List Value) (k : Nat) (u : World), Only g w u → Only g w (u.setCells g k vs) := by
    intro vs
    induction vs with
    | nil => exact fun _ _ h => h
    | cons v r ih => exact fun k u h => ih (k + 1) _ (h.set k v)
  exact key _ _ _ (Only.refl _ _)
abbrev rbresV (a : Ans) : Value := .tuple #[setV a.set, .int .i64 a.stop, .int .i64 a.err, .int .i64 a.place]
def mSt (n : Nat) (g : Nat) (wr : World) : Nat := match wr.cell? ⟨g, 7, none⟩ with
  | some (.bool true) => 0
  | _ => n + 3 - (intOf ((wr.cell? ⟨g, 4, none⟩).getD undef)).toNat
theorem mSt_eq {n g : Nat} {wr : World} {f : Nat → Bool} {k e p : Int} {en nt : Bool} {t : TypeId} (h : Slab wr g (stCells f k e p en nt) t) : mSt n g wr = if en then 0 else n + 3 - k.toNat := by
  unfold mSt
  rw [h.cell 7, h.cell 4]
  cases en <;> rfl
theorem loopF_out' {s : ByteArray} {first i : Nat} {f : Nat → Bool} (h : s.size ≤ i) : loopF s first i f = .bad 2 s.size := by rw [loopF, dif_pos h]
theorem loopF_end' {s : ByteArray} {first i : Nat} {f : Nat → Bool} (h : i < s.size) (hb : (bt s i == 93) = true) (hf : first < i) : loopF s first i f = .go (i + 1) f := by
  rw [loopF, dif_neg (by omega), if_pos (by rw [hb]; simpa using hf)]
theorem closeF_bad' {s : ByteArray} {from_ j p : Nat} {f : Nat → Bool} {e : Int} (h : closeF s from_ j f = .bad e p) : e ≠ 0 := by
  unfold closeF at h
  split at h
  · cases h; decide
  · split at h
    · cases h; decide
    · split at h
      · cases h
      · cases h; decide
theorem classGo_badE' {s : ByteArray} {from_ p : Nat} {f : Nat → Bool} {e : Int} (j : Nat) (h : classGo s from_ f j = .bad e p) : e ≠ 0 := by
  induction hn : s.size - j using Nat.strongRecOn generalizing j with
  | _ n ih =>
    rw [classGo] at h
    split at h
    · cases h; decide
    · split at h
      · exact closeF_bad' h
      · split at h
        · exact ih (s.size - (j + 1)) (by omega) (j + 1) h rfl
        · cases h; decide
theorem spanF_bad' {s : ByteArray} {i p : Nat} {f : Nat → Bool} {c : UInt8} {e : Int} (h : spanF s i f c = .bad e p) : e ≠ 0 := by
  unfold spanF at h
  split at h
  · cases h; decide
  split at h
  · cases h
  split at h
  · cases h; decide
  split at h
  · cases h
  split at h
  · cases h; decide
  split at h
  · cases h; decide
  split at h
  · cases h; decide
  · cases h
theorem thingF_bad' {s : ByteArray} {i p : Nat} {f : Nat → Bool} {e : Int} (h : thingF s i f = .bad e p) : e ≠ 0 := by
  unfold thingF at h
  split at h
  · split at h
    · cases h; decide
    · split at h
      · exact classGo_badE' _ h
      · split at h
        · cases h; decide
        · exact spanF_bad' h
  · exact spanF_bad' h
theorem stPut {w : World} {g : Nat} {f : Nat → Bool} {k e p : Int} {en nt : Bool} (o : Slab w g (stCells f k e p en nt) 148) (h : Nat → Bool) :
    Slab ((((w.setCell ⟨g, 0, none⟩ (.int .u64 (wd h 0))).setCell ⟨g, 1, none⟩ (.int .u64 (wd h 1))).setCell ⟨g, 2, none⟩ (.int .u64 (wd h 2))).setCell ⟨g, 3, none⟩ (.int .u64 (wd h 3))) g (stCells h k e p en nt) 148 :=
  (((o.set 0 _).set 1 _).set 2 _).set 3 _
set_option maxRecDepth 100000 in
set_option maxHeartbeats 2000000 in
theorem rread3_any (s : ByteArray) (a : Int) (hs : s.size ≤ 4611686018427387000) (w : World) :
    Calls Tryz.prog 81 #[.string s, .int .i64 a] w fun e w' => e = .returned (rbresV (readB s a)) ∧ Below w.heap.size w w' := by
  obtain ⟨R, hR⟩ : ∃ R, readB s a = R := ⟨_, rfl⟩
  rw [hR]
  have HR := Lib.hid hR; clear hR
  cases h0 : decide (a < 0) with
  | true =>
    have k0 : a < 0 := by simpa using h0
    have K0 := Lib.hid k0; clear k0
    go_enter Tryz.func81, Tryz.ntmps81
    obtain ⟨c0, f0⟩ := Slab.facts (Slab.new w (cells4 fun _ => false) 49)
    go_wp2
    refine bodyPost_ret (v := rbresV ⟨fun _ => false, 0, 1, 0⟩) (by simp [results, Tryz.results81, go_sem, wd_zero]) rfl ⟨by rw [← HR.out]; unfold readB; rw [if_pos (.inl K0.out)], by (repeat' (first | (with_reducible exact Below.refl _ _) | (with_reducible assumption) | (with_reducible refine Below.alloc ?_ ?_ _) | (with_reducible refine Below.drew ?_) | (with_reducible refine below_set ?_ ?_ _) | (with_reducible refine below_call ?_ ?_ (by assumption)) | (with_reducible exact Below.size (by assumption)) | omega | go_size))⟩
  | false =>
  cases h1 : decide ((s.size : Int) ≤ a) with
  | true =>
    have k0 : (s.size : Int) ≤ a := by simpa using h1
    have K0 := Lib.hid k0; clear k0
    go_enter Tryz.func81, Tryz.ntmps81
    obtain ⟨c0, f0⟩ := Slab.facts (Slab.new w (cells4 fun _ => false) 49)
    go_wp2
    refine bodyPost_ret (v := rbresV ⟨fun _ => false, 0, 1, 0⟩) (by simp [results, Tryz.results81, go_sem, wd_zero]) rfl ⟨by rw [← HR.out]; unfold readB; rw [if_pos (.inr K0.out)], by (repeat' (first | (with_reducible exact Below.refl _ _) | (with_reducible assumption) | (with_reducible refine Below.alloc ?_ ?_ _) | (with_reducible refine Below.drew ?_) | (with_reducible refine below_set ?_ ?_ _) | (with_reducible refine below_call ?_ ?_ (by assumption)) | (with_reducible exact Below.size (by assumption)) | omega | go_size))⟩
  | false =>
  have h0' : 0 ≤ a := by simpa using h0
  have h1' : a < s.size := by simpa using h1
  clear h0 h1
  obtain ⟨a, rfl⟩ := Int.eq_ofNat_of_zero_le h0'
  have hlt : a < s.size := by omega
  have hbt := Lib.hid (bt_at s a hlt)
  cases hy : (bt s a == 91) with
  | false =>
    have HY := Lib.hid hy
    rw [hbt.out] at hy
    have y : (((s[a]).toNat : Int) == 91) = false := (beq_int' (s[a]) 91).trans hy
    have yn : (((s[a]).toNat : Int) != 91) = !false := by
      have := bne_int' (s[a]) 91
      rw [hy] at this
      exact this
    clear hy
    go_enter Tryz.func81, Tryz.ntmps81
    obtain ⟨c0, f0⟩ := Slab.facts (Slab.new w (cells4 fun _ => false) 49)
    go_wp2
    refine bodyPost_ret (v := rbresV ⟨fun _ => false, 0, 1, 0⟩) (by simp [results, Tryz.results81, go_sem, wd_zero]) rfl ⟨by rw [← HR.out]; unfold readB; rw [if_neg (by omega), if_pos (by show (bt s a != 91) = true; unfold bne; rw [HY.out]; rfl)], by (repeat' (first | (with_reducible exact Below.refl _ _) | (with_reducible assumption) | (with_reducible refine Below.alloc ?_ ?_ _) | (with_reducible refine Below.drew ?_) | (with_reducible refine below_set ?_ ?_ _) | (with_reducible refine below_call ?_ ?_ (by assumption)) | (with_reducible exact Below.size (by assumption)) | omega | go_size))⟩
  | true =>
  have HY := Lib.hid hy
  rw [hbt.out] at hy
  have y : (((s[a]).toNat : Int) == 91) = true := (beq_int' (s[a]) 91).trans hy
  have yn : (((s[a]).toNat : Int) != 91) = !true := by
    have := bne_int' (s[a]) 91
    rw [hy] at this
    exact this
  clear hy
  have d0 : decide ((a : Int) < 0) = false := by simp
  have d1 : decide (s.size ≤ a) = false := by simpa using hlt
  clear h0' h1'
  cases hn : (bt s (a + 1) == 94) with
  | true =>
    have k1 : a + 1 < s.size := by
      by_cases h : a + 1 < s.size
      · exact h
      · exfalso
        have : bt s (a + 1) = 0 := by
          unfold bt
          rw [List.getD_eq_getElem?_getD, List.getElem?_eq_none (by simp; omega)]; rfl
        rw [this] at hn; exact absurd hn (by decide)
    have d2 : decide (a + 1 < s.size) = true := by simpa using k1
    have HN := Lib.hid hn
    rw [bt_at s (a + 1) k1] at hn
    have n : (((s[a + 1]).toNat : Int) == 94) = true := (beq_int' (s[a + 1]) 94).trans hn
    have nn : (((s[a + 1]).toNat : Int) != 94) = !true := by
      have := bne_int' (s[a + 1]) 94
      rw [hn] at this
      exact this
    clear hn
    go_enter Tryz.func81, Tryz.ntmps81
    go_wp2
    have o0 : Slab ((w.alloc (.cells zero4 49)).alloc (.cells #[.int .u64 0, .int .u64 0, .int .u64 0, .int .u64 0, .int .i64 ((a : Int) + 2), .int .i64 0, .int .i64 0, .bool false, .bool true] 148)) (w.heap.size + 1) (stCells (fun _ => false) ((a : Int) + 2) 0 0 false true) 148 := by
      simp only [stCells, wd_zero]; exact Slab.newAt _ _ _ (by simp)
    have p0 : Slab ((w.alloc (.cells zero4 49)).alloc (.cells #[.int .u64 0, .int .u64 0, .int .u64 0, .int .u64 0, .int .i64 ((a : Int) + 2), .int .i64 0, .int .i64 0, .bool false, .bool true] 148)) w.heap.size zero4 49 := (Slab.new _ _ _).alloc _
    have HB0 : Below w.heap.size w ((w.alloc (.cells zero4 49)).alloc (.cells #[.int .u64 0, .int .u64 0, .int .u64 0, .int .u64 0, .int .i64 ((a : Int) + 2), .int .i64 0, .int .i64 0, .bool false, .bool true] 148)) := by (repeat' (first | (with_reducible exact Below.refl _ _) | (with_reducible assumption) | (with_reducible refine Below.alloc ?_ ?_ _) | (with_reducible refine Below.drew ?_) | (with_reducible refine below_set ?_ ?_ _) | (with_reducible refine below_call ?_ ?_ (by assumption)) | (with_reducible exact Below.size (by assumption)) | omega | go_size))
    obtain ⟨Q, hQ⟩ : ∃ Q, loopF s (a + 2) (a + 2) (fun _ => false) = Q := ⟨_, rfl⟩
    have ha : R = ansOf true Q := by
      rw [← HR.out, ← hQ]; unfold readB
      rw [if_neg (by omega), if_neg (by show ¬ (bt s a != 91) = true; unfold bne; rw [HY.out]; simp)]
      show (if (bt s (a + 1) == 94) = true then _ else _) = _
      rw [HN.out]; rfl
    have HA := Lib.hid ha; clear ha
    have HQ := Lib.hid hQ; clear hQ
    obtain ⟨nt, hnt⟩ : ∃ nt : Bool, nt = true := ⟨_, rfl⟩
    go_loopw [9] (fun x wr => ∃ (k : Nat) (f : Nat → Bool) (en first : Bool), x = .bool first ∧ Slab wr (w.heap.size + 1) (stCells f k 0 0 en nt) 148 ∧ Slab wr w.heap.size zero4 49 ∧ Below w.heap.size w wr ∧
        ((en = false ∧ a + 2 ≤ k ∧ (k ≤ s.size ∨ k = a + 2) ∧ first = decide (k = a + 2) ∧ loopF s (a + 2) k f = Q) ∨ (en = true ∧ k ≤ s.size ∧ Q = .go k f)))
      (fun _ wr => mSt s.size (w.heap.size + 1) wr)
    case atStart => subst hnt; exact ⟨a + 2, _, false, true, rfl, o0, p0, HB0, .inl ⟨rfl, Nat.le_refl _, .inr rfl, by simp, HQ.out⟩⟩
    case round =>
      clear o0 p0 HB0
      obtain ⟨k, f, en, first, rfl, o, p, hB, hor⟩ := hrel
      have hne : w.heap.size ≠ w.heap.size + 1 := by omega
      have hgl := o.lt
      have HB := Lib.hid hB; clear hB
      rcases hor with ⟨rfl, hk0, hk1, hfi, hL⟩ | ⟨rfl, hk, hQ⟩
      · have HL := Lib.hid hL; clear hL
        have hk2 : k ≤ 4611686018427387000 := by omega
        have HK := Lib.hid hk1; clear hk1
        have C := rthing_any s k f nt first hs hk2
        have hfe : (!first) = decide (a + 2 < k) := by rw [hfi, Bool.eq_iff_iff]; simp; omega
        have HF := Lib.hid hfe; clear hfe hfi
        clear hnt
        unfold rthing at C
        by_cases hlt : s.size ≤ k
        · rw [if_pos hlt] at C
          obtain ⟨c1, f1⟩ := Slab.facts (o)
          obtain ⟨c2, f2⟩ := Slab.facts (p)
          have e5n : ((2 : Int) != 0) = true := by simp; try omega
          have e5q : ((2 : Int) == 0) = false := by simp; try omega
          go_wp2_with fail
          refine (C _).mono ?_
          rintro e3 w3 ⟨rfl, hb3⟩
          have o3 := o.call hb3
          have p3 := p.call hb3
          have HB3 := Lib.hid (below_then HB.out hb3)
          clear hb3
          clear o p c1 f1 c2 f2 HB C
          go_wp2_with (refine wpList_store_slab ?r1 148 (.tmp 8) (.tmp 50) ?r2 (w.heap.size + 1) (badCells 2 (s.size : Int)) _ _ ?r3 ?r4 o3 ?r5 ?r6 ?r7 ?_; (case r1 => rfl); (case r2 => rfl); (case r3 => rfl); (case r4 => rfl); (case r5 => rfl); (case r6 => kernel_rfl); (case r7 => simp [Value.oneCell']); intro W4 o4 ho4; have p4 := p3.only ho4 hne; have HB4 := Lib.hid (below_only HB3.out ho4 (Nat.le_succ _) HB3.out.size); clear o3 p3 HB3 ho4; obtain ⟨c5, f5⟩ := o4.facts; obtain ⟨c6, f6⟩ := p4.facts)
          go_region_held3 (fun w' => w'.cell? ⟨w.heap.size + 1, 5, none⟩ = some (.int .i64 2) ∧ w'.cell? ⟨w.heap.size + 1, 6, none⟩ = some (.int .i64 (s.size : Int))) (simp [*, go_sem]) (fail)
          all_goals
            go_wp2
            refine bodyPost_ret (v := rbresV ⟨fun _ => false, 0, 2, (s.size : Int)⟩) (by simp [results, Tryz.results81, go_sem, wd_zero, c6, f6]) rfl ⟨congrArg (fun r => Ending.returned (rbresV r)) ?_, ?_⟩
            · rw [HA.out, ← HL.out]; rw [loopF_out' hlt]; rfl
            · have hb := HB4.out
              (repeat' (first | (with_reducible exact Below.refl _ _) | (with_reducible assumption) | (with_reducible refine Below.alloc ?_ ?_ _) | (with_reducible refine Below.drew ?_) | (with_reducible refine below_set ?_ ?_ _) | (with_reducible refine below_call ?_ ?_ (by assumption)) | (with_reducible exact Below.size (by assumption)) | omega | go_size))
        · rw [if_neg hlt] at C
          have hlt' : k < s.size := by omega
          cases hb : (bt s k == 93 && !first) with
          | true =>
            rw [hb, if_pos rfl] at C
            simp only [Bool.and_eq_true] at hb
            have hfk : a + 2 < k := by have := HF.out; rw [hb.2] at this; simpa using this.symm
            have hend := loopF_end' (first := a + 2) (f := f) hlt' hb.1 hfk
            have HEnd := Lib.hid hend; clear hend hb
            obtain ⟨c1, f1⟩ := Slab.facts (o)
            obtain ⟨c2, f2⟩ := Slab.facts (p)
            go_wp2_with fail
            refine (C _).mono ?_
            rintro e3 w3 ⟨rfl, hb3⟩
            have o3 := o.call hb3
            have p3 := p.call hb3
            have HB3 := Lib.hid (below_then HB.out hb3)
            clear hb3
            have ho := Lib.hid o
            clear o p c1 f1 c2 f2 HB C
            go_wp2_with (refine wpList_store_slab ?r1 148 (.tmp 8) (.tmp 50) ?r2 (w.heap.size + 1) (stCells f (k + 1 : Nat) 0 0 true nt) _ _ ?r3 ?r4 o3 ?r5 ?r6 ?r7 ?_; (case r1 => rfl); (case r2 => rfl); (case r3 => rfl); (case r4 => rfl); (case r5 => rfl); (case r6 => kernel_rfl); (case r7 => simp [Value.oneCell']); intro W4 o4 ho4; have p4 := p3.only ho4 hne; have HB4 := Lib.hid (below_only HB3.out ho4 (Nat.le_succ _) HB3.out.size); clear o3 p3 HB3 ho4; obtain ⟨c5, f5⟩ := o4.facts; obtain ⟨c6, f6⟩ := p4.facts)
            go_roundw
            case rel =>
              refine ⟨k + 1, f, true, false, rfl, o4, p4, HB4.out, ?_⟩
              exact .inr ⟨rfl, by omega, by rw [← HL.out, HEnd.out]⟩
            case measure =>
              rw [mSt_eq ho.out, mSt_eq o4]
              simp; try omega
          | false =>
            rw [hb, if_neg (by simp)] at C
            have he : (bt s k == 93 && decide (a + 2 < k)) = false := by rw [← HF.out]; exact hb
            have hst := loopF_step (f := f) hlt' he
            have HE := Lib.hid hst; clear hst he hb
            cases ht : thingF s k f with
            | go i' f' =>
              rw [ht] at C
              obtain ⟨g1, g2⟩ := thingF_go ht
              have HT := Lib.hid ht; clear ht
              obtain ⟨c1, f1⟩ := Slab.facts (o)
              obtain ⟨c2, f2⟩ := Slab.facts (p)
              go_wp2_with fail
              refine (C _).mono ?_
              rintro e3 w3 ⟨rfl, hb3⟩
              have o3 := o.call hb3
              have p3 := p.call hb3
              have HB3 := Lib.hid (below_then HB.out hb3)
              clear hb3
              have ho := Lib.hid o
              clear o p c1 f1 c2 f2 HB C
              go_wp2_with (refine wpList_store_slab ?r1 148 (.tmp 8) (.tmp 50) ?r2 (w.heap.size + 1) (stCells f' (i' : Nat) 0 0 false nt) _ _ ?r3 ?r4 o3 ?r5 ?r6 ?r7 ?_; (case r1 => rfl); (case r2 => rfl); (case r3 => rfl); (case r4 => rfl); (case r5 => rfl); (case r6 => kernel_rfl); (case r7 => simp [Value.oneCell']); intro W4 o4 ho4; have p4 := p3.only ho4 hne; have HB4 := Lib.hid (below_only HB3.out ho4 (Nat.le_succ _) HB3.out.size); clear o3 p3 HB3 ho4; obtain ⟨c5, f5⟩ := o4.facts; obtain ⟨c6, f6⟩ := p4.facts)
              go_roundw
              case rel =>
                refine ⟨i', f', false, false, rfl, o4, p4, HB4.out, ?_⟩
                exact .inl ⟨rfl, by omega, .inl g2, by symm; simp; omega, by rw [← HL.out, HE.out, HT.out]⟩
              case measure =>
                rw [mSt_eq ho.out, mSt_eq o4]
                simp; try omega
            | bad e' p' =>
              rw [ht] at C
              have hb0 := thingF_bad' ht
              have HT := Lib.hid ht; clear ht
              obtain ⟨c1, f1⟩ := Slab.facts (o)
              obtain ⟨c2, f2⟩ := Slab.facts (p)
              have e5n : ((e' : Int) != 0) = true := by simp; try omega
              have e5q : ((e' : Int) == 0) = false := by simp; try omega
              go_wp2_with fail
              refine (C _).mono ?_
              rintro e3 w3 ⟨rfl, hb3⟩
              have o3 := o.call hb3
              have p3 := p.call hb3
              have HB3 := Lib.hid (below_then HB.out hb3)
              clear hb3
              clear o p c1 f1 c2 f2 HB C
              go_wp2_with (refine wpList_store_slab ?r1 148 (.tmp 8) (.tmp 50) ?r2 (w.heap.size + 1) (badCells e' (p' : Int)) _ _ ?r3 ?r4 o3 ?r5 ?r6 ?r7 ?_; (case r1 => rfl); (case r2 => rfl); (case r3 => rfl); (case r4 => rfl); (case r5 => rfl); (case r6 => kernel_rfl); (case r7 => simp [Value.oneCell']); intro W4 o4 ho4; have p4 := p3.only ho4 hne; have HB4 := Lib.hid (below_only HB3.out ho4 (Nat.le_succ _) HB3.out.size); clear o3 p3 HB3 ho4; obtain ⟨c5, f5⟩ := o4.facts; obtain ⟨c6, f6⟩ := p4.facts)
              go_region_held3 (fun w' => w'.cell? ⟨w.heap.size + 1, 5, none⟩ = some (.int .i64 e') ∧ w'.cell? ⟨w.heap.size + 1, 6, none⟩ = some (.int .i64 (p' : Int))) (simp [*, go_sem]) (fail)
              all_goals
                go_wp2
                refine bodyPost_ret (v := rbresV ⟨fun _ => false, 0, e', (p' : Int)⟩) (by simp [results, Tryz.results81, go_sem, wd_zero, c6, f6]) rfl ⟨congrArg (fun r => Ending.returned (rbresV r)) ?_, ?_⟩
                · rw [HA.out, ← HL.out]; rw [HE.out, HT.out]; rfl
                · have hb := HB4.out
                  (repeat' (first | (with_reducible exact Below.refl _ _) | (with_reducible assumption) | (with_reducible refine Below.alloc ?_ ?_ _) | (with_reducible refine Below.drew ?_) | (with_reducible refine below_set ?_ ?_ _) | (with_reducible refine below_call ?_ ?_ (by assumption)) | (with_reducible exact Below.size (by assumption)) | omega | go_size))
      · have HQ2 := Lib.hid hQ; clear hQ
        subst hnt
        obtain ⟨c1, f1⟩ := Slab.facts (o)
        obtain ⟨c2, f2⟩ := Slab.facts (p)
        go_wp2_with fail
        refine (rnot_any f _).mono ?_
        rintro e4 w4 ⟨rfl, hb4⟩
        have o4 := o.call hb4
        have p4 := p.call hb4
        have HB4 := Lib.hid (below_then HB.out hb4)
        clear hb4 o p c1 f1 c2 f2 HB
        have o5 := stPut o4 (fun x => !f x)
        have p5 := (((p4.far (b := w.heap.size + 1) hne (i := 0) (.int .u64 (wd (fun x => !f x) 0))).far (b := w.heap.size + 1) hne (i := 1) (.int .u64 (wd (fun x => !f x) 1))).far (b := w.heap.size + 1) hne (i := 2) (.int .u64 (wd (fun x => !f x) 2))).far (b := w.heap.size + 1) hne (i := 3) (.int .u64 (wd (fun x => !f x) 3))
        obtain ⟨c4, f4⟩ := Slab.facts (o4)
        obtain ⟨c5, f5⟩ := Slab.facts (o5)
        obtain ⟨c6, f6⟩ := Slab.facts (p5)
        go_wp2_with fail
        go_region_held3 (fun w' => w'.cell? ⟨w.heap.size + 1, 4, none⟩ = some (.int .i64 (k : Int)) ∧ w'.cell? ⟨w.heap.size + 1, 0, none⟩ = some (.int .u64 (wd (fun x => !f x) 0)) ∧ w'.cell? ⟨w.heap.size + 1, 1, none⟩ = some (.int .u64 (wd (fun x => !f x) 1)) ∧ w'.cell? ⟨w.heap.size + 1, 2, none⟩ = some (.int .u64 (wd (fun x => !f x) 2)) ∧ w'.cell? ⟨w.heap.size + 1, 3, none⟩ = some (.int .u64 (wd (fun x => !f x) 3))) (simp [*, go_sem]) (fail)
        all_goals
          go_wp2
          obtain ⟨c9, f9⟩ := ((((((p5).set 0 (.int .u64 (wd (fun x => !f x) 0))).set 1 (.int .u64 (wd (fun x => !f x) 1))).set 2 (.int .u64 (wd (fun x => !f x) 2))).set 3 (.int .u64 (wd (fun x => !f x) 3))).drew).facts
          refine bodyPost_ret (v := rbresV ⟨(fun x => !f x), (k : Int), 0, 0⟩) (by simp [results, Tryz.results81, go_sem, c9]) rfl ⟨congrArg (fun r => Ending.returned (rbresV r)) ?_, ?_⟩
          · rw [HA.out, HQ2.out]; rfl
          · have hb := HB4.out
            (repeat' (first | (with_reducible exact Below.refl _ _) | (with_reducible assumption) | (with_reducible refine Below.alloc ?_ ?_ _) | (with_reducible refine Below.drew ?_) | (with_reducible refine below_set ?_ ?_ _) | (with_reducible refine below_call ?_ ?_ (by assumption)) | (with_reducible exact Below.size (by assumption)) | omega | go_size))
  | false =>
    have HN := Lib.hid hn
    by_cases k1 : a + 1 < s.size
    · have d2 : decide (a + 1 < s.size) = true := by simpa using k1
      rw [bt_at s (a + 1) k1] at hn
      have n : (((s[a + 1]).toNat : Int) == 94) = false := (beq_int' (s[a + 1]) 94).trans hn
      have nn : (((s[a + 1]).toNat : Int) != 94) = !false := by
        have := bne_int' (s[a + 1]) 94
        rw [hn] at this
        exact this
      clear hn
      go_enter Tryz.func81, Tryz.ntmps81
      go_wp2
      have o0 : Slab ((w.alloc (.cells zero4 49)).alloc (.cells #[.int .u64 0, .int .u64 0, .int .u64 0, .int .u64 0, .int .i64 ((a : Int) + 1), .int .i64 0, .int .i64 0, .bool false, .bool false] 148)) (w.heap.size + 1) (stCells (fun _ => false) ((a : Int) + 1) 0 0 false false) 148 := by
        simp only [stCells, wd_zero]; exact Slab.newAt _ _ _ (by simp)
      have p0 : Slab ((w.alloc (.cells zero4 49)).alloc (.cells #[.int .u64 0, .int .u64 0, .int .u64 0, .int .u64 0, .int .i64 ((a : Int) + 1), .int .i64 0, .int .i64 0, .bool false, .bool false] 148)) w.heap.size zero4 49 := (Slab.new _ _ _).alloc _
      have HB0 : Below w.heap.size w ((w.alloc (.cells zero4 49)).alloc (.cells #[.int .u64 0, .int .u64 0, .int .u64 0, .int .u64 0, .int .i64 ((a : Int) + 1), .int .i64 0, .int .i64 0, .bool false, .bool false] 148)) := by (repeat' (first | (with_reducible exact Below.refl _ _) | (with_reducible assumption) | (with_reducible refine Below.alloc ?_ ?_ _) | (with_reducible refine Below.drew ?_) | (with_reducible refine below_set ?_ ?_ _) | (with_reducible refine below_call ?_ ?_ (by assumption)) | (with_reducible exact Below.size (by assumption)) | omega | go_size))
      obtain ⟨Q, hQ⟩ : ∃ Q, loopF s (a + 1) (a + 1) (fun _ => false) = Q := ⟨_, rfl⟩
      have ha : R = ansOf false Q := by
        rw [← HR.out, ← hQ]; unfold readB
        rw [if_neg (by omega), if_neg (by show ¬ (bt s a != 91) = true; unfold bne; rw [HY.out]; simp)]
        show (if (bt s (a + 1) == 94) = true then _ else _) = _
        rw [HN.out]; rfl
      have HA := Lib.hid ha; clear ha
      have HQ := Lib.hid hQ; clear hQ
      obtain ⟨nt, hnt⟩ : ∃ nt : Bool, nt = false := ⟨_, rfl⟩
      go_loopw [9] (fun x wr => ∃ (k : Nat) (f : Nat → Bool) (en first : Bool), x = .bool first ∧ Slab wr (w.heap.size + 1) (stCells f k 0 0 en nt) 148 ∧ Slab wr w.heap.size zero4 49 ∧ Below w.heap.size w wr ∧
          ((en = false ∧ a + 1 ≤ k ∧ (k ≤ s.size ∨ k = a + 1) ∧ first = decide (k = a + 1) ∧ loopF s (a + 1) k f = Q) ∨ (en = true ∧ k ≤ s.size ∧ Q = .go k f)))
        (fun _ wr => mSt s.size (w.heap.size + 1) wr)
      case atStart => subst hnt; exact ⟨a + 1, _, false, true, rfl, o0, p0, HB0, .inl ⟨rfl, Nat.le_refl _, .inr rfl, by simp, HQ.out⟩⟩
      case round =>
        clear o0 p0 HB0
        obtain ⟨k, f, en, first, rfl, o, p, hB, hor⟩ := hrel
        have hne : w.heap.size ≠ w.heap.size + 1 := by omega
        have hgl := o.lt
        have HB := Lib.hid hB; clear hB
        rcases hor with ⟨rfl, hk0, hk1, hfi, hL⟩ | ⟨rfl, hk, hQ⟩
        · have HL := Lib.hid hL; clear hL
          have hk2 : k ≤ 4611686018427387000 := by omega
          have HK := Lib.hid hk1; clear hk1
          have C := rthing_any s k f nt first hs hk2
          have hfe : (!first) = decide (a + 1 < k) := by rw [hfi, Bool.eq_iff_iff]; simp; omega
          have HF := Lib.hid hfe; clear hfe hfi
          clear hnt
          unfold rthing at C
          by_cases hlt : s.size ≤ k
          · rw [if_pos hlt] at C
            obtain ⟨c1, f1⟩ := Slab.facts (o)
            obtain ⟨c2, f2⟩ := Slab.facts (p)
            have e5n : ((2 : Int) != 0) = true := by simp; try omega
            have e5q : ((2 : Int) == 0) = false := by simp; try omega
            go_wp2_with fail
            refine (C _).mono ?_
            rintro e3 w3 ⟨rfl, hb3⟩
            have o3 := o.call hb3
            have p3 := p.call hb3
            have HB3 := Lib.hid (below_then HB.out hb3)
            clear hb3
            clear o p c1 f1 c2 f2 HB C
            go_wp2_with (refine wpList_store_slab ?r1 148 (.tmp 8) (.tmp 50) ?r2 (w.heap.size + 1) (badCells 2 (s.size : Int)) _ _ ?r3 ?r4 o3 ?r5 ?r6 ?r7 ?_; (case r1 => rfl); (case r2 => rfl); (case r3 => rfl); (case r4 => rfl); (case r5 => rfl); (case r6 => kernel_rfl); (case r7 => simp [Value.oneCell']); intro W4 o4 ho4; have p4 := p3.only ho4 hne; have HB4 := Lib.hid (below_only HB3.out ho4 (Nat.le_succ _) HB3.out.size); clear o3 p3 HB3 ho4; obtain ⟨c5, f5⟩ := o4.facts; obtain ⟨c6, f6⟩ := p4.facts)
            go_region_held3 (fun w' => w'.cell? ⟨w.heap.size + 1, 5, none⟩ = some (.int .i64 2) ∧ w'.cell? ⟨w.heap.size + 1, 6, none⟩ = some (.int .i64 (s.size : Int))) (simp [*, go_sem]) (fail)
            all_goals
              go_wp2
              refine bodyPost_ret (v := rbresV ⟨fun _ => false, 0, 2, (s.size : Int)⟩) (by simp [results, Tryz.results81, go_sem, wd_zero, c6, f6]) rfl ⟨congrArg (fun r => Ending.returned (rbresV r)) ?_, ?_⟩
              · rw [HA.out, ← HL.out]; rw [loopF_out' hlt]; rfl
              · have hb := HB4.out
                (repeat' (first | (with_reducible exact Below.refl _ _) | (with_reducible assumption) | (with_reducible refine Below.alloc ?_ ?_ _) | (with_reducible refine Below.drew ?_) | (with_reducible refine below_set ?_ ?_ _) | (with_reducible refine below_call ?_ ?_ (by assumption)) | (with_reducible exact Below.size (by assumption)) | omega | go_size))
          · rw [if_neg hlt] at C
            have hlt' : k < s.size := by omega
            cases hb : (bt s k == 93 && !first) with
            | true =>
              rw [hb, if_pos rfl] at C
              simp only [Bool.and_eq_true] at hb
              have hfk : a + 1 < k := by have := HF.out; rw [hb.2] at this; simpa using this.symm
              have hend := loopF_end' (first := a + 1) (f := f) hlt' hb.1 hfk
              have HEnd := Lib.hid hend; clear hend hb
              obtain ⟨c1, f1⟩ := Slab.facts (o)
              obtain ⟨c2, f2⟩ := Slab.facts (p)
              go_wp2_with fail
              refine (C _).mono ?_
              rintro e3 w3 ⟨rfl, hb3⟩
              have o3 := o.call hb3
              have p3 := p.call hb3
              have HB3 := Lib.hid (below_then HB.out hb3)
              clear hb3
              have ho := Lib.hid o
              clear o p c1 f1 c2 f2 HB C
              go_wp2_with (refine wpList_store_slab ?r1 148 (.tmp 8) (.tmp 50) ?r2 (w.heap.size + 1) (stCells f (k + 1 : Nat) 0 0 true nt) _ _ ?r3 ?r4 o3 ?r5 ?r6 ?r7 ?_; (case r1 => rfl); (case r2 => rfl); (case r3 => rfl); (case r4 => rfl); (case r5 => rfl); (case r6 => kernel_rfl); (case r7 => simp [Value.oneCell']); intro W4 o4 ho4; have p4 := p3.only ho4 hne; have HB4 := Lib.hid (below_only HB3.out ho4 (Nat.le_succ _) HB3.out.size); clear o3 p3 HB3 ho4; obtain ⟨c5, f5⟩ := o4.facts; obtain ⟨c6, f6⟩ := p4.facts)
              go_roundw
              case rel =>
                refine ⟨k + 1, f, true, false, rfl, o4, p4, HB4.out, ?_⟩
                exact .inr ⟨rfl, by omega, by rw [← HL.out, HEnd.out]⟩
              case measure =>
                rw [mSt_eq ho.out, mSt_eq o4]
                simp; try omega
            | false =>
              rw [hb, if_neg (by simp)] at C
              have he : (bt s k == 93 && decide (a + 1 < k)) = false := by rw [← HF.out]; exact hb
              have hst := loopF_step (f := f) hlt' he
              have HE := Lib.hid hst; clear hst he hb
              cases ht : thingF s k f with
              | go i' f' =>
                rw [ht] at C
                obtain ⟨g1, g2⟩ := thingF_go ht
                have HT := Lib.hid ht; clear ht
                obtain ⟨c1, f1⟩ := Slab.facts (o)
                obtain ⟨c2, f2⟩ := Slab.facts (p)
                go_wp2_with fail
                refine (C _).mono ?_
                rintro e3 w3 ⟨rfl, hb3⟩
                have o3 := o.call hb3
                have p3 := p.call hb3
                have HB3 := Lib.hid (below_then HB.out hb3)
                clear hb3
                have ho := Lib.hid o
                clear o p c1 f1 c2 f2 HB C
                go_wp2_with (refine wpList_store_slab ?r1 148 (.tmp 8) (.tmp 50) ?r2 (w.heap.size + 1) (stCells f' (i' : Nat) 0 0 false nt) _ _ ?r3 ?r4 o3 ?r5 ?r6 ?r7 ?_; (case r1 => rfl); (case r2 => rfl); (case r3 => rfl); (case r4 => rfl); (case r5 => rfl); (case r6 => kernel_rfl); (case r7 => simp [Value.oneCell']); intro W4 o4 ho4; have p4 := p3.only ho4 hne; have HB4 := Lib.hid (below_only HB3.out ho4 (Nat.le_succ _) HB3.out.size); clear o3 p3 HB3 ho4; obtain ⟨c5, f5⟩ := o4.facts; obtain ⟨c6, f6⟩ := p4.facts)
                go_roundw
                case rel =>
                  refine ⟨i', f', false, false, rfl, o4, p4, HB4.out, ?_⟩
                  exact .inl ⟨rfl, by omega, .inl g2, by symm; simp; omega, by rw [← HL.out, HE.out, HT.out]⟩
                case measure =>
                  rw [mSt_eq ho.out, mSt_eq o4]
                  simp; try omega
              | bad e' p' =>
                rw [ht] at C
                have hb0 := thingF_bad' ht
                have HT := Lib.hid ht; clear ht
                obtain ⟨c1, f1⟩ := Slab.facts (o)
                obtain ⟨c2, f2⟩ := Slab.facts (p)
                have e5n : ((e' : Int) != 0) = true := by simp; try omega
                have e5q : ((e' : Int) == 0) = false := by simp; try omega
                go_wp2_with fail
                refine (C _).mono ?_
                rintro e3 w3 ⟨rfl, hb3⟩
                have o3 := o.call hb3
                have p3 := p.call hb3
                have HB3 := Lib.hid (below_then HB.out hb3)
                clear hb3
                clear o p c1 f1 c2 f2 HB C
                go_wp2_with (refine wpList_store_slab ?r1 148 (.tmp 8) (.tmp 50) ?r2 (w.heap.size + 1) (badCells e' (p' : Int)) _ _ ?r3 ?r4 o3 ?r5 ?r6 ?r7 ?_; (case r1 => rfl); (case r2 => rfl); (case r3 => rfl); (case r4 => rfl); (case r5 => rfl); (case r6 => kernel_rfl); (case r7 => simp [Value.oneCell']); intro W4 o4 ho4; have p4 := p3.only ho4 hne; have HB4 := Lib.hid (below_only HB3.out ho4 (Nat.le_succ _) HB3.out.size); clear o3 p3 HB3 ho4; obtain ⟨c5, f5⟩ := o4.facts; obtain ⟨c6, f6⟩ := p4.facts)
                go_region_held3 (fun w' => w'.cell? ⟨w.heap.size + 1, 5, none⟩ = some (.int .i64 e') ∧ w'.cell? ⟨w.heap.size + 1, 6, none⟩ = some (.int .i64 (p' : Int))) (simp [*, go_sem]) (fail)
                all_goals
                  go_wp2
                  refine bodyPost_ret (v := rbresV ⟨fun _ => false, 0, e', (p' : Int)⟩) (by simp [results, Tryz.results81, go_sem, wd_zero, c6, f6]) rfl ⟨congrArg (fun r => Ending.returned (rbresV r)) ?_, ?_⟩
                  · rw [HA.out, ← HL.out]; rw [HE.out, HT.out]; rfl
                  · have hb := HB4.out
                    (repeat' (first | (with_reducible exact Below.refl _ _) | (with_reducible assumption) | (with_reducible refine Below.alloc ?_ ?_ _) | (with_reducible refine Below.drew ?_) | (with_reducible refine below_set ?_ ?_ _) | (with_reducible refine below_call ?_ ?_ (by assumption)) | (with_reducible exact Below.size (by assumption)) | omega | go_size))
        · have HQ2 := Lib.hid hQ; clear hQ
          subst hnt
          obtain ⟨c1, f1⟩ := Slab.facts (o)
          obtain ⟨c2, f2⟩ := Slab.facts (p)
          go_wp2_with fail
          go_region_held3 (fun w' => w'.cell? ⟨w.heap.size + 1, 4, none⟩ = some (.int .i64 (k : Int)) ∧ w'.cell? ⟨w.heap.size + 1, 0, none⟩ = some (.int .u64 (wd f 0)) ∧ w'.cell? ⟨w.heap.size + 1, 1, none⟩ = some (.int .u64 (wd f 1)) ∧ w'.cell? ⟨w.heap.size + 1, 2, none⟩ = some (.int .u64 (wd f 2)) ∧ w'.cell? ⟨w.heap.size + 1, 3, none⟩ = some (.int .u64 (wd f 3))) (simp [*, go_sem]) (fail)
          all_goals
            go_wp2
            obtain ⟨c9, f9⟩ := ((((((p).set 0 (.int .u64 (wd f 0))).set 1 (.int .u64 (wd f 1))).set 2 (.int .u64 (wd f 2))).set 3 (.int .u64 (wd f 3))).drew).facts
            refine bodyPost_ret (v := rbresV ⟨f, (k : Int), 0, 0⟩) (by simp [results, Tryz.results81, go_sem, c9]) rfl ⟨congrArg (fun r => Ending.returned (rbresV r)) ?_, ?_⟩
            · rw [HA.out, HQ2.out]; rfl
            · have hb := HB.out
              (repeat' (first | (with_reducible exact Below.refl _ _) | (with_reducible assumption) | (with_reducible refine Below.alloc ?_ ?_ _) | (with_reducible refine Below.drew ?_) | (with_reducible refine below_set ?_ ?_ _) | (with_reducible refine below_call ?_ ?_ (by assumption)) | (with_reducible exact Below.size (by assumption)) | omega | go_size))
    · have d2 : decide (a + 1 < s.size) = false := by simpa using k1
      have d3 : decide ((a : Int) + 1 < (s.size : Int)) = false := by simp; omega
      clear hn k1
      go_enter Tryz.func81, Tryz.ntmps81
      go_wp2
      have o0 : Slab ((w.alloc (.cells zero4 49)).alloc (.cells #[.int .u64 0, .int .u64 0, .int .u64 0, .int .u64 0, .int .i64 ((a : Int) + 1), .int .i64 0, .int .i64 0, .bool false, .bool false] 148)) (w.heap.size + 1) (stCells (fun _ => false) ((a : Int) + 1) 0 0 false false) 148 := by
        simp only [stCells, wd_zero]; exact Slab.newAt _ _ _ (by simp)
      have p0 : Slab ((w.alloc (.cells zero4 49)).alloc (.cells #[.int .u64 0, .int .u64 0, .int .u64 0, .int .u64 0, .int .i64 ((a : Int) + 1), .int .i64 0, .int .i64 0, .bool false, .bool false] 148)) w.heap.size zero4 49 := (Slab.new _ _ _).alloc _
      have HB0 : Below w.heap.size w ((w.alloc (.cells zero4 49)).alloc (.cells #[.int .u64 0, .int .u64 0, .int .u64 0, .int .u64 0, .int .i64 ((a : Int) + 1), .int .i64 0, .int .i64 0, .bool false, .bool false] 148)) := by (repeat' (first | (with_reducible exact Below.refl _ _) | (with_reducible assumption) | (with_reducible refine Below.alloc ?_ ?_ _) | (with_reducible refine Below.drew ?_) | (with_reducible refine below_set ?_ ?_ _) | (with_reducible refine below_call ?_ ?_ (by assumption)) | (with_reducible exact Below.size (by assumption)) | omega | go_size))
      obtain ⟨Q, hQ⟩ : ∃ Q, loopF s (a + 1) (a + 1) (fun _ => false) = Q := ⟨_, rfl⟩
      have ha : R = ansOf false Q := by
        rw [← HR.out, ← hQ]; unfold readB
        rw [if_neg (by omega), if_neg (by show ¬ (bt s a != 91) = true; unfold bne; rw [HY.out]; simp)]
        show (if (bt s (a + 1) == 94) = true then _ else _) = _
        rw [HN.out]; rfl
      have HA := Lib.hid ha; clear ha
      have HQ := Lib.hid hQ; clear hQ
      obtain ⟨nt, hnt⟩ : ∃ nt : Bool, nt = false := ⟨_, rfl⟩
      go_loopw [9] (fun x wr => ∃ (k : Nat) (f : Nat → Bool) (en first : Bool), x = .bool first ∧ Slab wr (w.heap.size + 1) (stCells f k 0 0 en nt) 148 ∧ Slab wr w.heap.size zero4 49 ∧ Below w.heap.size w wr ∧
          ((en = false ∧ a + 1 ≤ k ∧ (k ≤ s.size ∨ k = a + 1) ∧ first = decide (k = a + 1) ∧ loopF s (a + 1) k f = Q) ∨ (en = true ∧ k ≤ s.size ∧ Q = .go k f)))
        (fun _ wr => mSt s.size (w.heap.size + 1) wr)
      case atStart => subst hnt; exact ⟨a + 1, _, false, true, rfl, o0, p0, HB0, .inl ⟨rfl, Nat.le_refl _, .inr rfl, by simp, HQ.out⟩⟩
      case round =>
        clear o0 p0 HB0
        obtain ⟨k, f, en, first, rfl, o, p, hB, hor⟩ := hrel
        have hne : w.heap.size ≠ w.heap.size + 1 := by omega
        have hgl := o.lt
        have HB := Lib.hid hB; clear hB
        rcases hor with ⟨rfl, hk0, hk1, hfi, hL⟩ | ⟨rfl, hk, hQ⟩
        · have HL := Lib.hid hL; clear hL
          have hk2 : k ≤ 4611686018427387000 := by omega
          have HK := Lib.hid hk1; clear hk1
          have C := rthing_any s k f nt first hs hk2
          have hfe : (!first) = decide (a + 1 < k) := by rw [hfi, Bool.eq_iff_iff]; simp; omega
          have HF := Lib.hid hfe; clear hfe hfi
          clear hnt
          unfold rthing at C
          by_cases hlt : s.size ≤ k
          · rw [if_pos hlt] at C
            obtain ⟨c1, f1⟩ := Slab.facts (o)
            obtain ⟨c2, f2⟩ := Slab.facts (p)
            have e5n : ((2 : Int) != 0) = true := by simp; try omega
            have e5q : ((2 : Int) == 0) = false := by simp; try omega
            go_wp2_with fail
            refine (C _).mono ?_
            rintro e3 w3 ⟨rfl, hb3⟩
            have o3 := o.call hb3
            have p3 := p.call hb3
            have HB3 := Lib.hid (below_then HB.out hb3)
            clear hb3
            clear o p c1 f1 c2 f2 HB C
            go_wp2_with (refine wpList_store_slab ?r1 148 (.tmp 8) (.tmp 50) ?r2 (w.heap.size + 1) (badCells 2 (s.size : Int)) _ _ ?r3 ?r4 o3 ?r5 ?r6 ?r7 ?_; (case r1 => rfl); (case r2 => rfl); (case r3 => rfl); (case r4 => rfl); (case r5 => rfl); (case r6 => kernel_rfl); (case r7 => simp [Value.oneCell']); intro W4 o4 ho4; have p4 := p3.only ho4 hne; have HB4 := Lib.hid (below_only HB3.out ho4 (Nat.le_succ _) HB3.out.size); clear o3 p3 HB3 ho4; obtain ⟨c5, f5⟩ := o4.facts; obtain ⟨c6, f6⟩ := p4.facts)
            go_region_held3 (fun w' => w'.cell? ⟨w.heap.size + 1, 5, none⟩ = some (.int .i64 2) ∧ w'.cell? ⟨w.heap.size + 1, 6, none⟩ = some (.int .i64 (s.size : Int))) (simp [*, go_sem]) (fail)
            all_goals
              go_wp2
              refine bodyPost_ret (v := rbresV ⟨fun _ => false, 0, 2, (s.size : Int)⟩) (by simp [results, Tryz.results81, go_sem, wd_zero, c6, f6]) rfl ⟨congrArg (fun r => Ending.returned (rbresV r)) ?_, ?_⟩
              · rw [HA.out, ← HL.out]; rw [loopF_out' hlt]; rfl
              · have hb := HB4.out
                (repeat' (first | (with_reducible exact Below.refl _ _) | (with_reducible assumption) | (with_reducible refine Below.alloc ?_ ?_ _) | (with_reducible refine Below.drew ?_) | (with_reducible refine below_set ?_ ?_ _) | (with_reducible refine below_call ?_ ?_ (by assumption)) | (with_reducible exact Below.size (by assumption)) | omega | go_size))
          · rw [if_neg hlt] at C
            have hlt' : k < s.size := by omega
            cases hb : (bt s k == 93 && !first) with
            | true =>
              rw [hb, if_pos rfl] at C
              simp only [Bool.and_eq_true] at hb
              have hfk : a + 1 < k := by have := HF.out; rw [hb.2] at this; simpa using this.symm
              have hend := loopF_end' (first := a + 1) (f := f) hlt' hb.1 hfk
              have HEnd := Lib.hid hend; clear hend hb
              obtain ⟨c1, f1⟩ := Slab.facts (o)
              obtain ⟨c2, f2⟩ := Slab.facts (p)
              go_wp2_with fail
              refine (C _).mono ?_
              rintro e3 w3 ⟨rfl, hb3⟩
              have o3 := o.call hb3
              have p3 := p.call hb3
              have HB3 := Lib.hid (below_then HB.out hb3)
              clear hb3
              have ho := Lib.hid o
              clear o p c1 f1 c2 f2 HB C
              go_wp2_with (refine wpList_store_slab ?r1 148 (.tmp 8) (.tmp 50) ?r2 (w.heap.size + 1) (stCells f (k + 1 : Nat) 0 0 true nt) _ _ ?r3 ?r4 o3 ?r5 ?r6 ?r7 ?_; (case r1 => rfl); (case r2 => rfl); (case r3 => rfl); (case r4 => rfl); (case r5 => rfl); (case r6 => kernel_rfl); (case r7 => simp [Value.oneCell']); intro W4 o4 ho4; have p4 := p3.only ho4 hne; have HB4 := Lib.hid (below_only HB3.out ho4 (Nat.le_succ _) HB3.out.size); clear o3 p3 HB3 ho4; obtain ⟨c5, f5⟩ := o4.facts; obtain ⟨c6, f6⟩ := p4.facts)
              go_roundw
              case rel =>
                refine ⟨k + 1, f, true, false, rfl, o4, p4, HB4.out, ?_⟩
                exact .inr ⟨rfl, by omega, by rw [← HL.out, HEnd.out]⟩
              case measure =>
                rw [mSt_eq ho.out, mSt_eq o4]
                simp; try omega
            | false =>
              rw [hb, if_neg (by simp)] at C
              have he : (bt s k == 93 && decide (a + 1 < k)) = false := by rw [← HF.out]; exact hb
              have hst := loopF_step (f := f) hlt' he
              have HE := Lib.hid hst; clear hst he hb
              cases ht : thingF s k f with
              | go i' f' =>
                rw [ht] at C
                obtain ⟨g1, g2⟩ := thingF_go ht
                have HT := Lib.hid ht; clear ht
                obtain ⟨c1, f1⟩ := Slab.facts (o)
                obtain ⟨c2, f2⟩ := Slab.facts (p)
                go_wp2_with fail
                refine (C _).mono ?_
                rintro e3 w3 ⟨rfl, hb3⟩
                have o3 := o.call hb3
                have p3 := p.call hb3
                have HB3 := Lib.hid (below_then HB.out hb3)
                clear hb3
                have ho := Lib.hid o
                clear o p c1 f1 c2 f2 HB C
                go_wp2_with (refine wpList_store_slab ?r1 148 (.tmp 8) (.tmp 50) ?r2 (w.heap.size + 1) (stCells f' (i' : Nat) 0 0 false nt) _ _ ?r3 ?r4 o3 ?r5 ?r6 ?r7 ?_; (case r1 => rfl); (case r2 => rfl); (case r3 => rfl); (case r4 => rfl); (case r5 => rfl); (case r6 => kernel_rfl); (case r7 => simp [Value.oneCell']); intro W4 o4 ho4; have p4 := p3.only ho4 hne; have HB4 := Lib.hid (below_only HB3.out ho4 (Nat.le_succ _) HB3.out.size); clear o3 p3 HB3 ho4; obtain ⟨c5, f5⟩ := o4.facts; obtain ⟨c6, f6⟩ := p4.facts)
                go_roundw
                case rel =>
                  refine ⟨i', f', false, false, rfl, o4, p4, HB4.out, ?_⟩
                  exact .inl ⟨rfl, by omega, .inl g2, by symm; simp; omega, by rw [← HL.out, HE.out, HT.out]⟩
                case measure =>
                  rw [mSt_eq ho.out, mSt_eq o4]
                  simp; try omega
              | bad e' p' =>
                rw [ht] at C
                have hb0 := thingF_bad' ht
                have HT := Lib.hid ht; clear ht
                obtain ⟨c1, f1⟩ := Slab.facts (o)
                obtain ⟨c2, f2⟩ := Slab.facts (p)
                have e5n : ((e' : Int) != 0) = true := by simp; try omega
                have e5q : ((e' : Int) == 0) = false := by simp; try omega
                go_wp2_with fail
                refine (C _).mono ?_
                rintro e3 w3 ⟨rfl, hb3⟩
                have o3 := o.call hb3
                have p3 := p.call hb3
                have HB3 := Lib.hid (below_then HB.out hb3)
                clear hb3
                clear o p c1 f1 c2 f2 HB C
                go_wp2_with (refine wpList_store_slab ?r1 148 (.tmp 8) (.tmp 50) ?r2 (w.heap.size + 1) (badCells e' (p' : Int)) _ _ ?r3 ?r4 o3 ?r5 ?r6 ?r7 ?_; (case r1 => rfl); (case r2 => rfl); (case r3 => rfl); (case r4 => rfl); (case r5 => rfl); (case r6 => kernel_rfl); (case r7 => simp [Value.oneCell']); intro W4 o4 ho4; have p4 := p3.only ho4 hne; have HB4 := Lib.hid (below_only HB3.out ho4 (Nat.le_succ _) HB3.out.size); clear o3 p3 HB3 ho4; obtain ⟨c5, f5⟩ := o4.facts; obtain ⟨c6, f6⟩ := p4.facts)
                go_region_held3 (fun w' => w'.cell? ⟨w.heap.size + 1, 5, none⟩ = some (.int .i64 e') ∧ w'.cell? ⟨w.heap.size + 1, 6, none⟩ = some (.int .i64 (p' : Int))) (simp [*, go_sem]) (fail)
                all_goals
                  go_wp2
                  refine bodyPost_ret (v := rbresV ⟨fun _ => false, 0, e', (p' : Int)⟩) (by simp [results, Tryz.results81, go_sem, wd_zero, c6, f6]) rfl ⟨congrArg (fun r => Ending.returned (rbresV r)) ?_, ?_⟩
                  · rw [HA.out, ← HL.out]; rw [HE.out, HT.out]; rfl
                  · have hb := HB4.out
                    (repeat' (first | (with_reducible exact Below.refl _ _) | (with_reducible assumption) | (with_reducible refine Below.alloc ?_ ?_ _) | (with_reducible refine Below.drew ?_) | (with_reducible refine below_set ?_ ?_ _) | (with_reducible refine below_call ?_ ?_ (by assumption)) | (with_reducible exact Below.size (by assumption)) | omega | go_size))
        · have HQ2 := Lib.hid hQ; clear hQ
          subst hnt
          obtain ⟨c1, f1⟩ := Slab.facts (o)
          obtain ⟨c2, f2⟩ := Slab.facts (p)
          go_wp2_with fail
          go_region_held3 (fun w' => w'.cell? ⟨w.heap.size + 1, 4, none⟩ = some (.int .i64 (k : Int)) ∧ w'.cell? ⟨w.heap.size + 1, 0, none⟩ = some (.int .u64 (wd f 0)) ∧ w'.cell? ⟨w.heap.size + 1, 1, none⟩ = some (.int .u64 (wd f 1)) ∧ w'.cell? ⟨w.heap.size + 1, 2, none⟩ = some (.int .u64 (wd f 2)) ∧ w'.cell? ⟨w.heap.size + 1, 3, none⟩ = some (.int .u64 (wd f 3))) (simp [*, go_sem]) (fail)
          all_goals
            go_wp2
            obtain ⟨c9, f9⟩ := ((((((p).set 0 (.int .u64 (wd f 0))).set 1 (.int .u64 (wd f 1))).set 2 (.int .u64 (wd f 2))).set 3 (.int .u64 (wd f 3))).drew).facts
            refine bodyPost_ret (v := rbresV ⟨f, (k : Int), 0, 0⟩) (by simp [results, Tryz.results81, go_sem, c9]) rfl ⟨congrArg (fun r => Ending.returned (rbresV r)) ?_, ?_⟩
            · rw [HA.out, HQ2.out]; rfl
            · have hb := HB.out
              (repeat' (first | (with_reducible exact Below.refl _ _) | (with_reducible assumption) | (with_reducible refine Below.alloc ?_ ?_ _) | (with_reducible refine Below.drew ?_) | (with_reducible refine below_set ?_ ?_ _) | (with_reducible refine below_call ?_ ?_ (by assumption)) | (with_reducible exact Below.size (by assumption)) | omega | go_size))
end Go.Proofs.YtfcgmgpcbenfpaaGreat
