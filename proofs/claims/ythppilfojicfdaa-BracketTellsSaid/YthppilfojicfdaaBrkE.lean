/- Walks of the package gimletref03: one thing more, or the end. -/
import Derived.Test.YthppilfojicfdaaProg
import Derived.WalkKit
import Derived.WalkSpells
import Derived.WalkLawsBesides
import Derived.Handy
import Derived.Lib.Hide
import Derived.Test.YthppilfojicfdaaBrkD
namespace Go.Proofs.Ythppilfojicfdaa
open Go.RowKit SetP BrkP
/-- A byte's fact, in the walk's spelling; what it says of the text is kept. -/
theorem add1_any (f : Nat → Bool) (pos : Int) (nt : Bool) (c : UInt8) (q : Int) (w : World) :
    Calls Try.prog 73 #[stV f pos 0 0 false nt, .int .i64 (c.toNat : Int), .int .i64 (c.toNat : Int), .int .i64 q] w fun e' w' =>
      e' = .returned (stV (addB f c.toNat) q 0 0 false nt) ∧ Below w.heap.size w w' := by
  have h := add_any f pos nt c c q w
  rw [or_one] at h
  exact h
def rthing (s : ByteArray) (i : Nat) (f : Nat → Bool) (nt first : Bool) : Value :=
  if s.size ≤ i then badV 2 s.size else if bt s i == 93 && !first then stV f ((i : Int) + 1) 0 0 true nt else resV3 nt (thingF s i f)
set_option maxRecDepth 100000 in
set_option maxHeartbeats 2000000 in
theorem rthing_out (s : ByteArray) (i : Nat) (f : Nat → Bool) (nt first : Bool) (hs : s.size ≤ 4611686018427387000) (hi : i ≤ 4611686018427387000) (w : World) (k0 : s.size ≤ i) : Calls Try.prog 61 #[.string s, stV f i 0 0 false nt, .bool first] w fun e' w' => e' = .returned (badV 2 s.size) ∧ Below w.heap.size w w' := by
  have d0 : decide (s.size ≤ i) = true := by simpa using k0
  have q0 : Slab ((w.alloc (.cells (stCells f i 0 0 false nt) 83)).alloc (.cells (badCells 0 0) 83)) (w.heap.size + 1) (badCells 0 0) 83 := Slab.newAt _ _ _ (by simp)
  have HB0 : Below w.heap.size w ((w.alloc (.cells (stCells f i 0 0 false nt) 83)).alloc (.cells (badCells 0 0) 83)) := by (repeat' (first | (with_reducible exact Below.refl _ _) | (with_reducible assumption) | (with_reducible refine Below.alloc ?_ ?_ _) | (with_reducible refine Below.drew ?_) | (with_reducible refine below_set ?_ ?_ _) | (with_reducible refine below_call ?_ ?_ (by assumption)) | (with_reducible exact Below.size (by assumption)) | omega | go_size))
  have HB := Lib.hid HB0; clear HB0
  go_enter Try.func61, Try.ntmps61
  go_wp2_with fail
  refine (bad_any 2 s.size _).mono ?_
  rintro e9 w9 ⟨rfl, hb9⟩
  have q9 := q0.callD hb9 rfl
  have HB9 := Lib.hid (below_then HB.out hb9)
  clear hb9
  obtain ⟨c9, f9⟩ := q9.facts
  go_wp2
  refine bodyPost_ret (results_cell rfl rfl (load_slab (t := 83) (cs := badCells 2 s.size) ?_ 83 Try.underlying83 rfl (by kernel_rfl))) rfl ⟨rfl, ?_⟩
  · exact slab_setCells (vs := badCells 2 s.size) q9 rfl
  have hb := HB9.out
  (repeat' (first | (with_reducible exact Below.refl _ _) | (with_reducible assumption) | (with_reducible refine Below.alloc ?_ ?_ _) | (with_reducible refine Below.drew ?_) | (with_reducible refine below_set ?_ ?_ _) | (with_reducible refine below_call ?_ ?_ (by assumption)) | (with_reducible exact Below.size (by assumption)) | omega | go_size))
set_option maxRecDepth 100000 in
set_option maxHeartbeats 2000000 in
theorem rthing_end (s : ByteArray) (i : Nat) (f : Nat → Bool) (nt first : Bool) (hs : s.size ≤ 4611686018427387000) (hi : i ≤ 4611686018427387000) (w : World) (k0 : i < s.size) (hy : (bt s i == 93) = true) (hf : first = false) : Calls Try.prog 61 #[.string s, stV f i 0 0 false nt, .bool first] w fun e' w' => e' = .returned (stV f ((i : Int) + 1) 0 0 true nt) ∧ Below w.heap.size w w' := by
  subst hf
  have d0 : decide (s.size ≤ i) = false := by simpa using k0
  have Hy := Lib.hid hy
  rw [bt_at s (i) (by omega)] at hy
  have y : (((s[i]).toNat : Int) == 93) = true := (beq_int' (s[i]) 93).trans hy
  have yn : (((s[i]).toNat : Int) != 93) = !true := by
    have := bne_int' (s[i]) 93
    rw [hy] at this
    exact this
  clear hy
  go_enter Try.func61, Try.ntmps61
  go_wp2
  refine bodyPost_ret (v := stV f ((i : Int) + 1) 0 0 true nt) (by simp [results, Try.results61, go_sem]) rfl ⟨rfl, ?_⟩
  (repeat' (first | (with_reducible exact Below.refl _ _) | (with_reducible assumption) | (with_reducible refine Below.alloc ?_ ?_ _) | (with_reducible refine Below.drew ?_) | (with_reducible refine below_set ?_ ?_ _) | (with_reducible refine below_call ?_ ?_ (by assumption)) | (with_reducible exact Below.size (by assumption)) | omega | go_size))
set_option maxRecDepth 100000 in
set_option maxHeartbeats 2000000 in
theorem rthing_short (s : ByteArray) (i : Nat) (f : Nat → Bool) (nt first : Bool) (hs : s.size ≤ 4611686018427387000) (hi : i ≤ 4611686018427387000) (w : World) (k0 : i < s.size) (hy : (bt s i == 93) = false ∨ first = true) (k1 : s.size ≤ i + 1) : Calls Try.prog 61 #[.string s, stV f i 0 0 false nt, .bool first] w fun e' w' => e' = .returned (badV 2 s.size) ∧ Below w.heap.size w w' := by
  have d1 : decide (s.size ≤ i + 1) = true := by simpa using k1
  have d0 : decide (s.size ≤ i) = false := by simpa using k0
  cases hv : (bt s i == 93) with
  | false =>
    clear hy
    have hy := hv
    clear hv
    have Hy := Lib.hid hy
    rw [bt_at s (i) (by omega)] at hy
    have y : (((s[i]).toNat : Int) == 93) = false := (beq_int' (s[i]) 93).trans hy
    have yn : (((s[i]).toNat : Int) != 93) = !false := by
      have := bne_int' (s[i]) 93
      rw [hy] at this
      exact this
    clear hy
    clear Hy
    have q0 : Slab ((w.alloc (.cells (stCells f i 0 0 false nt) 83)).alloc (.cells (badCells 0 0) 83)) (w.heap.size + 1) (badCells 0 0) 83 := Slab.newAt _ _ _ (by simp)
    have HB0 : Below w.heap.size w ((w.alloc (.cells (stCells f i 0 0 false nt) 83)).alloc (.cells (badCells 0 0) 83)) := by (repeat' (first | (with_reducible exact Below.refl _ _) | (with_reducible assumption) | (with_reducible refine Below.alloc ?_ ?_ _) | (with_reducible refine Below.drew ?_) | (with_reducible refine below_set ?_ ?_ _) | (with_reducible refine below_call ?_ ?_ (by assumption)) | (with_reducible exact Below.size (by assumption)) | omega | go_size))
    have HB := Lib.hid HB0; clear HB0
    go_enter Try.func61, Try.ntmps61
    go_wp2_with fail
    refine (bad_any 2 s.size _).mono ?_
    rintro e9 w9 ⟨rfl, hb9⟩
    have q9 := q0.callD hb9 rfl
    have HB9 := Lib.hid (below_then HB.out hb9)
    clear hb9
    obtain ⟨c9, f9⟩ := q9.facts
    go_wp2
    refine bodyPost_ret (results_cell rfl rfl (load_slab (t := 83) (cs := badCells 2 s.size) ?_ 83 Try.underlying83 rfl (by kernel_rfl))) rfl ⟨rfl, ?_⟩
    · exact slab_setCells (vs := badCells 2 s.size) q9 rfl
    have hb := HB9.out
    (repeat' (first | (with_reducible exact Below.refl _ _) | (with_reducible assumption) | (with_reducible refine Below.alloc ?_ ?_ _) | (with_reducible refine Below.drew ?_) | (with_reducible refine below_set ?_ ?_ _) | (with_reducible refine below_call ?_ ?_ (by assumption)) | (with_reducible exact Below.size (by assumption)) | omega | go_size))
  | true =>
    rw [hv] at hy
    obtain rfl : first = true := by simpa using hy
    clear hy
    have hy := hv
    clear hv
    have Hy := Lib.hid hy
    rw [bt_at s (i) (by omega)] at hy
    have y : (((s[i]).toNat : Int) == 93) = true := (beq_int' (s[i]) 93).trans hy
    have yn : (((s[i]).toNat : Int) != 93) = !true := by
      have := bne_int' (s[i]) 93
      rw [hy] at this
      exact this
    clear hy
    clear Hy
    have q0 : Slab ((w.alloc (.cells (stCells f i 0 0 false nt) 83)).alloc (.cells (badCells 0 0) 83)) (w.heap.size + 1) (badCells 0 0) 83 := Slab.newAt _ _ _ (by simp)
    have HB0 : Below w.heap.size w ((w.alloc (.cells (stCells f i 0 0 false nt) 83)).alloc (.cells (badCells 0 0) 83)) := by (repeat' (first | (with_reducible exact Below.refl _ _) | (with_reducible assumption) | (with_reducible refine Below.alloc ?_ ?_ _) | (with_reducible refine Below.drew ?_) | (with_reducible refine below_set ?_ ?_ _) | (with_reducible refine below_call ?_ ?_ (by assumption)) | (with_reducible exact Below.size (by assumption)) | omega | go_size))
    have HB := Lib.hid HB0; clear HB0
    go_enter Try.func61, Try.ntmps61
    go_wp2_with fail
    refine (bad_any 2 s.size _).mono ?_
    rintro e9 w9 ⟨rfl, hb9⟩
    have q9 := q0.callD hb9 rfl
    have HB9 := Lib.hid (below_then HB.out hb9)
    clear hb9
    obtain ⟨c9, f9⟩ := q9.facts
    go_wp2
    refine bodyPost_ret (results_cell rfl rfl (load_slab (t := 83) (cs := badCells 2 s.size) ?_ 83 Try.underlying83 rfl (by kernel_rfl))) rfl ⟨rfl, ?_⟩
    · exact slab_setCells (vs := badCells 2 s.size) q9 rfl
    have hb := HB9.out
    (repeat' (first | (with_reducible exact Below.refl _ _) | (with_reducible assumption) | (with_reducible refine Below.alloc ?_ ?_ _) | (with_reducible refine Below.drew ?_) | (with_reducible refine below_set ?_ ?_ _) | (with_reducible refine below_call ?_ ?_ (by assumption)) | (with_reducible exact Below.size (by assumption)) | omega | go_size))
set_option maxRecDepth 100000 in
set_option maxHeartbeats 2000000 in
theorem rthing_name (s : ByteArray) (i : Nat) (f : Nat → Bool) (nt first : Bool) (hs : s.size ≤ 4611686018427387000) (hi : i ≤ 4611686018427387000) (w : World) (k1 : i + 1 < s.size) (hv : (bt s i == 91) = true) (hz : (bt s (i + 1) == 58) = true) : Calls Try.prog 61 #[.string s, stV f i 0 0 false nt, .bool first] w fun e' w' => e' = .returned (resV3 nt (classGo s (i + 2) f (i + 2))) ∧ Below w.heap.size w w' := by
  have hb : bt s i = 91 := by simpa using hv
  have h93 : (bt s i == 93) = false := by rw [hb]; rfl
  have d0 : decide (s.size ≤ i) = false := by simp; omega
  have d1 : decide (s.size ≤ i + 1) = false := by simpa using k1
  clear hb
  have Hv := Lib.hid hv
  rw [bt_at s (i) (by omega)] at hv
  have v : (((s[i]).toNat : Int) == 91) = true := (beq_int' (s[i]) 91).trans hv
  have vn : (((s[i]).toNat : Int) != 91) = !true := by
    have := bne_int' (s[i]) 91
    rw [hv] at this
    exact this
  clear hv
  have h93' := h93
  clear h93
  have hy := h93'
  clear h93'
  have Hy := Lib.hid hy
  rw [bt_at s (i) (by omega)] at hy
  have y : (((s[i]).toNat : Int) == 93) = false := (beq_int' (s[i]) 93).trans hy
  have yn : (((s[i]).toNat : Int) != 93) = !false := by
    have := bne_int' (s[i]) 93
    rw [hy] at this
    exact this
  clear hy
  have Hz := Lib.hid hz
  rw [bt_at s (i + 1) (by omega)] at hz
  have z : (((s[i + 1]).toNat : Int) == 58) = true := (beq_int' (s[i + 1]) 58).trans hz
  have zn : (((s[i + 1]).toNat : Int) != 58) = !true := by
    have := bne_int' (s[i + 1]) 58
    rw [hz] at this
    exact this
  clear hz
  have C := name_any s i f nt (by omega) hs
  cases hR : classGo s (i + 2) f (i + 2) with
  | go i' f' =>
    rw [hR] at C
    clear hR
    have q0 : Slab ((w.alloc (.cells (stCells f i 0 0 false nt) 83)).alloc (.cells (badCells 0 0) 83)) (w.heap.size + 1) (badCells 0 0) 83 := Slab.newAt _ _ _ (by simp)
    have HB0 : Below w.heap.size w ((w.alloc (.cells (stCells f i 0 0 false nt) 83)).alloc (.cells (badCells 0 0) 83)) := by (repeat' (first | (with_reducible exact Below.refl _ _) | (with_reducible assumption) | (with_reducible refine Below.alloc ?_ ?_ _) | (with_reducible refine Below.drew ?_) | (with_reducible refine below_set ?_ ?_ _) | (with_reducible refine below_call ?_ ?_ (by assumption)) | (with_reducible exact Below.size (by assumption)) | omega | go_size))
    have HB := Lib.hid HB0; clear HB0
    go_enter Try.func61, Try.ntmps61
    go_wp2_with fail
    refine (C _).mono ?_
    rintro e9 w9 ⟨rfl, hb9⟩
    have q9 := q0.callD hb9 rfl
    have HB9 := Lib.hid (below_then HB.out hb9)
    clear hb9
    obtain ⟨c9, f9⟩ := q9.facts
    go_wp2
    refine bodyPost_ret (results_cell rfl rfl (load_slab (t := 83) (cs := stCells f' i' 0 0 false nt) ?_ 83 Try.underlying83 rfl (by kernel_rfl))) rfl ⟨rfl, ?_⟩
    · exact slab_setCells (vs := stCells f' i' 0 0 false nt) q9 rfl
    have hb := HB9.out
    (repeat' (first | (with_reducible exact Below.refl _ _) | (with_reducible assumption) | (with_reducible refine Below.alloc ?_ ?_ _) | (with_reducible refine Below.drew ?_) | (with_reducible refine below_set ?_ ?_ _) | (with_reducible refine below_call ?_ ?_ (by assumption)) | (with_reducible exact Below.size (by assumption)) | omega | go_size))
  | bad e p =>
    rw [hR] at C
    clear hR
    have q0 : Slab ((w.alloc (.cells (stCells f i 0 0 false nt) 83)).alloc (.cells (badCells 0 0) 83)) (w.heap.size + 1) (badCells 0 0) 83 := Slab.newAt _ _ _ (by simp)
    have HB0 : Below w.heap.size w ((w.alloc (.cells (stCells f i 0 0 false nt) 83)).alloc (.cells (badCells 0 0) 83)) := by (repeat' (first | (with_reducible exact Below.refl _ _) | (with_reducible assumption) | (with_reducible refine Below.alloc ?_ ?_ _) | (with_reducible refine Below.drew ?_) | (with_reducible refine below_set ?_ ?_ _) | (with_reducible refine below_call ?_ ?_ (by assumption)) | (with_reducible exact Below.size (by assumption)) | omega | go_size))
    have HB := Lib.hid HB0; clear HB0
    go_enter Try.func61, Try.ntmps61
    go_wp2_with fail
    refine (C _).mono ?_
    rintro e9 w9 ⟨rfl, hb9⟩
    have q9 := q0.callD hb9 rfl
    have HB9 := Lib.hid (below_then HB.out hb9)
    clear hb9
    obtain ⟨c9, f9⟩ := q9.facts
    go_wp2
    refine bodyPost_ret (results_cell rfl rfl (load_slab (t := 83) (cs := badCells e p) ?_ 83 Try.underlying83 rfl (by kernel_rfl))) rfl ⟨rfl, ?_⟩
    · exact slab_setCells (vs := badCells e p) q9 rfl
    have hb := HB9.out
    (repeat' (first | (with_reducible exact Below.refl _ _) | (with_reducible assumption) | (with_reducible refine Below.alloc ?_ ?_ _) | (with_reducible refine Below.drew ?_) | (with_reducible refine below_set ?_ ?_ _) | (with_reducible refine below_call ?_ ?_ (by assumption)) | (with_reducible exact Below.size (by assumption)) | omega | go_size))
set_option maxRecDepth 100000 in
set_option maxHeartbeats 2000000 in
theorem rthing_spec (s : ByteArray) (i : Nat) (f : Nat → Bool) (nt first : Bool) (hs : s.size ≤ 4611686018427387000) (hi : i ≤ 4611686018427387000) (w : World) (k1 : i + 1 < s.size) (hv : (bt s i == 91) = true) (hz : (bt s (i + 1) == 58) = false) (hm : marksB (bt s (i + 1)) = true) : Calls Try.prog 61 #[.string s, stV f i 0 0 false nt, .bool first] w fun e' w' => e' = .returned (badV 3 ((i : Int) + 2)) ∧ Below w.heap.size w w' := by
  have hb : bt s i = 91 := by simpa using hv
  have h93 : (bt s i == 93) = false := by rw [hb]; rfl
  have d0 : decide (s.size ≤ i) = false := by simp; omega
  have d1 : decide (s.size ≤ i + 1) = false := by simpa using k1
  clear hb
  have Hv := Lib.hid hv
  rw [bt_at s (i) (by omega)] at hv
  have v : (((s[i]).toNat : Int) == 91) = true := (beq_int' (s[i]) 91).trans hv
  have vn : (((s[i]).toNat : Int) != 91) = !true := by
    have := bne_int' (s[i]) 91
    rw [hv] at this
    exact this
  clear hv
  have h93' := h93
  clear h93
  have hy := h93'
  clear h93'
  have Hy := Lib.hid hy
  rw [bt_at s (i) (by omega)] at hy
  have y : (((s[i]).toNat : Int) == 93) = false := (beq_int' (s[i]) 93).trans hy
  have yn : (((s[i]).toNat : Int) != 93) = !false := by
    have := bne_int' (s[i]) 93
    rw [hy] at this
    exact this
  clear hy
  have Hz := Lib.hid hz
  rw [bt_at s (i + 1) (by omega)] at hz
  have z : (((s[i + 1]).toNat : Int) == 58) = false := (beq_int' (s[i + 1]) 58).trans hz
  have zn : (((s[i + 1]).toNat : Int) != 58) = !false := by
    have := bne_int' (s[i + 1]) 58
    rw [hz] at this
    exact this
  clear hz
  rw [bt_at s (i + 1) (by omega)] at hm
  have HM := Lib.hid hm; clear hm
  have q0 : Slab ((w.alloc (.cells (stCells f i 0 0 false nt) 83)).alloc (.cells (badCells 0 0) 83)) (w.heap.size + 1) (badCells 0 0) 83 := Slab.newAt _ _ _ (by simp)
  have HB0 : Below w.heap.size w ((w.alloc (.cells (stCells f i 0 0 false nt) 83)).alloc (.cells (badCells 0 0) 83)) := by (repeat' (first | (with_reducible exact Below.refl _ _) | (with_reducible assumption) | (with_reducible refine Below.alloc ?_ ?_ _) | (with_reducible refine Below.drew ?_) | (with_reducible refine below_set ?_ ?_ _) | (with_reducible refine below_call ?_ ?_ (by assumption)) | (with_reducible exact Below.size (by assumption)) | omega | go_size))
  have HB := Lib.hid HB0; clear HB0
  go_enter Try.func61, Try.ntmps61
  go_wp2_with fail
  refine (special_any s[i + 1] _).mono ?_
  rintro e1 w1 ⟨rfl, rfl⟩
  rw [HM.out]
  go_wp2_with fail
  refine (bad_any 3 ((i : Int) + 2) _).mono ?_
  rintro e9 w9 ⟨rfl, hb9⟩
  have q9 := q0.callD hb9 rfl
  have HB9 := Lib.hid (below_then HB.out hb9)
  clear hb9
  obtain ⟨c9, f9⟩ := q9.facts
  go_wp2
  refine bodyPost_ret (results_cell rfl rfl (load_slab (t := 83) (cs := badCells 3 ((i : Int) + 2)) ?_ 83 Try.underlying83 rfl (by kernel_rfl))) rfl ⟨rfl, ?_⟩
  · exact slab_setCells (vs := badCells 3 ((i : Int) + 2)) q9 rfl
  have hb := HB9.out
  (repeat' (first | (with_reducible exact Below.refl _ _) | (with_reducible assumption) | (with_reducible refine Below.alloc ?_ ?_ _) | (with_reducible refine Below.drew ?_) | (with_reducible refine below_set ?_ ?_ _) | (with_reducible refine below_call ?_ ?_ (by assumption)) | (with_reducible exact Below.size (by assumption)) | omega | go_size))
/- The span: three ways to come to it. -/
set_option maxRecDepth 100000 in
set_option maxHeartbeats 2000000 in
theorem rthing_one (s : ByteArray) (i : Nat) (f : Nat → Bool) (nt first : Bool) (hs : s.size ≤ 4611686018427387000) (hi : i ≤ 4611686018427387000) (w : World) (k0 : i + 1 < s.size) (hy : (bt s i == 93) = false ∨ first = true) (hC : (bt s i == 91) = false ∨ ((bt s (i + 1) == 58) = false ∧ marksB (bt s (i + 1)) = false)) (hq : (bt s (i + 1) == 45) = false) : Calls Try.prog 61 #[.string s, stV f i 0 0 false nt, .bool first] w fun e' w' => e' = .returned (stV (addB f (bt s i).toNat) ((i : Int) + 1) 0 0 false nt) ∧ Below w.heap.size w w' := by
  have Hq := Lib.hid hq
  rw [bt_at s (i + 1) (by omega)] at hq
  have q : (((s[i + 1]).toNat : Int) == 45) = false := (beq_int' (s[i + 1]) 45).trans hq
  have qn : (((s[i + 1]).toNat : Int) != 45) = !false := by
    have := bne_int' (s[i + 1]) 45
    rw [hq] at this
    exact this
  clear hq
  rw [bt_at s i (by omega)]
  have b0 : (s[i]'(by omega)).toNat < 256 := UInt8.toNat_lt _
  have d0 : decide (s.size ≤ i) = false := by simp; omega
  have d1 : decide (s.size ≤ i + 1) = false := by simpa using k0
  cases hv : (bt s i == 91) with
  | true =>
    have hb : bt s i = 91 := by simpa using hv
    rw [hv] at hC
    obtain ⟨hz, hm⟩ : (bt s (i + 1) == 58) = false ∧ marksB (bt s (i + 1)) = false := by simpa using hC
    clear hy hC
    have hy : (bt s i == 93) = false := by rw [hb]; rfl
    clear hb
    have Hv := Lib.hid hv
    rw [bt_at s (i) (by omega)] at hv
    have v : (((s[i]).toNat : Int) == 91) = true := (beq_int' (s[i]) 91).trans hv
    have vn : (((s[i]).toNat : Int) != 91) = !true := by
      have := bne_int' (s[i]) 91
      rw [hv] at this
      exact this
    clear hv
    have Hy := Lib.hid hy
    rw [bt_at s (i) (by omega)] at hy
    have y : (((s[i]).toNat : Int) == 93) = false := (beq_int' (s[i]) 93).trans hy
    have yn : (((s[i]).toNat : Int) != 93) = !false := by
      have := bne_int' (s[i]) 93
      rw [hy] at this
      exact this
    clear hy
    have Hz := Lib.hid hz
    rw [bt_at s (i + 1) (by omega)] at hz
    have z : (((s[i + 1]).toNat : Int) == 58) = false := (beq_int' (s[i + 1]) 58).trans hz
    have zn : (((s[i + 1]).toNat : Int) != 58) = !false := by
      have := bne_int' (s[i + 1]) 58
      rw [hz] at this
      exact this
    clear hz
    rw [bt_at s (i + 1) (by omega)] at hm
    have HM := Lib.hid hm; clear hm
    have q0 : Slab ((w.alloc (.cells (stCells f i 0 0 false nt) 83)).alloc (.cells (badCells 0 0) 83)) (w.heap.size + 1) (badCells 0 0) 83 := Slab.newAt _ _ _ (by simp)
    have HB0 : Below w.heap.size w ((w.alloc (.cells (stCells f i 0 0 false nt) 83)).alloc (.cells (badCells 0 0) 83)) := by (repeat' (first | (with_reducible exact Below.refl _ _) | (with_reducible assumption) | (with_reducible refine Below.alloc ?_ ?_ _) | (with_reducible refine Below.drew ?_) | (with_reducible refine below_set ?_ ?_ _) | (with_reducible refine below_call ?_ ?_ (by assumption)) | (with_reducible exact Below.size (by assumption)) | omega | go_size))
    have HB := Lib.hid HB0; clear HB0
    go_enter Try.func61, Try.ntmps61
    go_wp2_with fail
    refine (special_any s[i + 1] _).mono ?_
    rintro e1 w1 ⟨rfl, rfl⟩
    rw [HM.out]
    go_wp2_with fail
    refine (add1_any f i nt s[i] ((i : Int) + 1) _).mono ?_
    rintro e9 w9 ⟨rfl, hb9⟩
    have q9 := q0.callD hb9 rfl
    have HB9 := Lib.hid (below_then HB.out hb9)
    clear hb9
    obtain ⟨c9, f9⟩ := q9.facts
    go_wp2
    refine bodyPost_ret (results_cell rfl rfl (load_slab (t := 83) (cs := stCells (addB f (s[i]).toNat) ((i : Int) + 1) 0 0 false nt) ?_ 83 Try.underlying83 rfl (by kernel_rfl))) rfl ⟨rfl, ?_⟩
    · exact slab_setCells (vs := stCells (addB f (s[i]).toNat) ((i : Int) + 1) 0 0 false nt) q9 rfl
    have hb := HB9.out
    (repeat' (first | (with_reducible exact Below.refl _ _) | (with_reducible assumption) | (with_reducible refine Below.alloc ?_ ?_ _) | (with_reducible refine Below.drew ?_) | (with_reducible refine below_set ?_ ?_ _) | (with_reducible refine below_call ?_ ?_ (by assumption)) | (with_reducible exact Below.size (by assumption)) | omega | go_size))
  | false =>
    clear hC
    have Hv := Lib.hid hv
    rw [bt_at s (i) (by omega)] at hv
    have v : (((s[i]).toNat : Int) == 91) = false := (beq_int' (s[i]) 91).trans hv
    have vn : (((s[i]).toNat : Int) != 91) = !false := by
      have := bne_int' (s[i]) 91
      rw [hv] at this
      exact this
    clear hv
    cases hx : (bt s i == 93) with
    | false =>
      clear hy
      have hy := hx
      clear hx
      have Hy := Lib.hid hy
      rw [bt_at s (i) (by omega)] at hy
      have y : (((s[i]).toNat : Int) == 93) = false := (beq_int' (s[i]) 93).trans hy
      have yn : (((s[i]).toNat : Int) != 93) = !false := by
        have := bne_int' (s[i]) 93
        rw [hy] at this
        exact this
      clear hy
      have q0 : Slab ((w.alloc (.cells (stCells f i 0 0 false nt) 83)).alloc (.cells (badCells 0 0) 83)) (w.heap.size + 1) (badCells 0 0) 83 := Slab.newAt _ _ _ (by simp)
      have HB0 : Below w.heap.size w ((w.alloc (.cells (stCells f i 0 0 false nt) 83)).alloc (.cells (badCells 0 0) 83)) := by (repeat' (first | (with_reducible exact Below.refl _ _) | (with_reducible assumption) | (with_reducible refine Below.alloc ?_ ?_ _) | (with_reducible refine Below.drew ?_) | (with_reducible refine below_set ?_ ?_ _) | (with_reducible refine below_call ?_ ?_ (by assumption)) | (with_reducible exact Below.size (by assumption)) | omega | go_size))
      have HB := Lib.hid HB0; clear HB0
      go_enter Try.func61, Try.ntmps61
      go_wp2_with fail
      refine (add1_any f i nt s[i] ((i : Int) + 1) _).mono ?_
      rintro e9 w9 ⟨rfl, hb9⟩
      have q9 := q0.callD hb9 rfl
      have HB9 := Lib.hid (below_then HB.out hb9)
      clear hb9
      obtain ⟨c9, f9⟩ := q9.facts
      go_wp2
      refine bodyPost_ret (results_cell rfl rfl (load_slab (t := 83) (cs := stCells (addB f (s[i]).toNat) ((i : Int) + 1) 0 0 false nt) ?_ 83 Try.underlying83 rfl (by kernel_rfl))) rfl ⟨rfl, ?_⟩
      · exact slab_setCells (vs := stCells (addB f (s[i]).toNat) ((i : Int) + 1) 0 0 false nt) q9 rfl
      have hb := HB9.out
      (repeat' (first | (with_reducible exact Below.refl _ _) | (with_reducible assumption) | (with_reducible refine Below.alloc ?_ ?_ _) | (with_reducible refine Below.drew ?_) | (with_reducible refine below_set ?_ ?_ _) | (with_reducible refine below_call ?_ ?_ (by assumption)) | (with_reducible exact Below.size (by assumption)) | omega | go_size))
    | true =>
      rw [hx] at hy
      obtain rfl : first = true := by simpa using hy
      clear hy
      have hy := hx
      clear hx
      have Hy := Lib.hid hy
      rw [bt_at s (i) (by omega)] at hy
      have y : (((s[i]).toNat : Int) == 93) = true := (beq_int' (s[i]) 93).trans hy
      have yn : (((s[i]).toNat : Int) != 93) = !true := by
        have := bne_int' (s[i]) 93
        rw [hy] at this
        exact this
      clear hy
      have q0 : Slab ((w.alloc (.cells (stCells f i 0 0 false nt) 83)).alloc (.cells (badCells 0 0) 83)) (w.heap.size + 1) (badCells 0 0) 83 := Slab.newAt _ _ _ (by simp)
      have HB0 : Below w.heap.size w ((w.alloc (.cells (stCells f i 0 0 false nt) 83)).alloc (.cells (badCells 0 0) 83)) := by (repeat' (first | (with_reducible exact Below.refl _ _) | (with_reducible assumption) | (with_reducible refine Below.alloc ?_ ?_ _) | (with_reducible refine Below.drew ?_) | (with_reducible refine below_set ?_ ?_ _) | (with_reducible refine below_call ?_ ?_ (by assumption)) | (with_reducible exact Below.size (by assumption)) | omega | go_size))
      have HB := Lib.hid HB0; clear HB0
      go_enter Try.func61, Try.ntmps61
      go_wp2_with fail
      refine (add1_any f i nt s[i] ((i : Int) + 1) _).mono ?_
      rintro e9 w9 ⟨rfl, hb9⟩
      have q9 := q0.callD hb9 rfl
      have HB9 := Lib.hid (below_then HB.out hb9)
      clear hb9
      obtain ⟨c9, f9⟩ := q9.facts
      go_wp2
      refine bodyPost_ret (results_cell rfl rfl (load_slab (t := 83) (cs := stCells (addB f (s[i]).toNat) ((i : Int) + 1) 0 0 false nt) ?_ 83 Try.underlying83 rfl (by kernel_rfl))) rfl ⟨rfl, ?_⟩
      · exact slab_setCells (vs := stCells (addB f (s[i]).toNat) ((i : Int) + 1) 0 0 false nt) q9 rfl
      have hb := HB9.out
      (repeat' (first | (with_reducible exact Below.refl _ _) | (with_reducible assumption) | (with_reducible refine Below.alloc ?_ ?_ _) | (with_reducible refine Below.drew ?_) | (with_reducible refine below_set ?_ ?_ _) | (with_reducible refine below_call ?_ ?_ (by assumption)) | (with_reducible exact Below.size (by assumption)) | omega | go_size))
set_option maxRecDepth 100000 in
set_option maxHeartbeats 2000000 in
theorem rthing_short2 (s : ByteArray) (i : Nat) (f : Nat → Bool) (nt first : Bool) (hs : s.size ≤ 4611686018427387000) (hi : i ≤ 4611686018427387000) (w : World) (k0 : i + 1 < s.size) (hy : (bt s i == 93) = false ∨ first = true) (hC : (bt s i == 91) = false ∨ ((bt s (i + 1) == 58) = false ∧ marksB (bt s (i + 1)) = false)) (hq : (bt s (i + 1) == 45) = true) (k2 : s.size ≤ i + 2) : Calls Try.prog 61 #[.string s, stV f i 0 0 false nt, .bool first] w fun e' w' => e' = .returned (badV 2 s.size) ∧ Below w.heap.size w w' := by
  have Hq := Lib.hid hq
  rw [bt_at s (i + 1) (by omega)] at hq
  have q : (((s[i + 1]).toNat : Int) == 45) = true := (beq_int' (s[i + 1]) 45).trans hq
  have qn : (((s[i + 1]).toNat : Int) != 45) = !true := by
    have := bne_int' (s[i + 1]) 45
    rw [hq] at this
    exact this
  clear hq
  have d2 : decide (s.size ≤ i + 2) = true := by simpa using k2
  have b0 : (s[i]'(by omega)).toNat < 256 := UInt8.toNat_lt _
  have d0 : decide (s.size ≤ i) = false := by simp; omega
  have d1 : decide (s.size ≤ i + 1) = false := by simpa using k0
  cases hv : (bt s i == 91) with
  | true =>
    have hb : bt s i = 91 := by simpa using hv
    rw [hv] at hC
    obtain ⟨hz, hm⟩ : (bt s (i + 1) == 58) = false ∧ marksB (bt s (i + 1)) = false := by simpa using hC
    clear hy hC
    have hy : (bt s i == 93) = false := by rw [hb]; rfl
    clear hb
    have Hv := Lib.hid hv
    rw [bt_at s (i) (by omega)] at hv
    have v : (((s[i]).toNat : Int) == 91) = true := (beq_int' (s[i]) 91).trans hv
    have vn : (((s[i]).toNat : Int) != 91) = !true := by
      have := bne_int' (s[i]) 91
      rw [hv] at this
      exact this
    clear hv
    have Hy := Lib.hid hy
    rw [bt_at s (i) (by omega)] at hy
    have y : (((s[i]).toNat : Int) == 93) = false := (beq_int' (s[i]) 93).trans hy
    have yn : (((s[i]).toNat : Int) != 93) = !false := by
      have := bne_int' (s[i]) 93
      rw [hy] at this
      exact this
    clear hy
    have Hz := Lib.hid hz
    rw [bt_at s (i + 1) (by omega)] at hz
    have z : (((s[i + 1]).toNat : Int) == 58) = false := (beq_int' (s[i + 1]) 58).trans hz
    have zn : (((s[i + 1]).toNat : Int) != 58) = !false := by
      have := bne_int' (s[i + 1]) 58
      rw [hz] at this
      exact this
    clear hz
    rw [bt_at s (i + 1) (by omega)] at hm
    have HM := Lib.hid hm; clear hm
    have q0 : Slab ((w.alloc (.cells (stCells f i 0 0 false nt) 83)).alloc (.cells (badCells 0 0) 83)) (w.heap.size + 1) (badCells 0 0) 83 := Slab.newAt _ _ _ (by simp)
    have HB0 : Below w.heap.size w ((w.alloc (.cells (stCells f i 0 0 false nt) 83)).alloc (.cells (badCells 0 0) 83)) := by (repeat' (first | (with_reducible exact Below.refl _ _) | (with_reducible assumption) | (with_reducible refine Below.alloc ?_ ?_ _) | (with_reducible refine Below.drew ?_) | (with_reducible refine below_set ?_ ?_ _) | (with_reducible refine below_call ?_ ?_ (by assumption)) | (with_reducible exact Below.size (by assumption)) | omega | go_size))
    have HB := Lib.hid HB0; clear HB0
    go_enter Try.func61, Try.ntmps61
    go_wp2_with fail
    refine (special_any s[i + 1] _).mono ?_
    rintro e1 w1 ⟨rfl, rfl⟩
    rw [HM.out]
    go_wp2_with fail
    refine (bad_any 2 s.size _).mono ?_
    rintro e9 w9 ⟨rfl, hb9⟩
    have q9 := q0.callD hb9 rfl
    have HB9 := Lib.hid (below_then HB.out hb9)
    clear hb9
    obtain ⟨c9, f9⟩ := q9.facts
    go_wp2
    refine bodyPost_ret (results_cell rfl rfl (load_slab (t := 83) (cs := badCells 2 s.size) ?_ 83 Try.underlying83 rfl (by kernel_rfl))) rfl ⟨rfl, ?_⟩
    · exact slab_setCells (vs := badCells 2 s.size) q9 rfl
    have hb := HB9.out
    (repeat' (first | (with_reducible exact Below.refl _ _) | (with_reducible assumption) | (with_reducible refine Below.alloc ?_ ?_ _) | (with_reducible refine Below.drew ?_) | (with_reducible refine below_set ?_ ?_ _) | (with_reducible refine below_call ?_ ?_ (by assumption)) | (with_reducible exact Below.size (by assumption)) | omega | go_size))
  | false =>
    clear hC
    have Hv := Lib.hid hv
    rw [bt_at s (i) (by omega)] at hv
    have v : (((s[i]).toNat : Int) == 91) = false := (beq_int' (s[i]) 91).trans hv
    have vn : (((s[i]).toNat : Int) != 91) = !false := by
      have := bne_int' (s[i]) 91
      rw [hv] at this
      exact this
    clear hv
    cases hx : (bt s i == 93) with
    | false =>
      clear hy
      have hy := hx
      clear hx
      have Hy := Lib.hid hy
      rw [bt_at s (i) (by omega)] at hy
      have y : (((s[i]).toNat : Int) == 93) = false := (beq_int' (s[i]) 93).trans hy
      have yn : (((s[i]).toNat : Int) != 93) = !false := by
        have := bne_int' (s[i]) 93
        rw [hy] at this
        exact this
      clear hy
      have q0 : Slab ((w.alloc (.cells (stCells f i 0 0 false nt) 83)).alloc (.cells (badCells 0 0) 83)) (w.heap.size + 1) (badCells 0 0) 83 := Slab.newAt _ _ _ (by simp)
      have HB0 : Below w.heap.size w ((w.alloc (.cells (stCells f i 0 0 false nt) 83)).alloc (.cells (badCells 0 0) 83)) := by (repeat' (first | (with_reducible exact Below.refl _ _) | (with_reducible assumption) | (with_reducible refine Below.alloc ?_ ?_ _) | (with_reducible refine Below.drew ?_) | (with_reducible refine below_set ?_ ?_ _) | (with_reducible refine below_call ?_ ?_ (by assumption)) | (with_reducible exact Below.size (by assumption)) | omega | go_size))
      have HB := Lib.hid HB0; clear HB0
      go_enter Try.func61, Try.ntmps61
      go_wp2_with fail
      refine (bad_any 2 s.size _).mono ?_
      rintro e9 w9 ⟨rfl, hb9⟩
      have q9 := q0.callD hb9 rfl
      have HB9 := Lib.hid (below_then HB.out hb9)
      clear hb9
      obtain ⟨c9, f9⟩ := q9.facts
      go_wp2
      refine bodyPost_ret (results_cell rfl rfl (load_slab (t := 83) (cs := badCells 2 s.size) ?_ 83 Try.underlying83 rfl (by kernel_rfl))) rfl ⟨rfl, ?_⟩
      · exact slab_setCells (vs := badCells 2 s.size) q9 rfl
      have hb := HB9.out
      (repeat' (first | (with_reducible exact Below.refl _ _) | (with_reducible assumption) | (with_reducible refine Below.alloc ?_ ?_ _) | (with_reducible refine Below.drew ?_) | (with_reducible refine below_set ?_ ?_ _) | (with_reducible refine below_call ?_ ?_ (by assumption)) | (with_reducible exact Below.size (by assumption)) | omega | go_size))
    | true =>
      rw [hx] at hy
      obtain rfl : first = true := by simpa using hy
      clear hy
      have hy := hx
      clear hx
      have Hy := Lib.hid hy
      rw [bt_at s (i) (by omega)] at hy
      have y : (((s[i]).toNat : Int) == 93) = true := (beq_int' (s[i]) 93).trans hy
      have yn : (((s[i]).toNat : Int) != 93) = !true := by
        have := bne_int' (s[i]) 93
        rw [hy] at this
        exact this
      clear hy
      have q0 : Slab ((w.alloc (.cells (stCells f i 0 0 false nt) 83)).alloc (.cells (badCells 0 0) 83)) (w.heap.size + 1) (badCells 0 0) 83 := Slab.newAt _ _ _ (by simp)
      have HB0 : Below w.heap.size w ((w.alloc (.cells (stCells f i 0 0 false nt) 83)).alloc (.cells (badCells 0 0) 83)) := by (repeat' (first | (with_reducible exact Below.refl _ _) | (with_reducible assumption) | (with_reducible refine Below.alloc ?_ ?_ _) | (with_reducible refine Below.drew ?_) | (with_reducible refine below_set ?_ ?_ _) | (with_reducible refine below_call ?_ ?_ (by assumption)) | (with_reducible exact Below.size (by assumption)) | omega | go_size))
      have HB := Lib.hid HB0; clear HB0
      go_enter Try.func61, Try.ntmps61
      go_wp2_with fail
      refine (bad_any 2 s.size _).mono ?_
      rintro e9 w9 ⟨rfl, hb9⟩
      have q9 := q0.callD hb9 rfl
      have HB9 := Lib.hid (below_then HB.out hb9)
      clear hb9
      obtain ⟨c9, f9⟩ := q9.facts
      go_wp2
      refine bodyPost_ret (results_cell rfl rfl (load_slab (t := 83) (cs := badCells 2 s.size) ?_ 83 Try.underlying83 rfl (by kernel_rfl))) rfl ⟨rfl, ?_⟩
      · exact slab_setCells (vs := badCells 2 s.size) q9 rfl
      have hb := HB9.out
      (repeat' (first | (with_reducible exact Below.refl _ _) | (with_reducible assumption) | (with_reducible refine Below.alloc ?_ ?_ _) | (with_reducible refine Below.drew ?_) | (with_reducible refine below_set ?_ ?_ _) | (with_reducible refine below_call ?_ ?_ (by assumption)) | (with_reducible exact Below.size (by assumption)) | omega | go_size))
set_option maxRecDepth 100000 in
set_option maxHeartbeats 2000000 in
theorem rthing_shut (s : ByteArray) (i : Nat) (f : Nat → Bool) (nt first : Bool) (hs : s.size ≤ 4611686018427387000) (hi : i ≤ 4611686018427387000) (w : World) (k0 : i + 1 < s.size) (hy : (bt s i == 93) = false ∨ first = true) (hC : (bt s i == 91) = false ∨ ((bt s (i + 1) == 58) = false ∧ marksB (bt s (i + 1)) = false)) (hq : (bt s (i + 1) == 45) = true) (k2 : i + 2 < s.size) (hr : (bt s (i + 2) == 93) = true) : Calls Try.prog 61 #[.string s, stV f i 0 0 false nt, .bool first] w fun e' w' => e' = .returned (stV (addB f (bt s i).toNat) ((i : Int) + 1) 0 0 false nt) ∧ Below w.heap.size w w' := by
  have Hq := Lib.hid hq
  rw [bt_at s (i + 1) (by omega)] at hq
  have q : (((s[i + 1]).toNat : Int) == 45) = true := (beq_int' (s[i + 1]) 45).trans hq
  have qn : (((s[i + 1]).toNat : Int) != 45) = !true := by
    have := bne_int' (s[i + 1]) 45
    rw [hq] at this
    exact this
  clear hq
  have d2 : decide (s.size ≤ i + 2) = false := by simpa using k2
  have Hr := Lib.hid hr
  rw [bt_at s (i + 2) (by omega)] at hr
  have r : (((s[i + 2]).toNat : Int) == 93) = true := (beq_int' (s[i + 2]) 93).trans hr
  have rn : (((s[i + 2]).toNat : Int) != 93) = !true := by
    have := bne_int' (s[i + 2]) 93
    rw [hr] at this
    exact this
  clear hr
  rw [bt_at s i (by omega)]
  have b0 : (s[i]'(by omega)).toNat < 256 := UInt8.toNat_lt _
  have d0 : decide (s.size ≤ i) = false := by simp; omega
  have d1 : decide (s.size ≤ i + 1) = false := by simpa using k0
  cases hv : (bt s i == 91) with
  | true =>
    have hb : bt s i = 91 := by simpa using hv
    rw [hv] at hC
    obtain ⟨hz, hm⟩ : (bt s (i + 1) == 58) = false ∧ marksB (bt s (i + 1)) = false := by simpa using hC
    clear hy hC
    have hy : (bt s i == 93) = false := by rw [hb]; rfl
    clear hb
    have Hv := Lib.hid hv
    rw [bt_at s (i) (by omega)] at hv
    have v : (((s[i]).toNat : Int) == 91) = true := (beq_int' (s[i]) 91).trans hv
    have vn : (((s[i]).toNat : Int) != 91) = !true := by
      have := bne_int' (s[i]) 91
      rw [hv] at this
      exact this
    clear hv
    have Hy := Lib.hid hy
    rw [bt_at s (i) (by omega)] at hy
    have y : (((s[i]).toNat : Int) == 93) = false := (beq_int' (s[i]) 93).trans hy
    have yn : (((s[i]).toNat : Int) != 93) = !false := by
      have := bne_int' (s[i]) 93
      rw [hy] at this
      exact this
    clear hy
    have Hz := Lib.hid hz
    rw [bt_at s (i + 1) (by omega)] at hz
    have z : (((s[i + 1]).toNat : Int) == 58) = false := (beq_int' (s[i + 1]) 58).trans hz
    have zn : (((s[i + 1]).toNat : Int) != 58) = !false := by
      have := bne_int' (s[i + 1]) 58
      rw [hz] at this
      exact this
    clear hz
    rw [bt_at s (i + 1) (by omega)] at hm
    have HM := Lib.hid hm; clear hm
    have q0 : Slab ((w.alloc (.cells (stCells f i 0 0 false nt) 83)).alloc (.cells (badCells 0 0) 83)) (w.heap.size + 1) (badCells 0 0) 83 := Slab.newAt _ _ _ (by simp)
    have HB0 : Below w.heap.size w ((w.alloc (.cells (stCells f i 0 0 false nt) 83)).alloc (.cells (badCells 0 0) 83)) := by (repeat' (first | (with_reducible exact Below.refl _ _) | (with_reducible assumption) | (with_reducible refine Below.alloc ?_ ?_ _) | (with_reducible refine Below.drew ?_) | (with_reducible refine below_set ?_ ?_ _) | (with_reducible refine below_call ?_ ?_ (by assumption)) | (with_reducible exact Below.size (by assumption)) | omega | go_size))
    have HB := Lib.hid HB0; clear HB0
    go_enter Try.func61, Try.ntmps61
    go_wp2_with fail
    refine (special_any s[i + 1] _).mono ?_
    rintro e1 w1 ⟨rfl, rfl⟩
    rw [HM.out]
    go_wp2_with fail
    refine (add1_any f i nt s[i] ((i : Int) + 1) _).mono ?_
    rintro e9 w9 ⟨rfl, hb9⟩
    have q9 := q0.callD hb9 rfl
    have HB9 := Lib.hid (below_then HB.out hb9)
    clear hb9
    obtain ⟨c9, f9⟩ := q9.facts
    go_wp2
    refine bodyPost_ret (results_cell rfl rfl (load_slab (t := 83) (cs := stCells (addB f (s[i]).toNat) ((i : Int) + 1) 0 0 false nt) ?_ 83 Try.underlying83 rfl (by kernel_rfl))) rfl ⟨rfl, ?_⟩
    · exact slab_setCells (vs := stCells (addB f (s[i]).toNat) ((i : Int) + 1) 0 0 false nt) q9 rfl
    have hb := HB9.out
    (repeat' (first | (with_reducible exact Below.refl _ _) | (with_reducible assumption) | (with_reducible refine Below.alloc ?_ ?_ _) | (with_reducible refine Below.drew ?_) | (with_reducible refine below_set ?_ ?_ _) | (with_reducible refine below_call ?_ ?_ (by assumption)) | (with_reducible exact Below.size (by assumption)) | omega | go_size))
  | false =>
    clear hC
    have Hv := Lib.hid hv
    rw [bt_at s (i) (by omega)] at hv
    have v : (((s[i]).toNat : Int) == 91) = false := (beq_int' (s[i]) 91).trans hv
    have vn : (((s[i]).toNat : Int) != 91) = !false := by
      have := bne_int' (s[i]) 91
      rw [hv] at this
      exact this
    clear hv
    cases hx : (bt s i == 93) with
    | false =>
      clear hy
      have hy := hx
      clear hx
      have Hy := Lib.hid hy
      rw [bt_at s (i) (by omega)] at hy
      have y : (((s[i]).toNat : Int) == 93) = false := (beq_int' (s[i]) 93).trans hy
      have yn : (((s[i]).toNat : Int) != 93) = !false := by
        have := bne_int' (s[i]) 93
        rw [hy] at this
        exact this
      clear hy
      have q0 : Slab ((w.alloc (.cells (stCells f i 0 0 false nt) 83)).alloc (.cells (badCells 0 0) 83)) (w.heap.size + 1) (badCells 0 0) 83 := Slab.newAt _ _ _ (by simp)
      have HB0 : Below w.heap.size w ((w.alloc (.cells (stCells f i 0 0 false nt) 83)).alloc (.cells (badCells 0 0) 83)) := by (repeat' (first | (with_reducible exact Below.refl _ _) | (with_reducible assumption) | (with_reducible refine Below.alloc ?_ ?_ _) | (with_reducible refine Below.drew ?_) | (with_reducible refine below_set ?_ ?_ _) | (with_reducible refine below_call ?_ ?_ (by assumption)) | (with_reducible exact Below.size (by assumption)) | omega | go_size))
      have HB := Lib.hid HB0; clear HB0
      go_enter Try.func61, Try.ntmps61
      go_wp2_with fail
      refine (add1_any f i nt s[i] ((i : Int) + 1) _).mono ?_
      rintro e9 w9 ⟨rfl, hb9⟩
      have q9 := q0.callD hb9 rfl
      have HB9 := Lib.hid (below_then HB.out hb9)
      clear hb9
      obtain ⟨c9, f9⟩ := q9.facts
      go_wp2
      refine bodyPost_ret (results_cell rfl rfl (load_slab (t := 83) (cs := stCells (addB f (s[i]).toNat) ((i : Int) + 1) 0 0 false nt) ?_ 83 Try.underlying83 rfl (by kernel_rfl))) rfl ⟨rfl, ?_⟩
      · exact slab_setCells (vs := stCells (addB f (s[i]).toNat) ((i : Int) + 1) 0 0 false nt) q9 rfl
      have hb := HB9.out
      (repeat' (first | (with_reducible exact Below.refl _ _) | (with_reducible assumption) | (with_reducible refine Below.alloc ?_ ?_ _) | (with_reducible refine Below.drew ?_) | (with_reducible refine below_set ?_ ?_ _) | (with_reducible refine below_call ?_ ?_ (by assumption)) | (with_reducible exact Below.size (by assumption)) | omega | go_size))
    | true =>
      rw [hx] at hy
      obtain rfl : first = true := by simpa using hy
      clear hy
      have hy := hx
      clear hx
      have Hy := Lib.hid hy
      rw [bt_at s (i) (by omega)] at hy
      have y : (((s[i]).toNat : Int) == 93) = true := (beq_int' (s[i]) 93).trans hy
      have yn : (((s[i]).toNat : Int) != 93) = !true := by
        have := bne_int' (s[i]) 93
        rw [hy] at this
        exact this
      clear hy
      have q0 : Slab ((w.alloc (.cells (stCells f i 0 0 false nt) 83)).alloc (.cells (badCells 0 0) 83)) (w.heap.size + 1) (badCells 0 0) 83 := Slab.newAt _ _ _ (by simp)
      have HB0 : Below w.heap.size w ((w.alloc (.cells (stCells f i 0 0 false nt) 83)).alloc (.cells (badCells 0 0) 83)) := by (repeat' (first | (with_reducible exact Below.refl _ _) | (with_reducible assumption) | (with_reducible refine Below.alloc ?_ ?_ _) | (with_reducible refine Below.drew ?_) | (with_reducible refine below_set ?_ ?_ _) | (with_reducible refine below_call ?_ ?_ (by assumption)) | (with_reducible exact Below.size (by assumption)) | omega | go_size))
      have HB := Lib.hid HB0; clear HB0
      go_enter Try.func61, Try.ntmps61
      go_wp2_with fail
      refine (add1_any f i nt s[i] ((i : Int) + 1) _).mono ?_
      rintro e9 w9 ⟨rfl, hb9⟩
      have q9 := q0.callD hb9 rfl
      have HB9 := Lib.hid (below_then HB.out hb9)
      clear hb9
      obtain ⟨c9, f9⟩ := q9.facts
      go_wp2
      refine bodyPost_ret (results_cell rfl rfl (load_slab (t := 83) (cs := stCells (addB f (s[i]).toNat) ((i : Int) + 1) 0 0 false nt) ?_ 83 Try.underlying83 rfl (by kernel_rfl))) rfl ⟨rfl, ?_⟩
      · exact slab_setCells (vs := stCells (addB f (s[i]).toNat) ((i : Int) + 1) 0 0 false nt) q9 rfl
      have hb := HB9.out
      (repeat' (first | (with_reducible exact Below.refl _ _) | (with_reducible assumption) | (with_reducible refine Below.alloc ?_ ?_ _) | (with_reducible refine Below.drew ?_) | (with_reducible refine below_set ?_ ?_ _) | (with_reducible refine below_call ?_ ?_ (by assumption)) | (with_reducible exact Below.size (by assumption)) | omega | go_size))
set_option maxRecDepth 100000 in
set_option maxHeartbeats 2000000 in
theorem rthing_less (s : ByteArray) (i : Nat) (f : Nat → Bool) (nt first : Bool) (hs : s.size ≤ 4611686018427387000) (hi : i ≤ 4611686018427387000) (w : World) (k0 : i + 1 < s.size) (hy : (bt s i == 93) = false ∨ first = true) (hC : (bt s i == 91) = false ∨ ((bt s (i + 1) == 58) = false ∧ marksB (bt s (i + 1)) = false)) (hq : (bt s (i + 1) == 45) = true) (k2 : i + 2 < s.size) (hr : (bt s (i + 2) == 93) = false) (hl : (bt s (i + 2)).toNat < (bt s i).toNat) : Calls Try.prog 61 #[.string s, stV f i 0 0 false nt, .bool first] w fun e' w' => e' = .returned (badV 4 ((i : Int) + 3)) ∧ Below w.heap.size w w' := by
  have Hq := Lib.hid hq
  rw [bt_at s (i + 1) (by omega)] at hq
  have q : (((s[i + 1]).toNat : Int) == 45) = true := (beq_int' (s[i + 1]) 45).trans hq
  have qn : (((s[i + 1]).toNat : Int) != 45) = !true := by
    have := bne_int' (s[i + 1]) 45
    rw [hq] at this
    exact this
  clear hq
  have d2 : decide (s.size ≤ i + 2) = false := by simpa using k2
  have Hr := Lib.hid hr
  rw [bt_at s (i + 2) (by omega)] at hr
  have r : (((s[i + 2]).toNat : Int) == 93) = false := (beq_int' (s[i + 2]) 93).trans hr
  have rn : (((s[i + 2]).toNat : Int) != 93) = !false := by
    have := bne_int' (s[i + 2]) 93
    rw [hr] at this
    exact this
  clear hr
  rw [bt_at s i (by omega), bt_at s (i + 2) (by omega)] at hl
  have d3 : decide ((s[i + 2]).toNat < (s[i]).toNat) = true := by simpa using hl
  clear hl
  have b0 : (s[i]'(by omega)).toNat < 256 := UInt8.toNat_lt _
  have d0 : decide (s.size ≤ i) = false := by simp; omega
  have d1 : decide (s.size ≤ i + 1) = false := by simpa using k0
  cases hv : (bt s i == 91) with
  | true =>
    have hb : bt s i = 91 := by simpa using hv
    rw [hv] at hC
    obtain ⟨hz, hm⟩ : (bt s (i + 1) == 58) = false ∧ marksB (bt s (i + 1)) = false := by simpa using hC
    clear hy hC
    have hy : (bt s i == 93) = false := by rw [hb]; rfl
    clear hb
    have Hv := Lib.hid hv
    rw [bt_at s (i) (by omega)] at hv
    have v : (((s[i]).toNat : Int) == 91) = true := (beq_int' (s[i]) 91).trans hv
    have vn : (((s[i]).toNat : Int) != 91) = !true := by
      have := bne_int' (s[i]) 91
      rw [hv] at this
      exact this
    clear hv
    have Hy := Lib.hid hy
    rw [bt_at s (i) (by omega)] at hy
    have y : (((s[i]).toNat : Int) == 93) = false := (beq_int' (s[i]) 93).trans hy
    have yn : (((s[i]).toNat : Int) != 93) = !false := by
      have := bne_int' (s[i]) 93
      rw [hy] at this
      exact this
    clear hy
    have Hz := Lib.hid hz
    rw [bt_at s (i + 1) (by omega)] at hz
    have z : (((s[i + 1]).toNat : Int) == 58) = false := (beq_int' (s[i + 1]) 58).trans hz
    have zn : (((s[i + 1]).toNat : Int) != 58) = !false := by
      have := bne_int' (s[i + 1]) 58
      rw [hz] at this
      exact this
    clear hz
    rw [bt_at s (i + 1) (by omega)] at hm
    have HM := Lib.hid hm; clear hm
    have q0 : Slab ((w.alloc (.cells (stCells f i 0 0 false nt) 83)).alloc (.cells (badCells 0 0) 83)) (w.heap.size + 1) (badCells 0 0) 83 := Slab.newAt _ _ _ (by simp)
    have HB0 : Below w.heap.size w ((w.alloc (.cells (stCells f i 0 0 false nt) 83)).alloc (.cells (badCells 0 0) 83)) := by (repeat' (first | (with_reducible exact Below.refl _ _) | (with_reducible assumption) | (with_reducible refine Below.alloc ?_ ?_ _) | (with_reducible refine Below.drew ?_) | (with_reducible refine below_set ?_ ?_ _) | (with_reducible refine below_call ?_ ?_ (by assumption)) | (with_reducible exact Below.size (by assumption)) | omega | go_size))
    have HB := Lib.hid HB0; clear HB0
    go_enter Try.func61, Try.ntmps61
    go_wp2_with fail
    refine (special_any s[i + 1] _).mono ?_
    rintro e1 w1 ⟨rfl, rfl⟩
    rw [HM.out]
    go_wp2_with fail
    refine (bad_any 4 ((i : Int) + 3) _).mono ?_
    rintro e9 w9 ⟨rfl, hb9⟩
    have q9 := q0.callD hb9 rfl
    have HB9 := Lib.hid (below_then HB.out hb9)
    clear hb9
    obtain ⟨c9, f9⟩ := q9.facts
    go_wp2
    refine bodyPost_ret (results_cell rfl rfl (load_slab (t := 83) (cs := badCells 4 ((i : Int) + 3)) ?_ 83 Try.underlying83 rfl (by kernel_rfl))) rfl ⟨rfl, ?_⟩
    · exact slab_setCells (vs := badCells 4 ((i : Int) + 3)) q9 rfl
    have hb := HB9.out
    (repeat' (first | (with_reducible exact Below.refl _ _) | (with_reducible assumption) | (with_reducible refine Below.alloc ?_ ?_ _) | (with_reducible refine Below.drew ?_) | (with_reducible refine below_set ?_ ?_ _) | (with_reducible refine below_call ?_ ?_ (by assumption)) | (with_reducible exact Below.size (by assumption)) | omega | go_size))
  | false =>
    clear hC
    have Hv := Lib.hid hv
    rw [bt_at s (i) (by omega)] at hv
    have v : (((s[i]).toNat : Int) == 91) = false := (beq_int' (s[i]) 91).trans hv
    have vn : (((s[i]).toNat : Int) != 91) = !false := by
      have := bne_int' (s[i]) 91
      rw [hv] at this
      exact this
    clear hv
    cases hx : (bt s i == 93) with
    | false =>
      clear hy
      have hy := hx
      clear hx
      have Hy := Lib.hid hy
      rw [bt_at s (i) (by omega)] at hy
      have y : (((s[i]).toNat : Int) == 93) = false := (beq_int' (s[i]) 93).trans hy
      have yn : (((s[i]).toNat : Int) != 93) = !false := by
        have := bne_int' (s[i]) 93
        rw [hy] at this
        exact this
      clear hy
      have q0 : Slab ((w.alloc (.cells (stCells f i 0 0 false nt) 83)).alloc (.cells (badCells 0 0) 83)) (w.heap.size + 1) (badCells 0 0) 83 := Slab.newAt _ _ _ (by simp)
      have HB0 : Below w.heap.size w ((w.alloc (.cells (stCells f i 0 0 false nt) 83)).alloc (.cells (badCells 0 0) 83)) := by (repeat' (first | (with_reducible exact Below.refl _ _) | (with_reducible assumption) | (with_reducible refine Below.alloc ?_ ?_ _) | (with_reducible refine Below.drew ?_) | (with_reducible refine below_set ?_ ?_ _) | (with_reducible refine below_call ?_ ?_ (by assumption)) | (with_reducible exact Below.size (by assumption)) | omega | go_size))
      have HB := Lib.hid HB0; clear HB0
      go_enter Try.func61, Try.ntmps61
      go_wp2_with fail
      refine (bad_any 4 ((i : Int) + 3) _).mono ?_
      rintro e9 w9 ⟨rfl, hb9⟩
      have q9 := q0.callD hb9 rfl
      have HB9 := Lib.hid (below_then HB.out hb9)
      clear hb9
      obtain ⟨c9, f9⟩ := q9.facts
      go_wp2
      refine bodyPost_ret (results_cell rfl rfl (load_slab (t := 83) (cs := badCells 4 ((i : Int) + 3)) ?_ 83 Try.underlying83 rfl (by kernel_rfl))) rfl ⟨rfl, ?_⟩
      · exact slab_setCells (vs := badCells 4 ((i : Int) + 3)) q9 rfl
      have hb := HB9.out
      (repeat' (first | (with_reducible exact Below.refl _ _) | (with_reducible assumption) | (with_reducible refine Below.alloc ?_ ?_ _) | (with_reducible refine Below.drew ?_) | (with_reducible refine below_set ?_ ?_ _) | (with_reducible refine below_call ?_ ?_ (by assumption)) | (with_reducible exact Below.size (by assumption)) | omega | go_size))
    | true =>
      rw [hx] at hy
      obtain rfl : first = true := by simpa using hy
      clear hy
      have hy := hx
      clear hx
      have Hy := Lib.hid hy
      rw [bt_at s (i) (by omega)] at hy
      have y : (((s[i]).toNat : Int) == 93) = true := (beq_int' (s[i]) 93).trans hy
      have yn : (((s[i]).toNat : Int) != 93) = !true := by
        have := bne_int' (s[i]) 93
        rw [hy] at this
        exact this
      clear hy
      have q0 : Slab ((w.alloc (.cells (stCells f i 0 0 false nt) 83)).alloc (.cells (badCells 0 0) 83)) (w.heap.size + 1) (badCells 0 0) 83 := Slab.newAt _ _ _ (by simp)
      have HB0 : Below w.heap.size w ((w.alloc (.cells (stCells f i 0 0 false nt) 83)).alloc (.cells (badCells 0 0) 83)) := by (repeat' (first | (with_reducible exact Below.refl _ _) | (with_reducible assumption) | (with_reducible refine Below.alloc ?_ ?_ _) | (with_reducible refine Below.drew ?_) | (with_reducible refine below_set ?_ ?_ _) | (with_reducible refine below_call ?_ ?_ (by assumption)) | (with_reducible exact Below.size (by assumption)) | omega | go_size))
      have HB := Lib.hid HB0; clear HB0
      go_enter Try.func61, Try.ntmps61
      go_wp2_with fail
      refine (bad_any 4 ((i : Int) + 3) _).mono ?_
      rintro e9 w9 ⟨rfl, hb9⟩
      have q9 := q0.callD hb9 rfl
      have HB9 := Lib.hid (below_then HB.out hb9)
      clear hb9
      obtain ⟨c9, f9⟩ := q9.facts
      go_wp2
      refine bodyPost_ret (results_cell rfl rfl (load_slab (t := 83) (cs := badCells 4 ((i : Int) + 3)) ?_ 83 Try.underlying83 rfl (by kernel_rfl))) rfl ⟨rfl, ?_⟩
      · exact slab_setCells (vs := badCells 4 ((i : Int) + 3)) q9 rfl
      have hb := HB9.out
      (repeat' (first | (with_reducible exact Below.refl _ _) | (with_reducible assumption) | (with_reducible refine Below.alloc ?_ ?_ _) | (with_reducible refine Below.drew ?_) | (with_reducible refine below_set ?_ ?_ _) | (with_reducible refine below_call ?_ ?_ (by assumption)) | (with_reducible exact Below.size (by assumption)) | omega | go_size))
set_option maxRecDepth 100000 in
set_option maxHeartbeats 2000000 in
theorem rthing_short3 (s : ByteArray) (i : Nat) (f : Nat → Bool) (nt first : Bool) (hs : s.size ≤ 4611686018427387000) (hi : i ≤ 4611686018427387000) (w : World) (k0 : i + 1 < s.size) (hy : (bt s i == 93) = false ∨ first = true) (hC : (bt s i == 91) = false ∨ ((bt s (i + 1) == 58) = false ∧ marksB (bt s (i + 1)) = false)) (hq : (bt s (i + 1) == 45) = true) (k2 : i + 2 < s.size) (hr : (bt s (i + 2) == 93) = false) (hl : ¬ (bt s (i + 2)).toNat < (bt s i).toNat) (ht : (bt s (i + 2) == 91) = true) (k3 : s.size ≤ i + 3) : Calls Try.prog 61 #[.string s, stV f i 0 0 false nt, .bool first] w fun e' w' => e' = .returned (badV 2 s.size) ∧ Below w.heap.size w w' := by
  have Hq := Lib.hid hq
  rw [bt_at s (i + 1) (by omega)] at hq
  have q : (((s[i + 1]).toNat : Int) == 45) = true := (beq_int' (s[i + 1]) 45).trans hq
  have qn : (((s[i + 1]).toNat : Int) != 45) = !true := by
    have := bne_int' (s[i + 1]) 45
    rw [hq] at this
    exact this
  clear hq
  have d2 : decide (s.size ≤ i + 2) = false := by simpa using k2
  have Hr := Lib.hid hr
  rw [bt_at s (i + 2) (by omega)] at hr
  have r : (((s[i + 2]).toNat : Int) == 93) = false := (beq_int' (s[i + 2]) 93).trans hr
  have rn : (((s[i + 2]).toNat : Int) != 93) = !false := by
    have := bne_int' (s[i + 2]) 93
    rw [hr] at this
    exact this
  clear hr
  have Ht := Lib.hid ht
  rw [bt_at s (i + 2) (by omega)] at ht
  have t : (((s[i + 2]).toNat : Int) == 91) = true := (beq_int' (s[i + 2]) 91).trans ht
  have tn : (((s[i + 2]).toNat : Int) != 91) = !true := by
    have := bne_int' (s[i + 2]) 91
    rw [ht] at this
    exact this
  clear ht
  have b2 : (s[i + 2]'(by omega)).toNat < 256 := UInt8.toNat_lt _
  rw [bt_at s i (by omega), bt_at s (i + 2) (by omega)] at hl
  have d3 : decide ((s[i + 2]).toNat < (s[i]).toNat) = false := by simpa using hl
  clear hl
  have d4 : decide (s.size ≤ i + 3) = true := by simpa using k3
  have b0 : (s[i]'(by omega)).toNat < 256 := UInt8.toNat_lt _
  have d0 : decide (s.size ≤ i) = false := by simp; omega
  have d1 : decide (s.size ≤ i + 1) = false := by simpa using k0
  cases hv : (bt s i == 91) with
  | true =>
    have hb : bt s i = 91 := by simpa using hv
    rw [hv] at hC
    obtain ⟨hz, hm⟩ : (bt s (i + 1) == 58) = false ∧ marksB (bt s (i + 1)) = false := by simpa using hC
    clear hy hC
    have hy : (bt s i == 93) = false := by rw [hb]; rfl
    clear hb
    have Hv := Lib.hid hv
    rw [bt_at s (i) (by omega)] at hv
    have v : (((s[i]).toNat : Int) == 91) = true := (beq_int' (s[i]) 91).trans hv
    have vn : (((s[i]).toNat : Int) != 91) = !true := by
      have := bne_int' (s[i]) 91
      rw [hv] at this
      exact this
    clear hv
    have Hy := Lib.hid hy
    rw [bt_at s (i) (by omega)] at hy
    have y : (((s[i]).toNat : Int) == 93) = false := (beq_int' (s[i]) 93).trans hy
    have yn : (((s[i]).toNat : Int) != 93) = !false := by
      have := bne_int' (s[i]) 93
      rw [hy] at this
      exact this
    clear hy
    have Hz := Lib.hid hz
    rw [bt_at s (i + 1) (by omega)] at hz
    have z : (((s[i + 1]).toNat : Int) == 58) = false := (beq_int' (s[i + 1]) 58).trans hz
    have zn : (((s[i + 1]).toNat : Int) != 58) = !false := by
      have := bne_int' (s[i + 1]) 58
      rw [hz] at this
      exact this
    clear hz
    rw [bt_at s (i + 1) (by omega)] at hm
    have HM := Lib.hid hm; clear hm
    have q0 : Slab ((w.alloc (.cells (stCells f i 0 0 false nt) 83)).alloc (.cells (badCells 0 0) 83)) (w.heap.size + 1) (badCells 0 0) 83 := Slab.newAt _ _ _ (by simp)
    have HB0 : Below w.heap.size w ((w.alloc (.cells (stCells f i 0 0 false nt) 83)).alloc (.cells (badCells 0 0) 83)) := by (repeat' (first | (with_reducible exact Below.refl _ _) | (with_reducible assumption) | (with_reducible refine Below.alloc ?_ ?_ _) | (with_reducible refine Below.drew ?_) | (with_reducible refine below_set ?_ ?_ _) | (with_reducible refine below_call ?_ ?_ (by assumption)) | (with_reducible exact Below.size (by assumption)) | omega | go_size))
    have HB := Lib.hid HB0; clear HB0
    go_enter Try.func61, Try.ntmps61
    go_wp2_with fail
    refine (special_any s[i + 1] _).mono ?_
    rintro e1 w1 ⟨rfl, rfl⟩
    rw [HM.out]
    go_wp2_with fail
    refine (bad_any 2 s.size _).mono ?_
    rintro e9 w9 ⟨rfl, hb9⟩
    have q9 := q0.callD hb9 rfl
    have HB9 := Lib.hid (below_then HB.out hb9)
    clear hb9
    obtain ⟨c9, f9⟩ := q9.facts
    go_wp2
    refine bodyPost_ret (results_cell rfl rfl (load_slab (t := 83) (cs := badCells 2 s.size) ?_ 83 Try.underlying83 rfl (by kernel_rfl))) rfl ⟨rfl, ?_⟩
    · exact slab_setCells (vs := badCells 2 s.size) q9 rfl
    have hb := HB9.out
    (repeat' (first | (with_reducible exact Below.refl _ _) | (with_reducible assumption) | (with_reducible refine Below.alloc ?_ ?_ _) | (with_reducible refine Below.drew ?_) | (with_reducible refine below_set ?_ ?_ _) | (with_reducible refine below_call ?_ ?_ (by assumption)) | (with_reducible exact Below.size (by assumption)) | omega | go_size))
  | false =>
    clear hC
    have Hv := Lib.hid hv
    rw [bt_at s (i) (by omega)] at hv
    have v : (((s[i]).toNat : Int) == 91) = false := (beq_int' (s[i]) 91).trans hv
    have vn : (((s[i]).toNat : Int) != 91) = !false := by
      have := bne_int' (s[i]) 91
      rw [hv] at this
      exact this
    clear hv
    cases hx : (bt s i == 93) with
    | false =>
      clear hy
      have hy := hx
      clear hx
      have Hy := Lib.hid hy
      rw [bt_at s (i) (by omega)] at hy
      have y : (((s[i]).toNat : Int) == 93) = false := (beq_int' (s[i]) 93).trans hy
      have yn : (((s[i]).toNat : Int) != 93) = !false := by
        have := bne_int' (s[i]) 93
        rw [hy] at this
        exact this
      clear hy
      have q0 : Slab ((w.alloc (.cells (stCells f i 0 0 false nt) 83)).alloc (.cells (badCells 0 0) 83)) (w.heap.size + 1) (badCells 0 0) 83 := Slab.newAt _ _ _ (by simp)
      have HB0 : Below w.heap.size w ((w.alloc (.cells (stCells f i 0 0 false nt) 83)).alloc (.cells (badCells 0 0) 83)) := by (repeat' (first | (with_reducible exact Below.refl _ _) | (with_reducible assumption) | (with_reducible refine Below.alloc ?_ ?_ _) | (with_reducible refine Below.drew ?_) | (with_reducible refine below_set ?_ ?_ _) | (with_reducible refine below_call ?_ ?_ (by assumption)) | (with_reducible exact Below.size (by assumption)) | omega | go_size))
      have HB := Lib.hid HB0; clear HB0
      go_enter Try.func61, Try.ntmps61
      go_wp2_with fail
      refine (bad_any 2 s.size _).mono ?_
      rintro e9 w9 ⟨rfl, hb9⟩
      have q9 := q0.callD hb9 rfl
      have HB9 := Lib.hid (below_then HB.out hb9)
      clear hb9
      obtain ⟨c9, f9⟩ := q9.facts
      go_wp2
      refine bodyPost_ret (results_cell rfl rfl (load_slab (t := 83) (cs := badCells 2 s.size) ?_ 83 Try.underlying83 rfl (by kernel_rfl))) rfl ⟨rfl, ?_⟩
      · exact slab_setCells (vs := badCells 2 s.size) q9 rfl
      have hb := HB9.out
      (repeat' (first | (with_reducible exact Below.refl _ _) | (with_reducible assumption) | (with_reducible refine Below.alloc ?_ ?_ _) | (with_reducible refine Below.drew ?_) | (with_reducible refine below_set ?_ ?_ _) | (with_reducible refine below_call ?_ ?_ (by assumption)) | (with_reducible exact Below.size (by assumption)) | omega | go_size))
    | true =>
      rw [hx] at hy
      obtain rfl : first = true := by simpa using hy
      clear hy
      have hy := hx
      clear hx
      have Hy := Lib.hid hy
      rw [bt_at s (i) (by omega)] at hy
      have y : (((s[i]).toNat : Int) == 93) = true := (beq_int' (s[i]) 93).trans hy
      have yn : (((s[i]).toNat : Int) != 93) = !true := by
        have := bne_int' (s[i]) 93
        rw [hy] at this
        exact this
      clear hy
      have q0 : Slab ((w.alloc (.cells (stCells f i 0 0 false nt) 83)).alloc (.cells (badCells 0 0) 83)) (w.heap.size + 1) (badCells 0 0) 83 := Slab.newAt _ _ _ (by simp)
      have HB0 : Below w.heap.size w ((w.alloc (.cells (stCells f i 0 0 false nt) 83)).alloc (.cells (badCells 0 0) 83)) := by (repeat' (first | (with_reducible exact Below.refl _ _) | (with_reducible assumption) | (with_reducible refine Below.alloc ?_ ?_ _) | (with_reducible refine Below.drew ?_) | (with_reducible refine below_set ?_ ?_ _) | (with_reducible refine below_call ?_ ?_ (by assumption)) | (with_reducible exact Below.size (by assumption)) | omega | go_size))
      have HB := Lib.hid HB0; clear HB0
      go_enter Try.func61, Try.ntmps61
      go_wp2_with fail
      refine (bad_any 2 s.size _).mono ?_
      rintro e9 w9 ⟨rfl, hb9⟩
      have q9 := q0.callD hb9 rfl
      have HB9 := Lib.hid (below_then HB.out hb9)
      clear hb9
      obtain ⟨c9, f9⟩ := q9.facts
      go_wp2
      refine bodyPost_ret (results_cell rfl rfl (load_slab (t := 83) (cs := badCells 2 s.size) ?_ 83 Try.underlying83 rfl (by kernel_rfl))) rfl ⟨rfl, ?_⟩
      · exact slab_setCells (vs := badCells 2 s.size) q9 rfl
      have hb := HB9.out
      (repeat' (first | (with_reducible exact Below.refl _ _) | (with_reducible assumption) | (with_reducible refine Below.alloc ?_ ?_ _) | (with_reducible refine Below.drew ?_) | (with_reducible refine below_set ?_ ?_ _) | (with_reducible refine below_call ?_ ?_ (by assumption)) | (with_reducible exact Below.size (by assumption)) | omega | go_size))
set_option maxRecDepth 100000 in
set_option maxHeartbeats 2000000 in
theorem rthing_spec3 (s : ByteArray) (i : Nat) (f : Nat → Bool) (nt first : Bool) (hs : s.size ≤ 4611686018427387000) (hi : i ≤ 4611686018427387000) (w : World) (k0 : i + 1 < s.size) (hy : (bt s i == 93) = false ∨ first = true) (hC : (bt s i == 91) = false ∨ ((bt s (i + 1) == 58) = false ∧ marksB (bt s (i + 1)) = false)) (hq : (bt s (i + 1) == 45) = true) (k2 : i + 2 < s.size) (hr : (bt s (i + 2) == 93) = false) (hl : ¬ (bt s (i + 2)).toNat < (bt s i).toNat) (ht : (bt s (i + 2) == 91) = true) (k3 : i + 3 < s.size) (hm3 : marksB (bt s (i + 3)) = true) : Calls Try.prog 61 #[.string s, stV f i 0 0 false nt, .bool first] w fun e' w' => e' = .returned (badV 3 ((i : Int) + 4)) ∧ Below w.heap.size w w' := by
  have Hq := Lib.hid hq
  rw [bt_at s (i + 1) (by omega)] at hq
  have q : (((s[i + 1]).toNat : Int) == 45) = true := (beq_int' (s[i + 1]) 45).trans hq
  have qn : (((s[i + 1]).toNat : Int) != 45) = !true := by
    have := bne_int' (s[i + 1]) 45
    rw [hq] at this
    exact this
  clear hq
  have d2 : decide (s.size ≤ i + 2) = false := by simpa using k2
  have Hr := Lib.hid hr
  rw [bt_at s (i + 2) (by omega)] at hr
  have r : (((s[i + 2]).toNat : Int) == 93) = false := (beq_int' (s[i + 2]) 93).trans hr
  have rn : (((s[i + 2]).toNat : Int) != 93) = !false := by
    have := bne_int' (s[i + 2]) 93
    rw [hr] at this
    exact this
  clear hr
  have Ht := Lib.hid ht
  rw [bt_at s (i + 2) (by omega)] at ht
  have t : (((s[i + 2]).toNat : Int) == 91) = true := (beq_int' (s[i + 2]) 91).trans ht
  have tn : (((s[i + 2]).toNat : Int) != 91) = !true := by
    have := bne_int' (s[i + 2]) 91
    rw [ht] at this
    exact this
  clear ht
  have b2 : (s[i + 2]'(by omega)).toNat < 256 := UInt8.toNat_lt _
  rw [bt_at s i (by omega), bt_at s (i + 2) (by omega)] at hl
  have d3 : decide ((s[i + 2]).toNat < (s[i]).toNat) = false := by simpa using hl
  clear hl
  have d4 : decide (s.size ≤ i + 3) = false := by simpa using k3
  rw [bt_at s (i + 3) (by omega)] at hm3
  have HM3 := Lib.hid hm3; clear hm3
  have b0 : (s[i]'(by omega)).toNat < 256 := UInt8.toNat_lt _
  have d0 : decide (s.size ≤ i) = false := by simp; omega
  have d1 : decide (s.size ≤ i + 1) = false := by simpa using k0
  cases hv : (bt s i == 91) with
  | true =>
    have hb : bt s i = 91 := by simpa using hv
    rw [hv] at hC
    obtain ⟨hz, hm⟩ : (bt s (i + 1) == 58) = false ∧ marksB (bt s (i + 1)) = false := by simpa using hC
    clear hy hC
    have hy : (bt s i == 93) = false := by rw [hb]; rfl
    clear hb
    have Hv := Lib.hid hv
    rw [bt_at s (i) (by omega)] at hv
    have v : (((s[i]).toNat : Int) == 91) = true := (beq_int' (s[i]) 91).trans hv
    have vn : (((s[i]).toNat : Int) != 91) = !true := by
      have := bne_int' (s[i]) 91
      rw [hv] at this
      exact this
    clear hv
    have Hy := Lib.hid hy
    rw [bt_at s (i) (by omega)] at hy
    have y : (((s[i]).toNat : Int) == 93) = false := (beq_int' (s[i]) 93).trans hy
    have yn : (((s[i]).toNat : Int) != 93) = !false := by
      have := bne_int' (s[i]) 93
      rw [hy] at this
      exact this
    clear hy
    have Hz := Lib.hid hz
    rw [bt_at s (i + 1) (by omega)] at hz
    have z : (((s[i + 1]).toNat : Int) == 58) = false := (beq_int' (s[i + 1]) 58).trans hz
    have zn : (((s[i + 1]).toNat : Int) != 58) = !false := by
      have := bne_int' (s[i + 1]) 58
      rw [hz] at this
      exact this
    clear hz
    rw [bt_at s (i + 1) (by omega)] at hm
    have HM := Lib.hid hm; clear hm
    have q0 : Slab ((w.alloc (.cells (stCells f i 0 0 false nt) 83)).alloc (.cells (badCells 0 0) 83)) (w.heap.size + 1) (badCells 0 0) 83 := Slab.newAt _ _ _ (by simp)
    have HB0 : Below w.heap.size w ((w.alloc (.cells (stCells f i 0 0 false nt) 83)).alloc (.cells (badCells 0 0) 83)) := by (repeat' (first | (with_reducible exact Below.refl _ _) | (with_reducible assumption) | (with_reducible refine Below.alloc ?_ ?_ _) | (with_reducible refine Below.drew ?_) | (with_reducible refine below_set ?_ ?_ _) | (with_reducible refine below_call ?_ ?_ (by assumption)) | (with_reducible exact Below.size (by assumption)) | omega | go_size))
    have HB := Lib.hid HB0; clear HB0
    go_enter Try.func61, Try.ntmps61
    go_wp2_with fail
    refine (special_any s[i + 1] _).mono ?_
    rintro e1 w1 ⟨rfl, rfl⟩
    rw [HM.out]
    go_wp2_with fail
    refine (special_any s[i + 3] _).mono ?_
    rintro e2 w2 ⟨rfl, rfl⟩
    rw [HM3.out]
    go_wp2_with fail
    refine (bad_any 3 ((i : Int) + 4) _).mono ?_
    rintro e9 w9 ⟨rfl, hb9⟩
    have q9 := q0.callD hb9 rfl
    have HB9 := Lib.hid (below_then HB.out hb9)
    clear hb9
    obtain ⟨c9, f9⟩ := q9.facts
    go_wp2
    refine bodyPost_ret (results_cell rfl rfl (load_slab (t := 83) (cs := badCells 3 ((i : Int) + 4)) ?_ 83 Try.underlying83 rfl (by kernel_rfl))) rfl ⟨rfl, ?_⟩
    · exact slab_setCells (vs := badCells 3 ((i : Int) + 4)) q9 rfl
    have hb := HB9.out
    (repeat' (first | (with_reducible exact Below.refl _ _) | (with_reducible assumption) | (with_reducible refine Below.alloc ?_ ?_ _) | (with_reducible refine Below.drew ?_) | (with_reducible refine below_set ?_ ?_ _) | (with_reducible refine below_call ?_ ?_ (by assumption)) | (with_reducible exact Below.size (by assumption)) | omega | go_size))
  | false =>
    clear hC
    have Hv := Lib.hid hv
    rw [bt_at s (i) (by omega)] at hv
    have v : (((s[i]).toNat : Int) == 91) = false := (beq_int' (s[i]) 91).trans hv
    have vn : (((s[i]).toNat : Int) != 91) = !false := by
      have := bne_int' (s[i]) 91
      rw [hv] at this
      exact this
    clear hv
    cases hx : (bt s i == 93) with
    | false =>
      clear hy
      have hy := hx
      clear hx
      have Hy := Lib.hid hy
      rw [bt_at s (i) (by omega)] at hy
      have y : (((s[i]).toNat : Int) == 93) = false := (beq_int' (s[i]) 93).trans hy
      have yn : (((s[i]).toNat : Int) != 93) = !false := by
        have := bne_int' (s[i]) 93
        rw [hy] at this
        exact this
      clear hy
      have q0 : Slab ((w.alloc (.cells (stCells f i 0 0 false nt) 83)).alloc (.cells (badCells 0 0) 83)) (w.heap.size + 1) (badCells 0 0) 83 := Slab.newAt _ _ _ (by simp)
      have HB0 : Below w.heap.size w ((w.alloc (.cells (stCells f i 0 0 false nt) 83)).alloc (.cells (badCells 0 0) 83)) := by (repeat' (first | (with_reducible exact Below.refl _ _) | (with_reducible assumption) | (with_reducible refine Below.alloc ?_ ?_ _) | (with_reducible refine Below.drew ?_) | (with_reducible refine below_set ?_ ?_ _) | (with_reducible refine below_call ?_ ?_ (by assumption)) | (with_reducible exact Below.size (by assumption)) | omega | go_size))
      have HB := Lib.hid HB0; clear HB0
      go_enter Try.func61, Try.ntmps61
      go_wp2_with fail
      refine (special_any s[i + 3] _).mono ?_
      rintro e2 w2 ⟨rfl, rfl⟩
      rw [HM3.out]
      go_wp2_with fail
      refine (bad_any 3 ((i : Int) + 4) _).mono ?_
      rintro e9 w9 ⟨rfl, hb9⟩
      have q9 := q0.callD hb9 rfl
      have HB9 := Lib.hid (below_then HB.out hb9)
      clear hb9
      obtain ⟨c9, f9⟩ := q9.facts
      go_wp2
      refine bodyPost_ret (results_cell rfl rfl (load_slab (t := 83) (cs := badCells 3 ((i : Int) + 4)) ?_ 83 Try.underlying83 rfl (by kernel_rfl))) rfl ⟨rfl, ?_⟩
      · exact slab_setCells (vs := badCells 3 ((i : Int) + 4)) q9 rfl
      have hb := HB9.out
      (repeat' (first | (with_reducible exact Below.refl _ _) | (with_reducible assumption) | (with_reducible refine Below.alloc ?_ ?_ _) | (with_reducible refine Below.drew ?_) | (with_reducible refine below_set ?_ ?_ _) | (with_reducible refine below_call ?_ ?_ (by assumption)) | (with_reducible exact Below.size (by assumption)) | omega | go_size))
    | true =>
      rw [hx] at hy
      obtain rfl : first = true := by simpa using hy
      clear hy
      have hy := hx
      clear hx
      have Hy := Lib.hid hy
      rw [bt_at s (i) (by omega)] at hy
      have y : (((s[i]).toNat : Int) == 93) = true := (beq_int' (s[i]) 93).trans hy
      have yn : (((s[i]).toNat : Int) != 93) = !true := by
        have := bne_int' (s[i]) 93
        rw [hy] at this
        exact this
      clear hy
      have q0 : Slab ((w.alloc (.cells (stCells f i 0 0 false nt) 83)).alloc (.cells (badCells 0 0) 83)) (w.heap.size + 1) (badCells 0 0) 83 := Slab.newAt _ _ _ (by simp)
      have HB0 : Below w.heap.size w ((w.alloc (.cells (stCells f i 0 0 false nt) 83)).alloc (.cells (badCells 0 0) 83)) := by (repeat' (first | (with_reducible exact Below.refl _ _) | (with_reducible assumption) | (with_reducible refine Below.alloc ?_ ?_ _) | (with_reducible refine Below.drew ?_) | (with_reducible refine below_set ?_ ?_ _) | (with_reducible refine below_call ?_ ?_ (by assumption)) | (with_reducible exact Below.size (by assumption)) | omega | go_size))
      have HB := Lib.hid HB0; clear HB0
      go_enter Try.func61, Try.ntmps61
      go_wp2_with fail
      refine (special_any s[i + 3] _).mono ?_
      rintro e2 w2 ⟨rfl, rfl⟩
      rw [HM3.out]
      go_wp2_with fail
      refine (bad_any 3 ((i : Int) + 4) _).mono ?_
      rintro e9 w9 ⟨rfl, hb9⟩
      have q9 := q0.callD hb9 rfl
      have HB9 := Lib.hid (below_then HB.out hb9)
      clear hb9
      obtain ⟨c9, f9⟩ := q9.facts
      go_wp2
      refine bodyPost_ret (results_cell rfl rfl (load_slab (t := 83) (cs := badCells 3 ((i : Int) + 4)) ?_ 83 Try.underlying83 rfl (by kernel_rfl))) rfl ⟨rfl, ?_⟩
      · exact slab_setCells (vs := badCells 3 ((i : Int) + 4)) q9 rfl
      have hb := HB9.out
      (repeat' (first | (with_reducible exact Below.refl _ _) | (with_reducible assumption) | (with_reducible refine Below.alloc ?_ ?_ _) | (with_reducible refine Below.drew ?_) | (with_reducible refine below_set ?_ ?_ _) | (with_reducible refine below_call ?_ ?_ (by assumption)) | (with_reducible exact Below.size (by assumption)) | omega | go_size))
set_option maxRecDepth 100000 in
set_option maxHeartbeats 2000000 in
theorem rthing_add3 (s : ByteArray) (i : Nat) (f : Nat → Bool) (nt first : Bool) (hs : s.size ≤ 4611686018427387000) (hi : i ≤ 4611686018427387000) (w : World) (k0 : i + 1 < s.size) (hy : (bt s i == 93) = false ∨ first = true) (hC : (bt s i == 91) = false ∨ ((bt s (i + 1) == 58) = false ∧ marksB (bt s (i + 1)) = false)) (hq : (bt s (i + 1) == 45) = true) (k2 : i + 2 < s.size) (hr : (bt s (i + 2) == 93) = false) (hl : ¬ (bt s (i + 2)).toNat < (bt s i).toNat) (ht : (bt s (i + 2) == 91) = true) (k3 : i + 3 < s.size) (hm3 : marksB (bt s (i + 3)) = false) : Calls Try.prog 61 #[.string s, stV f i 0 0 false nt, .bool first] w fun e' w' => e' = .returned (stV (fun x => f x || rangeF ((bt s i).toNat : Int) ((bt s (i + 2)).toNat : Int) x) ((i : Int) + 3) 0 0 false nt) ∧ Below w.heap.size w w' := by
  have Hq := Lib.hid hq
  rw [bt_at s (i + 1) (by omega)] at hq
  have q : (((s[i + 1]).toNat : Int) == 45) = true := (beq_int' (s[i + 1]) 45).trans hq
  have qn : (((s[i + 1]).toNat : Int) != 45) = !true := by
    have := bne_int' (s[i + 1]) 45
    rw [hq] at this
    exact this
  clear hq
  have d2 : decide (s.size ≤ i + 2) = false := by simpa using k2
  have Hr := Lib.hid hr
  rw [bt_at s (i + 2) (by omega)] at hr
  have r : (((s[i + 2]).toNat : Int) == 93) = false := (beq_int' (s[i + 2]) 93).trans hr
  have rn : (((s[i + 2]).toNat : Int) != 93) = !false := by
    have := bne_int' (s[i + 2]) 93
    rw [hr] at this
    exact this
  clear hr
  have Ht := Lib.hid ht
  rw [bt_at s (i + 2) (by omega)] at ht
  have t : (((s[i + 2]).toNat : Int) == 91) = true := (beq_int' (s[i + 2]) 91).trans ht
  have tn : (((s[i + 2]).toNat : Int) != 91) = !true := by
    have := bne_int' (s[i + 2]) 91
    rw [ht] at this
    exact this
  clear ht
  have b2 : (s[i + 2]'(by omega)).toNat < 256 := UInt8.toNat_lt _
  rw [bt_at s i (by omega), bt_at s (i + 2) (by omega)] at hl
  have d3 : decide ((s[i + 2]).toNat < (s[i]).toNat) = false := by simpa using hl
  clear hl
  have d4 : decide (s.size ≤ i + 3) = false := by simpa using k3
  rw [bt_at s (i + 3) (by omega)] at hm3
  have HM3 := Lib.hid hm3; clear hm3
  rw [bt_at s i (by omega), bt_at s (i + 2) (by omega)]
  have b0 : (s[i]'(by omega)).toNat < 256 := UInt8.toNat_lt _
  have d0 : decide (s.size ≤ i) = false := by simp; omega
  have d1 : decide (s.size ≤ i + 1) = false := by simpa using k0
  cases hv : (bt s i == 91) with
  | true =>
    have hb : bt s i = 91 := by simpa using hv
    rw [hv] at hC
    obtain ⟨hz, hm⟩ : (bt s (i + 1) == 58) = false ∧ marksB (bt s (i + 1)) = false := by simpa using hC
    clear hy hC
    have hy : (bt s i == 93) = false := by rw [hb]; rfl
    clear hb
    have Hv := Lib.hid hv
    rw [bt_at s (i) (by omega)] at hv
    have v : (((s[i]).toNat : Int) == 91) = true := (beq_int' (s[i]) 91).trans hv
    have vn : (((s[i]).toNat : Int) != 91) = !true := by
      have := bne_int' (s[i]) 91
      rw [hv] at this
      exact this
    clear hv
    have Hy := Lib.hid hy
    rw [bt_at s (i) (by omega)] at hy
    have y : (((s[i]).toNat : Int) == 93) = false := (beq_int' (s[i]) 93).trans hy
    have yn : (((s[i]).toNat : Int) != 93) = !false := by
      have := bne_int' (s[i]) 93
      rw [hy] at this
      exact this
    clear hy
    have Hz := Lib.hid hz
    rw [bt_at s (i + 1) (by omega)] at hz
    have z : (((s[i + 1]).toNat : Int) == 58) = false := (beq_int' (s[i + 1]) 58).trans hz
    have zn : (((s[i + 1]).toNat : Int) != 58) = !false := by
      have := bne_int' (s[i + 1]) 58
      rw [hz] at this
      exact this
    clear hz
    rw [bt_at s (i + 1) (by omega)] at hm
    have HM := Lib.hid hm; clear hm
    have q0 : Slab ((w.alloc (.cells (stCells f i 0 0 false nt) 83)).alloc (.cells (badCells 0 0) 83)) (w.heap.size + 1) (badCells 0 0) 83 := Slab.newAt _ _ _ (by simp)
    have HB0 : Below w.heap.size w ((w.alloc (.cells (stCells f i 0 0 false nt) 83)).alloc (.cells (badCells 0 0) 83)) := by (repeat' (first | (with_reducible exact Below.refl _ _) | (with_reducible assumption) | (with_reducible refine Below.alloc ?_ ?_ _) | (with_reducible refine Below.drew ?_) | (with_reducible refine below_set ?_ ?_ _) | (with_reducible refine below_call ?_ ?_ (by assumption)) | (with_reducible exact Below.size (by assumption)) | omega | go_size))
    have HB := Lib.hid HB0; clear HB0
    go_enter Try.func61, Try.ntmps61
    go_wp2_with fail
    refine (special_any s[i + 1] _).mono ?_
    rintro e1 w1 ⟨rfl, rfl⟩
    rw [HM.out]
    go_wp2_with fail
    refine (special_any s[i + 3] _).mono ?_
    rintro e2 w2 ⟨rfl, rfl⟩
    rw [HM3.out]
    go_wp2_with fail
    refine (add_any f i nt s[i] s[i + 2] ((i : Int) + 3) _).mono ?_
    rintro e9 w9 ⟨rfl, hb9⟩
    have q9 := q0.callD hb9 rfl
    have HB9 := Lib.hid (below_then HB.out hb9)
    clear hb9
    obtain ⟨c9, f9⟩ := q9.facts
    go_wp2
    refine bodyPost_ret (results_cell rfl rfl (load_slab (t := 83) (cs := stCells (fun x => f x || rangeF (s[i].toNat : Int) (s[i + 2].toNat : Int) x) ((i : Int) + 3) 0 0 false nt) ?_ 83 Try.underlying83 rfl (by kernel_rfl))) rfl ⟨rfl, ?_⟩
    · exact slab_setCells (vs := stCells (fun x => f x || rangeF (s[i].toNat : Int) (s[i + 2].toNat : Int) x) ((i : Int) + 3) 0 0 false nt) q9 rfl
    have hb := HB9.out
    (repeat' (first | (with_reducible exact Below.refl _ _) | (with_reducible assumption) | (with_reducible refine Below.alloc ?_ ?_ _) | (with_reducible refine Below.drew ?_) | (with_reducible refine below_set ?_ ?_ _) | (with_reducible refine below_call ?_ ?_ (by assumption)) | (with_reducible exact Below.size (by assumption)) | omega | go_size))
  | false =>
    clear hC
    have Hv := Lib.hid hv
    rw [bt_at s (i) (by omega)] at hv
    have v : (((s[i]).toNat : Int) == 91) = false := (beq_int' (s[i]) 91).trans hv
    have vn : (((s[i]).toNat : Int) != 91) = !false := by
      have := bne_int' (s[i]) 91
      rw [hv] at this
      exact this
    clear hv
    cases hx : (bt s i == 93) with
    | false =>
      clear hy
      have hy := hx
      clear hx
      have Hy := Lib.hid hy
      rw [bt_at s (i) (by omega)] at hy
      have y : (((s[i]).toNat : Int) == 93) = false := (beq_int' (s[i]) 93).trans hy
      have yn : (((s[i]).toNat : Int) != 93) = !false := by
        have := bne_int' (s[i]) 93
        rw [hy] at this
        exact this
      clear hy
      have q0 : Slab ((w.alloc (.cells (stCells f i 0 0 false nt) 83)).alloc (.cells (badCells 0 0) 83)) (w.heap.size + 1) (badCells 0 0) 83 := Slab.newAt _ _ _ (by simp)
      have HB0 : Below w.heap.size w ((w.alloc (.cells (stCells f i 0 0 false nt) 83)).alloc (.cells (badCells 0 0) 83)) := by (repeat' (first | (with_reducible exact Below.refl _ _) | (with_reducible assumption) | (with_reducible refine Below.alloc ?_ ?_ _) | (with_reducible refine Below.drew ?_) | (with_reducible refine below_set ?_ ?_ _) | (with_reducible refine below_call ?_ ?_ (by assumption)) | (with_reducible exact Below.size (by assumption)) | omega | go_size))
      have HB := Lib.hid HB0; clear HB0
      go_enter Try.func61, Try.ntmps61
      go_wp2_with fail
      refine (special_any s[i + 3] _).mono ?_
      rintro e2 w2 ⟨rfl, rfl⟩
      rw [HM3.out]
      go_wp2_with fail
      refine (add_any f i nt s[i] s[i + 2] ((i : Int) + 3) _).mono ?_
      rintro e9 w9 ⟨rfl, hb9⟩
      have q9 := q0.callD hb9 rfl
      have HB9 := Lib.hid (below_then HB.out hb9)
      clear hb9
      obtain ⟨c9, f9⟩ := q9.facts
      go_wp2
      refine bodyPost_ret (results_cell rfl rfl (load_slab (t := 83) (cs := stCells (fun x => f x || rangeF (s[i].toNat : Int) (s[i + 2].toNat : Int) x) ((i : Int) + 3) 0 0 false nt) ?_ 83 Try.underlying83 rfl (by kernel_rfl))) rfl ⟨rfl, ?_⟩
      · exact slab_setCells (vs := stCells (fun x => f x || rangeF (s[i].toNat : Int) (s[i + 2].toNat : Int) x) ((i : Int) + 3) 0 0 false nt) q9 rfl
      have hb := HB9.out
      (repeat' (first | (with_reducible exact Below.refl _ _) | (with_reducible assumption) | (with_reducible refine Below.alloc ?_ ?_ _) | (with_reducible refine Below.drew ?_) | (with_reducible refine below_set ?_ ?_ _) | (with_reducible refine below_call ?_ ?_ (by assumption)) | (with_reducible exact Below.size (by assumption)) | omega | go_size))
    | true =>
      rw [hx] at hy
      obtain rfl : first = true := by simpa using hy
      clear hy
      have hy := hx
      clear hx
      have Hy := Lib.hid hy
      rw [bt_at s (i) (by omega)] at hy
      have y : (((s[i]).toNat : Int) == 93) = true := (beq_int' (s[i]) 93).trans hy
      have yn : (((s[i]).toNat : Int) != 93) = !true := by
        have := bne_int' (s[i]) 93
        rw [hy] at this
        exact this
      clear hy
      have q0 : Slab ((w.alloc (.cells (stCells f i 0 0 false nt) 83)).alloc (.cells (badCells 0 0) 83)) (w.heap.size + 1) (badCells 0 0) 83 := Slab.newAt _ _ _ (by simp)
      have HB0 : Below w.heap.size w ((w.alloc (.cells (stCells f i 0 0 false nt) 83)).alloc (.cells (badCells 0 0) 83)) := by (repeat' (first | (with_reducible exact Below.refl _ _) | (with_reducible assumption) | (with_reducible refine Below.alloc ?_ ?_ _) | (with_reducible refine Below.drew ?_) | (with_reducible refine below_set ?_ ?_ _) | (with_reducible refine below_call ?_ ?_ (by assumption)) | (with_reducible exact Below.size (by assumption)) | omega | go_size))
      have HB := Lib.hid HB0; clear HB0
      go_enter Try.func61, Try.ntmps61
      go_wp2_with fail
      refine (special_any s[i + 3] _).mono ?_
      rintro e2 w2 ⟨rfl, rfl⟩
      rw [HM3.out]
      go_wp2_with fail
      refine (add_any f i nt s[i] s[i + 2] ((i : Int) + 3) _).mono ?_
      rintro e9 w9 ⟨rfl, hb9⟩
      have q9 := q0.callD hb9 rfl
      have HB9 := Lib.hid (below_then HB.out hb9)
      clear hb9
      obtain ⟨c9, f9⟩ := q9.facts
      go_wp2
      refine bodyPost_ret (results_cell rfl rfl (load_slab (t := 83) (cs := stCells (fun x => f x || rangeF (s[i].toNat : Int) (s[i + 2].toNat : Int) x) ((i : Int) + 3) 0 0 false nt) ?_ 83 Try.underlying83 rfl (by kernel_rfl))) rfl ⟨rfl, ?_⟩
      · exact slab_setCells (vs := stCells (fun x => f x || rangeF (s[i].toNat : Int) (s[i + 2].toNat : Int) x) ((i : Int) + 3) 0 0 false nt) q9 rfl
      have hb := HB9.out
      (repeat' (first | (with_reducible exact Below.refl _ _) | (with_reducible assumption) | (with_reducible refine Below.alloc ?_ ?_ _) | (with_reducible refine Below.drew ?_) | (with_reducible refine below_set ?_ ?_ _) | (with_reducible refine below_call ?_ ?_ (by assumption)) | (with_reducible exact Below.size (by assumption)) | omega | go_size))
set_option maxRecDepth 100000 in
set_option maxHeartbeats 2000000 in
theorem rthing_add (s : ByteArray) (i : Nat) (f : Nat → Bool) (nt first : Bool) (hs : s.size ≤ 4611686018427387000) (hi : i ≤ 4611686018427387000) (w : World) (k0 : i + 1 < s.size) (hy : (bt s i == 93) = false ∨ first = true) (hC : (bt s i == 91) = false ∨ ((bt s (i + 1) == 58) = false ∧ marksB (bt s (i + 1)) = false)) (hq : (bt s (i + 1) == 45) = true) (k2 : i + 2 < s.size) (hr : (bt s (i + 2) == 93) = false) (hl : ¬ (bt s (i + 2)).toNat < (bt s i).toNat) (ht : (bt s (i + 2) == 91) = false) : Calls Try.prog 61 #[.string s, stV f i 0 0 false nt, .bool first] w fun e' w' => e' = .returned (stV (fun x => f x || rangeF ((bt s i).toNat : Int) ((bt s (i + 2)).toNat : Int) x) ((i : Int) + 3) 0 0 false nt) ∧ Below w.heap.size w w' := by
  have Hq := Lib.hid hq
  rw [bt_at s (i + 1) (by omega)] at hq
  have q : (((s[i + 1]).toNat : Int) == 45) = true := (beq_int' (s[i + 1]) 45).trans hq
  have qn : (((s[i + 1]).toNat : Int) != 45) = !true := by
    have := bne_int' (s[i + 1]) 45
    rw [hq] at this
    exact this
  clear hq
  have d2 : decide (s.size ≤ i + 2) = false := by simpa using k2
  have Hr := Lib.hid hr
  rw [bt_at s (i + 2) (by omega)] at hr
  have r : (((s[i + 2]).toNat : Int) == 93) = false := (beq_int' (s[i + 2]) 93).trans hr
  have rn : (((s[i + 2]).toNat : Int) != 93) = !false := by
    have := bne_int' (s[i + 2]) 93
    rw [hr] at this
    exact this
  clear hr
  have Ht := Lib.hid ht
  rw [bt_at s (i + 2) (by omega)] at ht
  have t : (((s[i + 2]).toNat : Int) == 91) = false := (beq_int' (s[i + 2]) 91).trans ht
  have tn : (((s[i + 2]).toNat : Int) != 91) = !false := by
    have := bne_int' (s[i + 2]) 91
    rw [ht] at this
    exact this
  clear ht
  have b2 : (s[i + 2]'(by omega)).toNat < 256 := UInt8.toNat_lt _
  rw [bt_at s i (by omega), bt_at s (i + 2) (by omega)] at hl
  have d3 : decide ((s[i + 2]).toNat < (s[i]).toNat) = false := by simpa using hl
  clear hl
  rw [bt_at s i (by omega), bt_at s (i + 2) (by omega)]
  have b0 : (s[i]'(by omega)).toNat < 256 := UInt8.toNat_lt _
  have d0 : decide (s.size ≤ i) = false := by simp; omega
  have d1 : decide (s.size ≤ i + 1) = false := by simpa using k0
  cases hv : (bt s i == 91) with
  | true =>
    have hb : bt s i = 91 := by simpa using hv
    rw [hv] at hC
    obtain ⟨hz, hm⟩ : (bt s (i + 1) == 58) = false ∧ marksB (bt s (i + 1)) = false := by simpa using hC
    clear hy hC
    have hy : (bt s i == 93) = false := by rw [hb]; rfl
    clear hb
    have Hv := Lib.hid hv
    rw [bt_at s (i) (by omega)] at hv
    have v : (((s[i]).toNat : Int) == 91) = true := (beq_int' (s[i]) 91).trans hv
    have vn : (((s[i]).toNat : Int) != 91) = !true := by
      have := bne_int' (s[i]) 91
      rw [hv] at this
      exact this
    clear hv
    have Hy := Lib.hid hy
    rw [bt_at s (i) (by omega)] at hy
    have y : (((s[i]).toNat : Int) == 93) = false := (beq_int' (s[i]) 93).trans hy
    have yn : (((s[i]).toNat : Int) != 93) = !false := by
      have := bne_int' (s[i]) 93
      rw [hy] at this
      exact this
    clear hy
    have Hz := Lib.hid hz
    rw [bt_at s (i + 1) (by omega)] at hz
    have z : (((s[i + 1]).toNat : Int) == 58) = false := (beq_int' (s[i + 1]) 58).trans hz
    have zn : (((s[i + 1]).toNat : Int) != 58) = !false := by
      have := bne_int' (s[i + 1]) 58
      rw [hz] at this
      exact this
    clear hz
    rw [bt_at s (i + 1) (by omega)] at hm
    have HM := Lib.hid hm; clear hm
    have q0 : Slab ((w.alloc (.cells (stCells f i 0 0 false nt) 83)).alloc (.cells (badCells 0 0) 83)) (w.heap.size + 1) (badCells 0 0) 83 := Slab.newAt _ _ _ (by simp)
    have HB0 : Below w.heap.size w ((w.alloc (.cells (stCells f i 0 0 false nt) 83)).alloc (.cells (badCells 0 0) 83)) := by (repeat' (first | (with_reducible exact Below.refl _ _) | (with_reducible assumption) | (with_reducible refine Below.alloc ?_ ?_ _) | (with_reducible refine Below.drew ?_) | (with_reducible refine below_set ?_ ?_ _) | (with_reducible refine below_call ?_ ?_ (by assumption)) | (with_reducible exact Below.size (by assumption)) | omega | go_size))
    have HB := Lib.hid HB0; clear HB0
    go_enter Try.func61, Try.ntmps61
    go_wp2_with fail
    refine (special_any s[i + 1] _).mono ?_
    rintro e1 w1 ⟨rfl, rfl⟩
    rw [HM.out]
    go_wp2_with fail
    refine (add_any f i nt s[i] s[i + 2] ((i : Int) + 3) _).mono ?_
    rintro e9 w9 ⟨rfl, hb9⟩
    have q9 := q0.callD hb9 rfl
    have HB9 := Lib.hid (below_then HB.out hb9)
    clear hb9
    obtain ⟨c9, f9⟩ := q9.facts
    go_wp2
    refine bodyPost_ret (results_cell rfl rfl (load_slab (t := 83) (cs := stCells (fun x => f x || rangeF (s[i].toNat : Int) (s[i + 2].toNat : Int) x) ((i : Int) + 3) 0 0 false nt) ?_ 83 Try.underlying83 rfl (by kernel_rfl))) rfl ⟨rfl, ?_⟩
    · exact slab_setCells (vs := stCells (fun x => f x || rangeF (s[i].toNat : Int) (s[i + 2].toNat : Int) x) ((i : Int) + 3) 0 0 false nt) q9 rfl
    have hb := HB9.out
    (repeat' (first | (with_reducible exact Below.refl _ _) | (with_reducible assumption) | (with_reducible refine Below.alloc ?_ ?_ _) | (with_reducible refine Below.drew ?_) | (with_reducible refine below_set ?_ ?_ _) | (with_reducible refine below_call ?_ ?_ (by assumption)) | (with_reducible exact Below.size (by assumption)) | omega | go_size))
  | false =>
    clear hC
    have Hv := Lib.hid hv
    rw [bt_at s (i) (by omega)] at hv
    have v : (((s[i]).toNat : Int) == 91) = false := (beq_int' (s[i]) 91).trans hv
    have vn : (((s[i]).toNat : Int) != 91) = !false := by
      have := bne_int' (s[i]) 91
      rw [hv] at this
      exact this
    clear hv
    cases hx : (bt s i == 93) with
    | false =>
      clear hy
      have hy := hx
      clear hx
      have Hy := Lib.hid hy
      rw [bt_at s (i) (by omega)] at hy
      have y : (((s[i]).toNat : Int) == 93) = false := (beq_int' (s[i]) 93).trans hy
      have yn : (((s[i]).toNat : Int) != 93) = !false := by
        have := bne_int' (s[i]) 93
        rw [hy] at this
        exact this
      clear hy
      have q0 : Slab ((w.alloc (.cells (stCells f i 0 0 false nt) 83)).alloc (.cells (badCells 0 0) 83)) (w.heap.size + 1) (badCells 0 0) 83 := Slab.newAt _ _ _ (by simp)
      have HB0 : Below w.heap.size w ((w.alloc (.cells (stCells f i 0 0 false nt) 83)).alloc (.cells (badCells 0 0) 83)) := by (repeat' (first | (with_reducible exact Below.refl _ _) | (with_reducible assumption) | (with_reducible refine Below.alloc ?_ ?_ _) | (with_reducible refine Below.drew ?_) | (with_reducible refine below_set ?_ ?_ _) | (with_reducible refine below_call ?_ ?_ (by assumption)) | (with_reducible exact Below.size (by assumption)) | omega | go_size))
      have HB := Lib.hid HB0; clear HB0
      go_enter Try.func61, Try.ntmps61
      go_wp2_with fail
      refine (add_any f i nt s[i] s[i + 2] ((i : Int) + 3) _).mono ?_
      rintro e9 w9 ⟨rfl, hb9⟩
      have q9 := q0.callD hb9 rfl
      have HB9 := Lib.hid (below_then HB.out hb9)
      clear hb9
      obtain ⟨c9, f9⟩ := q9.facts
      go_wp2
      refine bodyPost_ret (results_cell rfl rfl (load_slab (t := 83) (cs := stCells (fun x => f x || rangeF (s[i].toNat : Int) (s[i + 2].toNat : Int) x) ((i : Int) + 3) 0 0 false nt) ?_ 83 Try.underlying83 rfl (by kernel_rfl))) rfl ⟨rfl, ?_⟩
      · exact slab_setCells (vs := stCells (fun x => f x || rangeF (s[i].toNat : Int) (s[i + 2].toNat : Int) x) ((i : Int) + 3) 0 0 false nt) q9 rfl
      have hb := HB9.out
      (repeat' (first | (with_reducible exact Below.refl _ _) | (with_reducible assumption) | (with_reducible refine Below.alloc ?_ ?_ _) | (with_reducible refine Below.drew ?_) | (with_reducible refine below_set ?_ ?_ _) | (with_reducible refine below_call ?_ ?_ (by assumption)) | (with_reducible exact Below.size (by assumption)) | omega | go_size))
    | true =>
      rw [hx] at hy
      obtain rfl : first = true := by simpa using hy
      clear hy
      have hy := hx
      clear hx
      have Hy := Lib.hid hy
      rw [bt_at s (i) (by omega)] at hy
      have y : (((s[i]).toNat : Int) == 93) = true := (beq_int' (s[i]) 93).trans hy
      have yn : (((s[i]).toNat : Int) != 93) = !true := by
        have := bne_int' (s[i]) 93
        rw [hy] at this
        exact this
      clear hy
      have q0 : Slab ((w.alloc (.cells (stCells f i 0 0 false nt) 83)).alloc (.cells (badCells 0 0) 83)) (w.heap.size + 1) (badCells 0 0) 83 := Slab.newAt _ _ _ (by simp)
      have HB0 : Below w.heap.size w ((w.alloc (.cells (stCells f i 0 0 false nt) 83)).alloc (.cells (badCells 0 0) 83)) := by (repeat' (first | (with_reducible exact Below.refl _ _) | (with_reducible assumption) | (with_reducible refine Below.alloc ?_ ?_ _) | (with_reducible refine Below.drew ?_) | (with_reducible refine below_set ?_ ?_ _) | (with_reducible refine below_call ?_ ?_ (by assumption)) | (with_reducible exact Below.size (by assumption)) | omega | go_size))
      have HB := Lib.hid HB0; clear HB0
      go_enter Try.func61, Try.ntmps61
      go_wp2_with fail
      refine (add_any f i nt s[i] s[i + 2] ((i : Int) + 3) _).mono ?_
      rintro e9 w9 ⟨rfl, hb9⟩
      have q9 := q0.callD hb9 rfl
      have HB9 := Lib.hid (below_then HB.out hb9)
      clear hb9
      obtain ⟨c9, f9⟩ := q9.facts
      go_wp2
      refine bodyPost_ret (results_cell rfl rfl (load_slab (t := 83) (cs := stCells (fun x => f x || rangeF (s[i].toNat : Int) (s[i + 2].toNat : Int) x) ((i : Int) + 3) 0 0 false nt) ?_ 83 Try.underlying83 rfl (by kernel_rfl))) rfl ⟨rfl, ?_⟩
      · exact slab_setCells (vs := stCells (fun x => f x || rangeF (s[i].toNat : Int) (s[i + 2].toNat : Int) x) ((i : Int) + 3) 0 0 false nt) q9 rfl
      have hb := HB9.out
      (repeat' (first | (with_reducible exact Below.refl _ _) | (with_reducible assumption) | (with_reducible refine Below.alloc ?_ ?_ _) | (with_reducible refine Below.drew ?_) | (with_reducible refine below_set ?_ ?_ _) | (with_reducible refine below_call ?_ ?_ (by assumption)) | (with_reducible exact Below.size (by assumption)) | omega | go_size))
end Go.Proofs.Ythppilfojicfdaa
