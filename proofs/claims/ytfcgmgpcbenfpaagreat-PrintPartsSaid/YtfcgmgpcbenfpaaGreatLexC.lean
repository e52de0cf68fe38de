/- Walks of the package gimletref05: Next. -/
import Derived.Test.YtfcgmgpcbenfpaaGreatProg
import Derived.WalkKit
import Derived.WalkSpells
import Derived.WalkLawsBesides
import Derived.Handy
import Derived.Lib.Hide
import Derived.Test.YtfcgmgpcbenfpaaGreatLexB
import Derived.Test.YtfcgmgpcbenfpaaGreatMBkd
import Derived.Test.YtfcgmgpcbenfpaaGreatMBrb
import Derived.Test.YtfcgmgpcbenfpaaGreatMRef
import Derived.Deep.RegionHeld3
set_option linter.unusedVariables false
set_option linter.unusedSimpArgs false
namespace Go.Proofs.YtfcgmgpcbenfpaaGreat
open Go.RowKit SetP BrkP LexP
theorem results_cell1 {P : Program} {fn : Func} {t : TypeId} {a : Tmp} (h : fn.results = #[.cell a t]) {tmps : Array Value} {w : World} {p : Addr} {v : Value} (hp : tmps.getD a undef = .pointer (some p))
    (hl : (loadVar t p).run P w = .ok v w) : (results fn tmps).run P w = .ok v w := by
  have hp' : tmps[a]?.getD undef = .pointer (some p) := by simpa using hp
  simp [results, h, hp', asAddr, hl]
set_option maxRecDepth 100000 in
set_option maxHeartbeats 2000000 in
theorem rone_any (f : Nat → Bool) (a e : Int) (w : World) :
    Calls Tryz.prog 82 #[setV f, .int .i64 a, .int .i64 e] w fun e' w' => e' = .returned (wdV ⟨1, a, e, f, 0, 0⟩) ∧ Below w.heap.size w w' := by
  go_enter Tryz.func82, Tryz.ntmps82
  go_wp2
  refine bodyPost_ret (v := wdV ⟨1, a, e, f, 0, 0⟩) (by simp [results, Tryz.results82, go_sem]) rfl ⟨rfl, ?_⟩
  (repeat' (first | (with_reducible exact Below.refl _ _) | (with_reducible assumption) | (with_reducible refine Below.alloc ?_ ?_ _) | (with_reducible refine Below.drew ?_) | (with_reducible refine below_set ?_ ?_ _) | (with_reducible refine below_call ?_ ?_ (by assumption)) | (with_reducible exact Below.size (by assumption)) | omega | go_size))
theorem byte_set (b : UInt8) : setV (rangeF (b.toNat : Int) (b.toNat : Int)) = setV (addB noSet b.toNat) := by
  apply setV_ext
  intro x _
  unfold rangeF addB
  rw [Bool.eq_iff_iff]; simp; omega
set_option maxRecDepth 100000 in
set_option maxHeartbeats 2000000 in
theorem rbyte_any (b : UInt8) (w : World) :
    Calls Tryz.prog 85 #[.int .u8 (b.toNat : Int)] w fun e' w' => e' = .returned (setV (addB noSet b.toNat)) ∧ Below w.heap.size w w' := by
  have hb := b.toNat_lt
  have C := rrange_any b.toNat b.toNat (by omega) (by omega) (by omega) (by omega)
  rw [byte_set] at C
  have o0 : Slab (w.alloc (.cells #[.int .u64 0, .int .u64 0, .int .u64 0, .int .u64 0] 49)) w.heap.size #[.int .u64 0, .int .u64 0, .int .u64 0, .int .u64 0] 49 := Slab.new _ _ _
  have HB0 := Lib.hid ((Below.refl w.heap.size w).alloc (Nat.le_refl _) (.cells #[.int .u64 0, .int .u64 0, .int .u64 0, .int .u64 0] 49))
  go_enter Tryz.func85, Tryz.ntmps85
  go_wp2_with fail
  refine (C _).mono ?_
  rintro e1 w1 ⟨rfl, hb1⟩
  have o1 := o0.call hb1
  have HB1 := Lib.hid (below_then HB0.out hb1)
  obtain ⟨c1, f1⟩ := o1.facts
  clear C hb1 o0 HB0
  go_wp2
  refine bodyPost_ret (v := setV (addB noSet b.toNat)) ?_ rfl ⟨rfl, ?_⟩
  · refine results_cell1 rfl rfl (load_slab (t := 49) (cs := cells4 (addB noSet b.toNat)) ?_ 49 Tryz.underlying49 rfl (by kernel_rfl))
    exact slab_setCells (vs := cells4 (addB noSet b.toNat)) o1 rfl
  · have hb := HB1.out
    (repeat' (first | (with_reducible exact Below.refl _ _) | (with_reducible assumption) | (with_reducible refine Below.alloc ?_ ?_ _) | (with_reducible refine Below.drew ?_) | (with_reducible refine below_set ?_ ?_ _) | (with_reducible refine below_call ?_ ?_ (by assumption)) | (with_reducible exact Below.size (by assumption)) | omega | go_size))
theorem esc_any (b : UInt8) (h : ∀ j, j < 14 → (escL.getD j 0 == b) = false) : escB b = false := by
  unfold escB
  cases hc : escL.contains b with
  | false => rfl
  | true =>
    exfalso
    rw [List.contains_iff_mem] at hc
    obtain ⟨j, hj, he⟩ := List.getElem_of_mem hc
    have := h j (by simpa [escL] using hj)
    rw [List.getD_eq_getElem?_getD, List.getElem?_eq_getElem hj, he] at this
    simp at this
theorem esc_at {b : UInt8} {j : Nat} (hj : j < 14) (h : (escL.getD j 0 == b) = true) : escB b = true := by
  unfold escB
  rw [List.contains_iff_mem]
  have hl : j < escL.length := hj
  rw [List.getD_eq_getElem?_getD, List.getElem?_eq_getElem hl] at h
  have : escL[j] = b := by simpa using h
  rw [← this]; exact List.getElem_mem _
set_option maxRecDepth 100000 in
set_option maxHeartbeats 2000000 in
theorem fourteen_any (b : UInt8) (w : World) :
    Calls Tryz.prog 84 #[.int .u8 (b.toNat : Int)] w fun e' w' => e' = .returned (.bool (escB b)) ∧ w' = w := by
  have hnone := esc_any b
  have hone := fun j h1 h2 => @esc_at b j h1 h2
  obtain ⟨E, hE⟩ : ∃ E, escB b = E := ⟨_, rfl⟩
  rw [hE] at hnone hone ⊢
  clear hE
  have HN := Lib.hid hnone
  have HO := Lib.hid hone
  clear hnone hone
  go_enter Tryz.func84, Tryz.ntmps84
  go_wp2
  generalize hS : (ByteArray.mk #[46, 91, 93, 92, 40, 41, 42, 43, 63, 123, 125, 124, 94, 36]) = S
  have hz : S.size = 14 := by rw [← hS]; rfl
  have hat : ∀ k (h : k < S.size), S[k] = escL.getD k 0 := by
    intro k h
    subst hS
    have h' : k < escL.length := h
    rw [List.getD_eq_getElem?_getD, List.getElem?_eq_getElem h']; rfl
  have HZ := Lib.hid hz
  have HA := Lib.hid hat
  clear hS hz hat
  go_loop [4] (fun i => ∃ k : Nat, k ≤ S.size ∧ i = .int .i64 k ∧ ∀ j, j < k → (escL.getD j 0 == b) = false) (fun i => S.size - (intOf i).toNat)
  case atStart => exact ⟨0, by omega, rfl, fun j hj => by omega⟩
  case round =>
    obtain ⟨k, hk, rfl, hno⟩ := hrel
    have HNO := Lib.hid hno; clear hno
    have hz14 : S.size ≤ 14 := by rw [HZ.out]; exact Nat.le_refl _
    by_cases hlt : k < S.size
    · have ht : ((S[k].toNat : Int) == (b.toNat : Int)) = (escL.getD k 0 == b) := by rw [beqI, HA.out k hlt]
      cases hq : (escL.getD k 0 == b) with
      | true =>
        rw [hq] at ht
        have hE : E = true := HO.out k (by omega) hq
        subst hE
        clear hq
        go_wp2
        go_ret
        exact ⟨rfl, rfl⟩
      | false =>
        rw [hq] at ht
        have HQ := Lib.hid hq; clear hq
        go_wp2
        go_round
        case rel =>
          refine ⟨k + 1, by omega, by go_num, fun j hj => ?_⟩
          by_cases e : j = k
          · rw [e]; exact HQ.out
          · exact HNO.out j (by omega)
        case measure => simp [intOf]; omega
    · have hE : E = false := HN.out fun j hj => HNO.out j (by have := HZ.out; omega)
      subst hE
      go_wp2
      go_ret
      exact ⟨rfl, rfl⟩
set_option maxRecDepth 100000 in
set_option maxHeartbeats 2000000 in
theorem rn_40 (s : ByteArray) (a : Nat) (ha : a < s.size) (hs : s.size ≤ 4611686018427380000) (t40 : ((s[a].toNat : Int) == 40) = true) (w : World) : Calls Tryz.prog 53 #[.string s, .int .i64 (a : Int)] w (RetW (signA 2 a) w) := by
  have d0 : decide ((a : Int) < 0) = false := by simp
  have d1 : decide (s.size ≤ a) = false := by simpa using ha
  have o0 : Slab (w.alloc (.cells #[.int .i64 0, .int .i64 0, .int .i64 0, .int .u64 0, .int .u64 0, .int .u64 0, .int .u64 0, .int .i64 0, .int .i64 0] 74)) w.heap.size #[.int .i64 0, .int .i64 0, .int .i64 0, .int .u64 0, .int .u64 0, .int .u64 0, .int .u64 0, .int .i64 0, .int .i64 0] 74 := Slab.new _ _ _
  have HB0 := Lib.hid ((Below.refl w.heap.size w).alloc (Nat.le_refl _) (.cells #[.int .i64 0, .int .i64 0, .int .i64 0, .int .u64 0, .int .u64 0, .int .u64 0, .int .u64 0, .int .i64 0, .int .i64 0] 74))
  go_enter Tryz.func53, Tryz.ntmps53
  go_wp2
  refine bodyPost_ret (v := wansV ⟨⟨2, a, a + 1, noSet, 0, 0⟩, 0, 0⟩) ?_ rfl ⟨rfl, ?_⟩
  refine results_cell3 rfl rfl (load_slab (t := 74) (cs := wdCells (⟨2, a, a + 1, noSet, 0, 0⟩)) ?_ 74 Tryz.underlying74 rfl (by kernel_rfl)) rfl rfl
  · unfold wdCells
    simp only [noSet, wd_zero]
    exact Slab.new _ _ _
  · have hb := HB0.out
    (repeat' (first | (with_reducible exact Below.refl _ _) | (with_reducible assumption) | (with_reducible refine Below.alloc ?_ ?_ _) | (with_reducible refine Below.drew ?_) | (with_reducible refine below_set ?_ ?_ _) | (with_reducible refine below_call ?_ ?_ (by assumption)) | (with_reducible exact Below.size (by assumption)) | omega | go_size))
set_option maxRecDepth 100000 in
set_option maxHeartbeats 2000000 in
theorem rn_41 (s : ByteArray) (a : Nat) (ha : a < s.size) (hs : s.size ≤ 4611686018427380000) (t40 : ((s[a].toNat : Int) == 40) = false) (t41 : ((s[a].toNat : Int) == 41) = true) (w : World) : Calls Tryz.prog 53 #[.string s, .int .i64 (a : Int)] w (RetW (signA 3 a) w) := by
  have d0 : decide ((a : Int) < 0) = false := by simp
  have d1 : decide (s.size ≤ a) = false := by simpa using ha
  have o0 : Slab (w.alloc (.cells #[.int .i64 0, .int .i64 0, .int .i64 0, .int .u64 0, .int .u64 0, .int .u64 0, .int .u64 0, .int .i64 0, .int .i64 0] 74)) w.heap.size #[.int .i64 0, .int .i64 0, .int .i64 0, .int .u64 0, .int .u64 0, .int .u64 0, .int .u64 0, .int .i64 0, .int .i64 0] 74 := Slab.new _ _ _
  have HB0 := Lib.hid ((Below.refl w.heap.size w).alloc (Nat.le_refl _) (.cells #[.int .i64 0, .int .i64 0, .int .i64 0, .int .u64 0, .int .u64 0, .int .u64 0, .int .u64 0, .int .i64 0, .int .i64 0] 74))
  go_enter Tryz.func53, Tryz.ntmps53
  go_wp2
  refine bodyPost_ret (v := wansV ⟨⟨3, a, a + 1, noSet, 0, 0⟩, 0, 0⟩) ?_ rfl ⟨rfl, ?_⟩
  refine results_cell3 rfl rfl (load_slab (t := 74) (cs := wdCells (⟨3, a, a + 1, noSet, 0, 0⟩)) ?_ 74 Tryz.underlying74 rfl (by kernel_rfl)) rfl rfl
  · unfold wdCells
    simp only [noSet, wd_zero]
    exact Slab.new _ _ _
  · have hb := HB0.out
    (repeat' (first | (with_reducible exact Below.refl _ _) | (with_reducible assumption) | (with_reducible refine Below.alloc ?_ ?_ _) | (with_reducible refine Below.drew ?_) | (with_reducible refine below_set ?_ ?_ _) | (with_reducible refine below_call ?_ ?_ (by assumption)) | (with_reducible exact Below.size (by assumption)) | omega | go_size))
set_option maxRecDepth 100000 in
set_option maxHeartbeats 2000000 in
theorem rn_124 (s : ByteArray) (a : Nat) (ha : a < s.size) (hs : s.size ≤ 4611686018427380000) (t40 : ((s[a].toNat : Int) == 40) = false) (t41 : ((s[a].toNat : Int) == 41) = false) (t124 : ((s[a].toNat : Int) == 124) = true) (w : World) : Calls Tryz.prog 53 #[.string s, .int .i64 (a : Int)] w (RetW (signA 4 a) w) := by
  have d0 : decide ((a : Int) < 0) = false := by simp
  have d1 : decide (s.size ≤ a) = false := by simpa using ha
  have o0 : Slab (w.alloc (.cells #[.int .i64 0, .int .i64 0, .int .i64 0, .int .u64 0, .int .u64 0, .int .u64 0, .int .u64 0, .int .i64 0, .int .i64 0] 74)) w.heap.size #[.int .i64 0, .int .i64 0, .int .i64 0, .int .u64 0, .int .u64 0, .int .u64 0, .int .u64 0, .int .i64 0, .int .i64 0] 74 := Slab.new _ _ _
  have HB0 := Lib.hid ((Below.refl w.heap.size w).alloc (Nat.le_refl _) (.cells #[.int .i64 0, .int .i64 0, .int .i64 0, .int .u64 0, .int .u64 0, .int .u64 0, .int .u64 0, .int .i64 0, .int .i64 0] 74))
  go_enter Tryz.func53, Tryz.ntmps53
  go_wp2
  refine bodyPost_ret (v := wansV ⟨⟨4, a, a + 1, noSet, 0, 0⟩, 0, 0⟩) ?_ rfl ⟨rfl, ?_⟩
  refine results_cell3 rfl rfl (load_slab (t := 74) (cs := wdCells (⟨4, a, a + 1, noSet, 0, 0⟩)) ?_ 74 Tryz.underlying74 rfl (by kernel_rfl)) rfl rfl
  · unfold wdCells
    simp only [noSet, wd_zero]
    exact Slab.new _ _ _
  · have hb := HB0.out
    (repeat' (first | (with_reducible exact Below.refl _ _) | (with_reducible assumption) | (with_reducible refine Below.alloc ?_ ?_ _) | (with_reducible refine Below.drew ?_) | (with_reducible refine below_set ?_ ?_ _) | (with_reducible refine below_call ?_ ?_ (by assumption)) | (with_reducible exact Below.size (by assumption)) | omega | go_size))
set_option maxRecDepth 100000 in
set_option maxHeartbeats 2000000 in
theorem rn_cnt42 (s : ByteArray) (a : Nat) (ha : a < s.size) (hs : s.size ≤ 4611686018427380000) (t40 : ((s[a].toNat : Int) == 40) = false) (t41 : ((s[a].toNat : Int) == 41) = false) (t124 : ((s[a].toNat : Int) == 124) = false) (t42 : ((s[a].toNat : Int) == 42) = true) (w : World) : Calls Tryz.prog 53 #[.string s, .int .i64 (a : Int)] w (RetW (cntA a (BraceP.readF s.data.toList a)) w) := by
  have C := rread_any s a (by omega)
  generalize BraceP.readF s.data.toList a = R at *
  obtain ⟨n, m, st, er, pl⟩ := R
  have d0 : decide ((a : Int) < 0) = false := by simp
  have d1 : decide (s.size ≤ a) = false := by simpa using ha
  have o0 : Slab (w.alloc (.cells #[.int .i64 0, .int .i64 0, .int .i64 0, .int .u64 0, .int .u64 0, .int .u64 0, .int .u64 0, .int .i64 0, .int .i64 0] 74)) w.heap.size #[.int .i64 0, .int .i64 0, .int .i64 0, .int .u64 0, .int .u64 0, .int .u64 0, .int .u64 0, .int .i64 0, .int .i64 0] 74 := Slab.new _ _ _
  have HB0 := Lib.hid ((Below.refl w.heap.size w).alloc (Nat.le_refl _) (.cells #[.int .i64 0, .int .i64 0, .int .i64 0, .int .u64 0, .int .u64 0, .int .u64 0, .int .u64 0, .int .i64 0, .int .i64 0] 74))
  cases he : (er == 0) with
  | true =>
    have e0 : er = 0 := by simpa using he
    have hR : cntA a (n, m, st, er, pl) = ⟨⟨5, a, st, noSet, n, m⟩, 0, 0⟩ := by unfold cntA; rw [if_pos e0]
    rw [hR]
    subst e0
    clear hR he
    go_enter Tryz.func53, Tryz.ntmps53
    go_wp2_with fail
    refine (C _).mono ?_
    rintro e1 w1 ⟨rfl, rfl⟩
    clear C
    go_wp2
    refine bodyPost_ret (v := wansV ⟨⟨5, a, st, noSet, n, m⟩, 0, 0⟩) ?_ rfl ⟨rfl, ?_⟩
    refine results_cell3 rfl rfl (load_slab (t := 74) (cs := wdCells (⟨5, a, st, noSet, n, m⟩)) ?_ 74 Tryz.underlying74 rfl (by kernel_rfl)) rfl rfl
    · unfold wdCells
      simp only [noSet, wd_zero]
      exact Slab.new _ _ _
    · have hb := HB0.out
      (repeat' (first | (with_reducible exact Below.refl _ _) | (with_reducible assumption) | (with_reducible refine Below.alloc ?_ ?_ _) | (with_reducible refine Below.drew ?_) | (with_reducible refine below_set ?_ ?_ _) | (with_reducible refine below_call ?_ ?_ (by assumption)) | (with_reducible exact Below.size (by assumption)) | omega | go_size))
  | false =>
    have e0 : ¬ er = 0 := by simpa using he
    have hR : cntA a (n, m, st, er, pl) = badA er pl := by unfold cntA; rw [if_neg e0]
    rw [hR]
    have hn : (er != 0) = true := by unfold bne; rw [he]; rfl
    clear hR he
    have E0 := Lib.hid e0; clear e0
    go_enter Tryz.func53, Tryz.ntmps53
    go_wp2_with fail
    refine (C _).mono ?_
    rintro e1 w1 ⟨rfl, rfl⟩
    clear C
    go_wp2
    refine bodyPost_ret (v := wansV ⟨wd0, er, pl⟩) ?_ rfl ⟨rfl, ?_⟩
    refine results_cell3 rfl rfl (load_slab (t := 74) (cs := wdCells (wd0)) ?_ 74 Tryz.underlying74 rfl (by kernel_rfl)) rfl rfl
    · exact slab_z9 (by first | exact o0 | exact slab_setCells (vs := #[.int .i64 0, .int .i64 0, .int .i64 0, .int .u64 0, .int .u64 0, .int .u64 0, .int .u64 0, .int .i64 0, .int .i64 0]) o0 rfl)
    · have hb := HB0.out
      (repeat' (first | (with_reducible exact Below.refl _ _) | (with_reducible assumption) | (with_reducible refine Below.alloc ?_ ?_ _) | (with_reducible refine Below.drew ?_) | (with_reducible refine below_set ?_ ?_ _) | (with_reducible refine below_call ?_ ?_ (by assumption)) | (with_reducible exact Below.size (by assumption)) | omega | go_size))
set_option maxRecDepth 100000 in
set_option maxHeartbeats 2000000 in
theorem rn_cnt43 (s : ByteArray) (a : Nat) (ha : a < s.size) (hs : s.size ≤ 4611686018427380000) (t40 : ((s[a].toNat : Int) == 40) = false) (t41 : ((s[a].toNat : Int) == 41) = false) (t124 : ((s[a].toNat : Int) == 124) = false) (t42 : ((s[a].toNat : Int) == 42) = false) (t43 : ((s[a].toNat : Int) == 43) = true) (w : World) : Calls Tryz.prog 53 #[.string s, .int .i64 (a : Int)] w (RetW (cntA a (BraceP.readF s.data.toList a)) w) := by
  have C := rread_any s a (by omega)
  generalize BraceP.readF s.data.toList a = R at *
  obtain ⟨n, m, st, er, pl⟩ := R
  have d0 : decide ((a : Int) < 0) = false := by simp
  have d1 : decide (s.size ≤ a) = false := by simpa using ha
  have o0 : Slab (w.alloc (.cells #[.int .i64 0, .int .i64 0, .int .i64 0, .int .u64 0, .int .u64 0, .int .u64 0, .int .u64 0, .int .i64 0, .int .i64 0] 74)) w.heap.size #[.int .i64 0, .int .i64 0, .int .i64 0, .int .u64 0, .int .u64 0, .int .u64 0, .int .u64 0, .int .i64 0, .int .i64 0] 74 := Slab.new _ _ _
  have HB0 := Lib.hid ((Below.refl w.heap.size w).alloc (Nat.le_refl _) (.cells #[.int .i64 0, .int .i64 0, .int .i64 0, .int .u64 0, .int .u64 0, .int .u64 0, .int .u64 0, .int .i64 0, .int .i64 0] 74))
  cases he : (er == 0) with
  | true =>
    have e0 : er = 0 := by simpa using he
    have hR : cntA a (n, m, st, er, pl) = ⟨⟨5, a, st, noSet, n, m⟩, 0, 0⟩ := by unfold cntA; rw [if_pos e0]
    rw [hR]
    subst e0
    clear hR he
    go_enter Tryz.func53, Tryz.ntmps53
    go_wp2_with fail
    refine (C _).mono ?_
    rintro e1 w1 ⟨rfl, rfl⟩
    clear C
    go_wp2
    refine bodyPost_ret (v := wansV ⟨⟨5, a, st, noSet, n, m⟩, 0, 0⟩) ?_ rfl ⟨rfl, ?_⟩
    refine results_cell3 rfl rfl (load_slab (t := 74) (cs := wdCells (⟨5, a, st, noSet, n, m⟩)) ?_ 74 Tryz.underlying74 rfl (by kernel_rfl)) rfl rfl
    · unfold wdCells
      simp only [noSet, wd_zero]
      exact Slab.new _ _ _
    · have hb := HB0.out
      (repeat' (first | (with_reducible exact Below.refl _ _) | (with_reducible assumption) | (with_reducible refine Below.alloc ?_ ?_ _) | (with_reducible refine Below.drew ?_) | (with_reducible refine below_set ?_ ?_ _) | (with_reducible refine below_call ?_ ?_ (by assumption)) | (with_reducible exact Below.size (by assumption)) | omega | go_size))
  | false =>
    have e0 : ¬ er = 0 := by simpa using he
    have hR : cntA a (n, m, st, er, pl) = badA er pl := by unfold cntA; rw [if_neg e0]
    rw [hR]
    have hn : (er != 0) = true := by unfold bne; rw [he]; rfl
    clear hR he
    have E0 := Lib.hid e0; clear e0
    go_enter Tryz.func53, Tryz.ntmps53
    go_wp2_with fail
    refine (C _).mono ?_
    rintro e1 w1 ⟨rfl, rfl⟩
    clear C
    go_wp2
    refine bodyPost_ret (v := wansV ⟨wd0, er, pl⟩) ?_ rfl ⟨rfl, ?_⟩
    refine results_cell3 rfl rfl (load_slab (t := 74) (cs := wdCells (wd0)) ?_ 74 Tryz.underlying74 rfl (by kernel_rfl)) rfl rfl
    · exact slab_z9 (by first | exact o0 | exact slab_setCells (vs := #[.int .i64 0, .int .i64 0, .int .i64 0, .int .u64 0, .int .u64 0, .int .u64 0, .int .u64 0, .int .i64 0, .int .i64 0]) o0 rfl)
    · have hb := HB0.out
      (repeat' (first | (with_reducible exact Below.refl _ _) | (with_reducible assumption) | (with_reducible refine Below.alloc ?_ ?_ _) | (with_reducible refine Below.drew ?_) | (with_reducible refine below_set ?_ ?_ _) | (with_reducible refine below_call ?_ ?_ (by assumption)) | (with_reducible exact Below.size (by assumption)) | omega | go_size))
set_option maxRecDepth 100000 in
set_option maxHeartbeats 2000000 in
theorem rn_cnt63 (s : ByteArray) (a : Nat) (ha : a < s.size) (hs : s.size ≤ 4611686018427380000) (t40 : ((s[a].toNat : Int) == 40) = false) (t41 : ((s[a].toNat : Int) == 41) = false) (t124 : ((s[a].toNat : Int) == 124) = false) (t42 : ((s[a].toNat : Int) == 42) = false) (t43 : ((s[a].toNat : Int) == 43) = false) (t63 : ((s[a].toNat : Int) == 63) = true) (w : World) : Calls Tryz.prog 53 #[.string s, .int .i64 (a : Int)] w (RetW (cntA a (BraceP.readF s.data.toList a)) w) := by
  have C := rread_any s a (by omega)
  generalize BraceP.readF s.data.toList a = R at *
  obtain ⟨n, m, st, er, pl⟩ := R
  have d0 : decide ((a : Int) < 0) = false := by simp
  have d1 : decide (s.size ≤ a) = false := by simpa using ha
  have o0 : Slab (w.alloc (.cells #[.int .i64 0, .int .i64 0, .int .i64 0, .int .u64 0, .int .u64 0, .int .u64 0, .int .u64 0, .int .i64 0, .int .i64 0] 74)) w.heap.size #[.int .i64 0, .int .i64 0, .int .i64 0, .int .u64 0, .int .u64 0, .int .u64 0, .int .u64 0, .int .i64 0, .int .i64 0] 74 := Slab.new _ _ _
  have HB0 := Lib.hid ((Below.refl w.heap.size w).alloc (Nat.le_refl _) (.cells #[.int .i64 0, .int .i64 0, .int .i64 0, .int .u64 0, .int .u64 0, .int .u64 0, .int .u64 0, .int .i64 0, .int .i64 0] 74))
  cases he : (er == 0) with
  | true =>
    have e0 : er = 0 := by simpa using he
    have hR : cntA a (n, m, st, er, pl) = ⟨⟨5, a, st, noSet, n, m⟩, 0, 0⟩ := by unfold cntA; rw [if_pos e0]
    rw [hR]
    subst e0
    clear hR he
    go_enter Tryz.func53, Tryz.ntmps53
    go_wp2_with fail
    refine (C _).mono ?_
    rintro e1 w1 ⟨rfl, rfl⟩
    clear C
    go_wp2
    refine bodyPost_ret (v := wansV ⟨⟨5, a, st, noSet, n, m⟩, 0, 0⟩) ?_ rfl ⟨rfl, ?_⟩
    refine results_cell3 rfl rfl (load_slab (t := 74) (cs := wdCells (⟨5, a, st, noSet, n, m⟩)) ?_ 74 Tryz.underlying74 rfl (by kernel_rfl)) rfl rfl
    · unfold wdCells
      simp only [noSet, wd_zero]
      exact Slab.new _ _ _
    · have hb := HB0.out
      (repeat' (first | (with_reducible exact Below.refl _ _) | (with_reducible assumption) | (with_reducible refine Below.alloc ?_ ?_ _) | (with_reducible refine Below.drew ?_) | (with_reducible refine below_set ?_ ?_ _) | (with_reducible refine below_call ?_ ?_ (by assumption)) | (with_reducible exact Below.size (by assumption)) | omega | go_size))
  | false =>
    have e0 : ¬ er = 0 := by simpa using he
    have hR : cntA a (n, m, st, er, pl) = badA er pl := by unfold cntA; rw [if_neg e0]
    rw [hR]
    have hn : (er != 0) = true := by unfold bne; rw [he]; rfl
    clear hR he
    have E0 := Lib.hid e0; clear e0
    go_enter Tryz.func53, Tryz.ntmps53
    go_wp2_with fail
    refine (C _).mono ?_
    rintro e1 w1 ⟨rfl, rfl⟩
    clear C
    go_wp2
    refine bodyPost_ret (v := wansV ⟨wd0, er, pl⟩) ?_ rfl ⟨rfl, ?_⟩
    refine results_cell3 rfl rfl (load_slab (t := 74) (cs := wdCells (wd0)) ?_ 74 Tryz.underlying74 rfl (by kernel_rfl)) rfl rfl
    · exact slab_z9 (by first | exact o0 | exact slab_setCells (vs := #[.int .i64 0, .int .i64 0, .int .i64 0, .int .u64 0, .int .u64 0, .int .u64 0, .int .u64 0, .int .i64 0, .int .i64 0]) o0 rfl)
    · have hb := HB0.out
      (repeat' (first | (with_reducible exact Below.refl _ _) | (with_reducible assumption) | (with_reducible refine Below.alloc ?_ ?_ _) | (with_reducible refine Below.drew ?_) | (with_reducible refine below_set ?_ ?_ _) | (with_reducible refine below_call ?_ ?_ (by assumption)) | (with_reducible exact Below.size (by assumption)) | omega | go_size))
set_option maxRecDepth 100000 in
set_option maxHeartbeats 2000000 in
theorem rn_cnt123 (s : ByteArray) (a : Nat) (ha : a < s.size) (hs : s.size ≤ 4611686018427380000) (t40 : ((s[a].toNat : Int) == 40) = false) (t41 : ((s[a].toNat : Int) == 41) = false) (t124 : ((s[a].toNat : Int) == 124) = false) (t42 : ((s[a].toNat : Int) == 42) = false) (t43 : ((s[a].toNat : Int) == 43) = false) (t63 : ((s[a].toNat : Int) == 63) = false) (t123 : ((s[a].toNat : Int) == 123) = true) (w : World) : Calls Tryz.prog 53 #[.string s, .int .i64 (a : Int)] w (RetW (cntA a (BraceP.readF s.data.toList a)) w) := by
  have C := rread_any s a (by omega)
  generalize BraceP.readF s.data.toList a = R at *
  obtain ⟨n, m, st, er, pl⟩ := R
  have d0 : decide ((a : Int) < 0) = false := by simp
  have d1 : decide (s.size ≤ a) = false := by simpa using ha
  have o0 : Slab (w.alloc (.cells #[.int .i64 0, .int .i64 0, .int .i64 0, .int .u64 0, .int .u64 0, .int .u64 0, .int .u64 0, .int .i64 0, .int .i64 0] 74)) w.heap.size #[.int .i64 0, .int .i64 0, .int .i64 0, .int .u64 0, .int .u64 0, .int .u64 0, .int .u64 0, .int .i64 0, .int .i64 0] 74 := Slab.new _ _ _
  have HB0 := Lib.hid ((Below.refl w.heap.size w).alloc (Nat.le_refl _) (.cells #[.int .i64 0, .int .i64 0, .int .i64 0, .int .u64 0, .int .u64 0, .int .u64 0, .int .u64 0, .int .i64 0, .int .i64 0] 74))
  cases he : (er == 0) with
  | true =>
    have e0 : er = 0 := by simpa using he
    have hR : cntA a (n, m, st, er, pl) = ⟨⟨5, a, st, noSet, n, m⟩, 0, 0⟩ := by unfold cntA; rw [if_pos e0]
    rw [hR]
    subst e0
    clear hR he
    go_enter Tryz.func53, Tryz.ntmps53
    go_wp2_with fail
    refine (C _).mono ?_
    rintro e1 w1 ⟨rfl, rfl⟩
    clear C
    go_wp2
    refine bodyPost_ret (v := wansV ⟨⟨5, a, st, noSet, n, m⟩, 0, 0⟩) ?_ rfl ⟨rfl, ?_⟩
    refine results_cell3 rfl rfl (load_slab (t := 74) (cs := wdCells (⟨5, a, st, noSet, n, m⟩)) ?_ 74 Tryz.underlying74 rfl (by kernel_rfl)) rfl rfl
    · unfold wdCells
      simp only [noSet, wd_zero]
      exact Slab.new _ _ _
    · have hb := HB0.out
      (repeat' (first | (with_reducible exact Below.refl _ _) | (with_reducible assumption) | (with_reducible refine Below.alloc ?_ ?_ _) | (with_reducible refine Below.drew ?_) | (with_reducible refine below_set ?_ ?_ _) | (with_reducible refine below_call ?_ ?_ (by assumption)) | (with_reducible exact Below.size (by assumption)) | omega | go_size))
  | false =>
    have e0 : ¬ er = 0 := by simpa using he
    have hR : cntA a (n, m, st, er, pl) = badA er pl := by unfold cntA; rw [if_neg e0]
    rw [hR]
    have hn : (er != 0) = true := by unfold bne; rw [he]; rfl
    clear hR he
    have E0 := Lib.hid e0; clear e0
    go_enter Tryz.func53, Tryz.ntmps53
    go_wp2_with fail
    refine (C _).mono ?_
    rintro e1 w1 ⟨rfl, rfl⟩
    clear C
    go_wp2
    refine bodyPost_ret (v := wansV ⟨wd0, er, pl⟩) ?_ rfl ⟨rfl, ?_⟩
    refine results_cell3 rfl rfl (load_slab (t := 74) (cs := wdCells (wd0)) ?_ 74 Tryz.underlying74 rfl (by kernel_rfl)) rfl rfl
    · exact slab_z9 (by first | exact o0 | exact slab_setCells (vs := #[.int .i64 0, .int .i64 0, .int .i64 0, .int .u64 0, .int .u64 0, .int .u64 0, .int .u64 0, .int .i64 0, .int .i64 0]) o0 rfl)
    · have hb := HB0.out
      (repeat' (first | (with_reducible exact Below.refl _ _) | (with_reducible assumption) | (with_reducible refine Below.alloc ?_ ?_ _) | (with_reducible refine Below.drew ?_) | (with_reducible refine below_set ?_ ?_ _) | (with_reducible refine below_call ?_ ?_ (by assumption)) | (with_reducible exact Below.size (by assumption)) | omega | go_size))
set_option maxRecDepth 100000 in
set_option maxHeartbeats 2000000 in
theorem rn_91 (s : ByteArray) (a : Nat) (ha : a < s.size) (hs : s.size ≤ 4611686018427380000) (t40 : ((s[a].toNat : Int) == 40) = false) (t41 : ((s[a].toNat : Int) == 41) = false) (t124 : ((s[a].toNat : Int) == 124) = false) (t42 : ((s[a].toNat : Int) == 42) = false) (t43 : ((s[a].toNat : Int) == 43) = false) (t63 : ((s[a].toNat : Int) == 63) = false) (t123 : ((s[a].toNat : Int) == 123) = false) (t91 : ((s[a].toNat : Int) == 91) = true) (w : World) : Calls Tryz.prog 53 #[.string s, .int .i64 (a : Int)] w (RetW (brkA a (readB s a)) w) := by
  have C := rread3_any s a (by omega)
  generalize readB s a = R at *
  obtain ⟨f, st, er, pl⟩ := R
  have d0 : decide ((a : Int) < 0) = false := by simp
  have d1 : decide (s.size ≤ a) = false := by simpa using ha
  have o0 : Slab (w.alloc (.cells #[.int .i64 0, .int .i64 0, .int .i64 0, .int .u64 0, .int .u64 0, .int .u64 0, .int .u64 0, .int .i64 0, .int .i64 0] 74)) w.heap.size #[.int .i64 0, .int .i64 0, .int .i64 0, .int .u64 0, .int .u64 0, .int .u64 0, .int .u64 0, .int .i64 0, .int .i64 0] 74 := Slab.new _ _ _
  have HB0 := Lib.hid ((Below.refl w.heap.size w).alloc (Nat.le_refl _) (.cells #[.int .i64 0, .int .i64 0, .int .i64 0, .int .u64 0, .int .u64 0, .int .u64 0, .int .u64 0, .int .i64 0, .int .i64 0] 74))
  cases he : (er == 0) with
  | true =>
    have e0 : er = 0 := by simpa using he
    have hR : brkA a ⟨f, st, er, pl⟩ = oneA f a st := by unfold brkA; rw [if_pos e0]
    rw [hR]
    subst e0
    clear hR he
    go_enter Tryz.func53, Tryz.ntmps53
    go_wp2_with fail
    refine (C _).mono ?_
    rintro e1 w1 ⟨rfl, hb1⟩
    have o2 := (o0.call hb1).alloc (.cells (cells4 f) 49)
    have hbb := below_then HB0.out hb1
    have HB2 := Lib.hid (hbb.alloc hbb.size (.cells (cells4 f) 49))
    clear C hb1 hbb o0 HB0
    go_wp2_with fail
    refine (rone_any _ _ _ _).mono ?_
    rintro e7 w7 ⟨rfl, hb7⟩
    have o7 := o2.call hb7
    have HB7 := Lib.hid (below_then HB2.out hb7)
    obtain ⟨c7, f7⟩ := o7.facts
    clear hb7 o2 HB2
    go_wp2
    refine bodyPost_ret (v := wansV ⟨⟨1, a, st, f, 0, 0⟩, 0, 0⟩) ?_ rfl ⟨rfl, ?_⟩
    refine results_cell3 rfl rfl (load_slab (t := 74) (cs := wdCells (⟨1, a, st, f, 0, 0⟩)) ?_ 74 Tryz.underlying74 rfl (by kernel_rfl)) rfl rfl
    · exact slab_setCells (vs := wdCells (⟨1, a, st, f, 0, 0⟩)) o7 rfl
    · have hb := HB7.out
      (repeat' (first | (with_reducible exact Below.refl _ _) | (with_reducible assumption) | (with_reducible refine Below.alloc ?_ ?_ _) | (with_reducible refine Below.drew ?_) | (with_reducible refine below_set ?_ ?_ _) | (with_reducible refine below_call ?_ ?_ (by assumption)) | (with_reducible exact Below.size (by assumption)) | omega | go_size))
  | false =>
    have e0 : ¬ er = 0 := by simpa using he
    have hR : brkA a ⟨f, st, er, pl⟩ = badA er pl := by unfold brkA; rw [if_neg e0]
    rw [hR]
    have hn : (er != 0) = true := by unfold bne; rw [he]; rfl
    clear hR he
    have E0 := Lib.hid e0; clear e0
    go_enter Tryz.func53, Tryz.ntmps53
    go_wp2_with fail
    refine (C _).mono ?_
    rintro e1 w1 ⟨rfl, hb1⟩
    have o2 := (o0.call hb1).alloc (.cells (cells4 f) 49)
    have hbb := below_then HB0.out hb1
    have HB2 := Lib.hid (hbb.alloc hbb.size (.cells (cells4 f) 49))
    clear C hb1 hbb o0 HB0
    obtain ⟨c2, f2⟩ := o2.facts
    go_wp2
    refine bodyPost_ret (v := wansV ⟨wd0, er, pl⟩) ?_ rfl ⟨rfl, ?_⟩
    refine results_cell3 rfl rfl (load_slab (t := 74) (cs := wdCells (wd0)) ?_ 74 Tryz.underlying74 rfl (by kernel_rfl)) rfl rfl
    · exact slab_z9 (slab_setCells (vs := #[.int .i64 0, .int .i64 0, .int .i64 0, .int .u64 0, .int .u64 0, .int .u64 0, .int .u64 0, .int .i64 0, .int .i64 0]) o2 rfl)
    · have hb := HB2.out
      (repeat' (first | (with_reducible exact Below.refl _ _) | (with_reducible assumption) | (with_reducible refine Below.alloc ?_ ?_ _) | (with_reducible refine Below.drew ?_) | (with_reducible refine below_set ?_ ?_ _) | (with_reducible refine below_call ?_ ?_ (by assumption)) | (with_reducible exact Below.size (by assumption)) | omega | go_size))
set_option maxRecDepth 100000 in
set_option maxHeartbeats 2000000 in
theorem rn_46 (s : ByteArray) (a : Nat) (ha : a < s.size) (hs : s.size ≤ 4611686018427380000) (t40 : ((s[a].toNat : Int) == 40) = false) (t41 : ((s[a].toNat : Int) == 41) = false) (t124 : ((s[a].toNat : Int) == 124) = false) (t42 : ((s[a].toNat : Int) == 42) = false) (t43 : ((s[a].toNat : Int) == 43) = false) (t63 : ((s[a].toNat : Int) == 63) = false) (t123 : ((s[a].toNat : Int) == 123) = false) (t91 : ((s[a].toNat : Int) == 91) = false) (t46 : ((s[a].toNat : Int) == 46) = true) (w : World) : Calls Tryz.prog 53 #[.string s, .int .i64 (a : Int)] w (RetW (oneA (rangeF 0 255) a (a + 1)) w) := by
  have C := rrange_any 0 255 (by decide) (by decide) (by decide) (by decide)
  have d0 : decide ((a : Int) < 0) = false := by simp
  have d1 : decide (s.size ≤ a) = false := by simpa using ha
  have o0 : Slab (w.alloc (.cells #[.int .i64 0, .int .i64 0, .int .i64 0, .int .u64 0, .int .u64 0, .int .u64 0, .int .u64 0, .int .i64 0, .int .i64 0] 74)) w.heap.size #[.int .i64 0, .int .i64 0, .int .i64 0, .int .u64 0, .int .u64 0, .int .u64 0, .int .u64 0, .int .i64 0, .int .i64 0] 74 := Slab.new _ _ _
  have HB0 := Lib.hid ((Below.refl w.heap.size w).alloc (Nat.le_refl _) (.cells #[.int .i64 0, .int .i64 0, .int .i64 0, .int .u64 0, .int .u64 0, .int .u64 0, .int .u64 0, .int .i64 0, .int .i64 0] 74))
  go_enter Tryz.func53, Tryz.ntmps53
  go_wp2_with fail
  refine (C _).mono ?_
  rintro e1 w1 ⟨rfl, hb1⟩
  have o1 := o0.call hb1
  have HB1 := Lib.hid (below_then HB0.out hb1)
  clear C hb1 o0 HB0
  go_wp2_with fail
  refine (rone_any _ _ _ _).mono ?_
  rintro e7 w7 ⟨rfl, hb7⟩
  have o7 := o1.call hb7
  have HB7 := Lib.hid (below_then HB1.out hb7)
  obtain ⟨c7, f7⟩ := o7.facts
  clear hb7 o1 HB1
  go_wp2
  refine bodyPost_ret (v := wansV ⟨⟨1, a, a + 1, rangeF 0 255, 0, 0⟩, 0, 0⟩) ?_ rfl ⟨rfl, ?_⟩
  refine results_cell3 rfl rfl (load_slab (t := 74) (cs := wdCells (⟨1, a, a + 1, rangeF 0 255, 0, 0⟩)) ?_ 74 Tryz.underlying74 rfl (by kernel_rfl)) rfl rfl
  · exact slab_setCells (vs := wdCells (⟨1, a, a + 1, rangeF 0 255, 0, 0⟩)) o7 rfl
  · have hb := HB7.out
    (repeat' (first | (with_reducible exact Below.refl _ _) | (with_reducible assumption) | (with_reducible refine Below.alloc ?_ ?_ _) | (with_reducible refine Below.drew ?_) | (with_reducible refine below_set ?_ ?_ _) | (with_reducible refine below_call ?_ ?_ (by assumption)) | (with_reducible exact Below.size (by assumption)) | omega | go_size))
set_option maxRecDepth 100000 in
set_option maxHeartbeats 2000000 in
theorem rn_94 (s : ByteArray) (a : Nat) (ha : a < s.size) (hs : s.size ≤ 4611686018427380000) (t40 : ((s[a].toNat : Int) == 40) = false) (t41 : ((s[a].toNat : Int) == 41) = false) (t124 : ((s[a].toNat : Int) == 124) = false) (t42 : ((s[a].toNat : Int) == 42) = false) (t43 : ((s[a].toNat : Int) == 43) = false) (t63 : ((s[a].toNat : Int) == 63) = false) (t123 : ((s[a].toNat : Int) == 123) = false) (t91 : ((s[a].toNat : Int) == 91) = false) (t46 : ((s[a].toNat : Int) == 46) = false) (t94 : ((s[a].toNat : Int) == 94) = true) (w : World) : Calls Tryz.prog 53 #[.string s, .int .i64 (a : Int)] w (RetW (badA 3 (a + 1)) w) := by
  have d0 : decide ((a : Int) < 0) = false := by simp
  have d1 : decide (s.size ≤ a) = false := by simpa using ha
  have o0 : Slab (w.alloc (.cells #[.int .i64 0, .int .i64 0, .int .i64 0, .int .u64 0, .int .u64 0, .int .u64 0, .int .u64 0, .int .i64 0, .int .i64 0] 74)) w.heap.size #[.int .i64 0, .int .i64 0, .int .i64 0, .int .u64 0, .int .u64 0, .int .u64 0, .int .u64 0, .int .i64 0, .int .i64 0] 74 := Slab.new _ _ _
  have HB0 := Lib.hid ((Below.refl w.heap.size w).alloc (Nat.le_refl _) (.cells #[.int .i64 0, .int .i64 0, .int .i64 0, .int .u64 0, .int .u64 0, .int .u64 0, .int .u64 0, .int .i64 0, .int .i64 0] 74))
  go_enter Tryz.func53, Tryz.ntmps53
  go_wp2
  refine bodyPost_ret (v := wansV ⟨wd0, 3, a + 1⟩) ?_ rfl ⟨rfl, ?_⟩
  refine results_cell3 rfl rfl (load_slab (t := 74) (cs := wdCells (wd0)) ?_ 74 Tryz.underlying74 rfl (by kernel_rfl)) rfl rfl
  · exact slab_z9 (by first | exact o0 | exact slab_setCells (vs := #[.int .i64 0, .int .i64 0, .int .i64 0, .int .u64 0, .int .u64 0, .int .u64 0, .int .u64 0, .int .i64 0, .int .i64 0]) o0 rfl)
  · have hb := HB0.out
    (repeat' (first | (with_reducible exact Below.refl _ _) | (with_reducible assumption) | (with_reducible refine Below.alloc ?_ ?_ _) | (with_reducible refine Below.drew ?_) | (with_reducible refine below_set ?_ ?_ _) | (with_reducible refine below_call ?_ ?_ (by assumption)) | (with_reducible exact Below.size (by assumption)) | omega | go_size))
set_option maxRecDepth 100000 in
set_option maxHeartbeats 2000000 in
theorem rn_36 (s : ByteArray) (a : Nat) (ha : a < s.size) (hs : s.size ≤ 4611686018427380000) (t40 : ((s[a].toNat : Int) == 40) = false) (t41 : ((s[a].toNat : Int) == 41) = false) (t124 : ((s[a].toNat : Int) == 124) = false) (t42 : ((s[a].toNat : Int) == 42) = false) (t43 : ((s[a].toNat : Int) == 43) = false) (t63 : ((s[a].toNat : Int) == 63) = false) (t123 : ((s[a].toNat : Int) == 123) = false) (t91 : ((s[a].toNat : Int) == 91) = false) (t46 : ((s[a].toNat : Int) == 46) = false) (t94 : ((s[a].toNat : Int) == 94) = false) (t36 : ((s[a].toNat : Int) == 36) = true) (w : World) : Calls Tryz.prog 53 #[.string s, .int .i64 (a : Int)] w (RetW (badA 3 (a + 1)) w) := by
  have d0 : decide ((a : Int) < 0) = false := by simp
  have d1 : decide (s.size ≤ a) = false := by simpa using ha
  have o0 : Slab (w.alloc (.cells #[.int .i64 0, .int .i64 0, .int .i64 0, .int .u64 0, .int .u64 0, .int .u64 0, .int .u64 0, .int .i64 0, .int .i64 0] 74)) w.heap.size #[.int .i64 0, .int .i64 0, .int .i64 0, .int .u64 0, .int .u64 0, .int .u64 0, .int .u64 0, .int .i64 0, .int .i64 0] 74 := Slab.new _ _ _
  have HB0 := Lib.hid ((Below.refl w.heap.size w).alloc (Nat.le_refl _) (.cells #[.int .i64 0, .int .i64 0, .int .i64 0, .int .u64 0, .int .u64 0, .int .u64 0, .int .u64 0, .int .i64 0, .int .i64 0] 74))
  go_enter Tryz.func53, Tryz.ntmps53
  go_wp2
  refine bodyPost_ret (v := wansV ⟨wd0, 3, a + 1⟩) ?_ rfl ⟨rfl, ?_⟩
  refine results_cell3 rfl rfl (load_slab (t := 74) (cs := wdCells (wd0)) ?_ 74 Tryz.underlying74 rfl (by kernel_rfl)) rfl rfl
  · exact slab_z9 (by first | exact o0 | exact slab_setCells (vs := #[.int .i64 0, .int .i64 0, .int .i64 0, .int .u64 0, .int .u64 0, .int .u64 0, .int .u64 0, .int .i64 0, .int .i64 0]) o0 rfl)
  · have hb := HB0.out
    (repeat' (first | (with_reducible exact Below.refl _ _) | (with_reducible assumption) | (with_reducible refine Below.alloc ?_ ?_ _) | (with_reducible refine Below.drew ?_) | (with_reducible refine below_set ?_ ?_ _) | (with_reducible refine below_call ?_ ?_ (by assumption)) | (with_reducible exact Below.size (by assumption)) | omega | go_size))
set_option maxRecDepth 100000 in
set_option maxHeartbeats 2000000 in
theorem rn_plain (s : ByteArray) (a : Nat) (ha : a < s.size) (hs : s.size ≤ 4611686018427380000) (t40 : ((s[a].toNat : Int) == 40) = false) (t41 : ((s[a].toNat : Int) == 41) = false) (t124 : ((s[a].toNat : Int) == 124) = false) (t42 : ((s[a].toNat : Int) == 42) = false) (t43 : ((s[a].toNat : Int) == 43) = false) (t63 : ((s[a].toNat : Int) == 63) = false) (t123 : ((s[a].toNat : Int) == 123) = false) (t91 : ((s[a].toNat : Int) == 91) = false) (t46 : ((s[a].toNat : Int) == 46) = false) (t94 : ((s[a].toNat : Int) == 94) = false) (t36 : ((s[a].toNat : Int) == 36) = false) (t92 : ((s[a].toNat : Int) == 92) = false) (w : World) : Calls Tryz.prog 53 #[.string s, .int .i64 (a : Int)] w (RetW (oneA (addB noSet s[a].toNat) a (a + 1)) w) := by
  have C := rbyte_any s[a]
  have d0 : decide ((a : Int) < 0) = false := by simp
  have d1 : decide (s.size ≤ a) = false := by simpa using ha
  have o0 : Slab (w.alloc (.cells #[.int .i64 0, .int .i64 0, .int .i64 0, .int .u64 0, .int .u64 0, .int .u64 0, .int .u64 0, .int .i64 0, .int .i64 0] 74)) w.heap.size #[.int .i64 0, .int .i64 0, .int .i64 0, .int .u64 0, .int .u64 0, .int .u64 0, .int .u64 0, .int .i64 0, .int .i64 0] 74 := Slab.new _ _ _
  have HB0 := Lib.hid ((Below.refl w.heap.size w).alloc (Nat.le_refl _) (.cells #[.int .i64 0, .int .i64 0, .int .i64 0, .int .u64 0, .int .u64 0, .int .u64 0, .int .u64 0, .int .i64 0, .int .i64 0] 74))
  go_enter Tryz.func53, Tryz.ntmps53
  go_wp2_with fail
  refine (C _).mono ?_
  rintro e1 w1 ⟨rfl, hb1⟩
  have o1 := o0.call hb1
  have HB1 := Lib.hid (below_then HB0.out hb1)
  clear C hb1 o0 HB0
  go_wp2_with fail
  refine (rone_any _ _ _ _).mono ?_
  rintro e7 w7 ⟨rfl, hb7⟩
  have o7 := o1.call hb7
  have HB7 := Lib.hid (below_then HB1.out hb7)
  obtain ⟨c7, f7⟩ := o7.facts
  clear hb7 o1 HB1
  go_wp2
  refine bodyPost_ret (v := wansV ⟨⟨1, a, a + 1, addB noSet s[a].toNat, 0, 0⟩, 0, 0⟩) ?_ rfl ⟨rfl, ?_⟩
  refine results_cell3 rfl rfl (load_slab (t := 74) (cs := wdCells (⟨1, a, a + 1, addB noSet s[a].toNat, 0, 0⟩)) ?_ 74 Tryz.underlying74 rfl (by kernel_rfl)) rfl rfl
  · exact slab_setCells (vs := wdCells (⟨1, a, a + 1, addB noSet s[a].toNat, 0, 0⟩)) o7 rfl
  · have hb := HB7.out
    (repeat' (first | (with_reducible exact Below.refl _ _) | (with_reducible assumption) | (with_reducible refine Below.alloc ?_ ?_ _) | (with_reducible refine Below.drew ?_) | (with_reducible refine below_set ?_ ?_ _) | (with_reducible refine below_call ?_ ?_ (by assumption)) | (with_reducible exact Below.size (by assumption)) | omega | go_size))
set_option maxRecDepth 100000 in
set_option maxHeartbeats 2000000 in
theorem rn_92 (s : ByteArray) (a : Nat) (ha : a < s.size) (hs : s.size ≤ 4611686018427380000) (t40 : ((s[a].toNat : Int) == 40) = false) (t41 : ((s[a].toNat : Int) == 41) = false) (t124 : ((s[a].toNat : Int) == 124) = false) (t42 : ((s[a].toNat : Int) == 42) = false) (t43 : ((s[a].toNat : Int) == 43) = false) (t63 : ((s[a].toNat : Int) == 63) = false) (t123 : ((s[a].toNat : Int) == 123) = false) (t91 : ((s[a].toNat : Int) == 91) = false) (t46 : ((s[a].toNat : Int) == 46) = false) (t94 : ((s[a].toNat : Int) == 94) = false) (t36 : ((s[a].toNat : Int) == 36) = false) (t92 : ((s[a].toNat : Int) == 92) = true) (w : World) : Calls Tryz.prog 53 #[.string s, .int .i64 (a : Int)] w (RetW (escA s a) w) := by
  have d0 : decide ((a : Int) < 0) = false := by simp
  have d1 : decide (s.size ≤ a) = false := by simpa using ha
  have o0 : Slab (w.alloc (.cells #[.int .i64 0, .int .i64 0, .int .i64 0, .int .u64 0, .int .u64 0, .int .u64 0, .int .u64 0, .int .i64 0, .int .i64 0] 74)) w.heap.size #[.int .i64 0, .int .i64 0, .int .i64 0, .int .u64 0, .int .u64 0, .int .u64 0, .int .u64 0, .int .i64 0, .int .i64 0] 74 := Slab.new _ _ _
  have HB0 := Lib.hid ((Below.refl w.heap.size w).alloc (Nat.le_refl _) (.cells #[.int .i64 0, .int .i64 0, .int .i64 0, .int .u64 0, .int .u64 0, .int .u64 0, .int .u64 0, .int .i64 0, .int .i64 0] 74))
  by_cases h1 : s.size = a + 1
  · have hR : escA s a = badA 2 s.size := by unfold escA; rw [if_pos (by omega)]
    rw [hR]
    have e1 : decide ((s.size : Int) ≤ (a : Int) + 1) = true := by simp; omega
    have H1 := Lib.hid h1; clear h1 hR
    go_enter Tryz.func53, Tryz.ntmps53
    go_wp2
    refine bodyPost_ret (v := wansV ⟨wd0, 2, s.size⟩) ?_ rfl ⟨rfl, ?_⟩
    refine results_cell3 rfl rfl (load_slab (t := 74) (cs := wdCells (wd0)) ?_ 74 Tryz.underlying74 rfl (by kernel_rfl)) rfl rfl
    · exact slab_z9 (by first | exact o0 | exact slab_setCells (vs := #[.int .i64 0, .int .i64 0, .int .i64 0, .int .u64 0, .int .u64 0, .int .u64 0, .int .u64 0, .int .i64 0, .int .i64 0]) o0 rfl)
    · have hb := HB0.out
      (repeat' (first | (with_reducible exact Below.refl _ _) | (with_reducible assumption) | (with_reducible refine Below.alloc ?_ ?_ _) | (with_reducible refine Below.drew ?_) | (with_reducible refine below_set ?_ ?_ _) | (with_reducible refine below_call ?_ ?_ (by assumption)) | (with_reducible exact Below.size (by assumption)) | omega | go_size))
  · have h2 : a + 1 < s.size := by omega
    have hbt := bt_at s (a + 1) h2
    have e1 : decide ((s.size : Int) ≤ (a : Int) + 1) = false := by simp; omega
    have C := fourteen_any s[a + 1]
    cases hc : escB s[a + 1] with
    | false =>
      have hR : escA s a = badA 3 (a + 2) := by unfold escA; rw [if_neg (by omega), hbt, hc]; rfl
      rw [hR]
      rw [hc] at C
      clear hR hc hbt h1
      go_enter Tryz.func53, Tryz.ntmps53
      go_wp2_with fail
      refine (C _).mono ?_
      rintro e3 w3 ⟨rfl, rfl⟩
      clear C
      go_wp2
      refine bodyPost_ret (v := wansV ⟨wd0, 3, a + 2⟩) ?_ rfl ⟨rfl, ?_⟩
      refine results_cell3 rfl rfl (load_slab (t := 74) (cs := wdCells (wd0)) ?_ 74 Tryz.underlying74 rfl (by kernel_rfl)) rfl rfl
      · exact slab_z9 (by first | exact o0 | exact slab_setCells (vs := #[.int .i64 0, .int .i64 0, .int .i64 0, .int .u64 0, .int .u64 0, .int .u64 0, .int .u64 0, .int .i64 0, .int .i64 0]) o0 rfl)
      · have hb := HB0.out
        (repeat' (first | (with_reducible exact Below.refl _ _) | (with_reducible assumption) | (with_reducible refine Below.alloc ?_ ?_ _) | (with_reducible refine Below.drew ?_) | (with_reducible refine below_set ?_ ?_ _) | (with_reducible refine below_call ?_ ?_ (by assumption)) | (with_reducible exact Below.size (by assumption)) | omega | go_size))
    | true =>
      have hR : escA s a = oneA (addB noSet s[a + 1].toNat) a (a + 2) := by unfold escA; rw [if_neg (by omega), hbt, hc]; rfl
      rw [hR]
      rw [hc] at C
      have C2 := rbyte_any s[a + 1]
      clear hR hc hbt h1
      go_enter Tryz.func53, Tryz.ntmps53
      go_wp2_with fail
      refine (C _).mono ?_
      rintro e3 w3 ⟨rfl, rfl⟩
      clear C
      go_wp2_with fail
      refine (C2 _).mono ?_
      rintro e1 w1 ⟨rfl, hb1⟩
      have o1 := o0.call hb1
      have HB1 := Lib.hid (below_then HB0.out hb1)
      clear C2 hb1 o0 HB0
      go_wp2_with fail
      refine (rone_any _ _ _ _).mono ?_
      rintro e7 w7 ⟨rfl, hb7⟩
      have o7 := o1.call hb7
      have HB7 := Lib.hid (below_then HB1.out hb7)
      obtain ⟨c7, f7⟩ := o7.facts
      clear hb7 o1 HB1
      go_wp2
      refine bodyPost_ret (v := wansV ⟨⟨1, a, a + 2, addB noSet s[a + 1].toNat, 0, 0⟩, 0, 0⟩) ?_ rfl ⟨rfl, ?_⟩
      refine results_cell3 rfl rfl (load_slab (t := 74) (cs := wdCells (⟨1, a, a + 2, addB noSet s[a + 1].toNat, 0, 0⟩)) ?_ 74 Tryz.underlying74 rfl (by kernel_rfl)) rfl rfl
      · exact slab_setCells (vs := wdCells (⟨1, a, a + 2, addB noSet s[a + 1].toNat, 0, 0⟩)) o7 rfl
      · have hb := HB7.out
        (repeat' (first | (with_reducible exact Below.refl _ _) | (with_reducible assumption) | (with_reducible refine Below.alloc ?_ ?_ _) | (with_reducible refine Below.drew ?_) | (with_reducible refine below_set ?_ ?_ _) | (with_reducible refine below_call ?_ ?_ (by assumption)) | (with_reducible exact Below.size (by assumption)) | omega | go_size))
set_option maxRecDepth 100000 in
set_option maxHeartbeats 2000000 in
theorem rnext5_any (s : ByteArray) (a : Int) (hs : s.size ≤ 4611686018427380000) (w : World) :
    Calls Tryz.prog 53 #[.string s, .int .i64 a] w (RetW (nextW s a) w) := by
  by_cases h0 : a < 0
  · rw [nextW_out (.inl h0)]
    have d0 : decide (a < 0) = true := by simpa using h0
    clear h0
    go_enter Tryz.func53, Tryz.ntmps53
    go_wp2
    refine bodyPost_ret (v := wansV ⟨wd0, 1, 0⟩) ?_ rfl ⟨rfl, ?_⟩
    refine results_cell3 rfl rfl (load_slab (t := 74) (cs := wdCells (wd0)) ?_ 74 Tryz.underlying74 rfl (by kernel_rfl)) rfl rfl
    · exact slab_z9 (by first | exact Slab.new _ _ _ | exact slab_setCells (vs := #[.int .i64 0, .int .i64 0, .int .i64 0, .int .u64 0, .int .u64 0, .int .u64 0, .int .u64 0, .int .i64 0, .int .i64 0]) (Slab.new _ _ _) rfl)
    · (repeat' (first | (with_reducible exact Below.refl _ _) | (with_reducible assumption) | (with_reducible refine Below.alloc ?_ ?_ _) | (with_reducible refine Below.drew ?_) | (with_reducible refine below_set ?_ ?_ _) | (with_reducible refine below_call ?_ ?_ (by assumption)) | (with_reducible exact Below.size (by assumption)) | omega | go_size))
  obtain ⟨a, rfl⟩ := Int.eq_ofNat_of_zero_le (show 0 ≤ a by omega)
  by_cases h1 : s.size ≤ a
  · rw [nextW_out (.inr (by omega))]
    have d0 : decide ((a : Int) < 0) = false := by simp
    have d1 : decide (s.size ≤ a) = true := by simpa using h1
    clear h0 h1
    go_enter Tryz.func53, Tryz.ntmps53
    go_wp2
    refine bodyPost_ret (v := wansV ⟨wd0, 1, 0⟩) ?_ rfl ⟨rfl, ?_⟩
    refine results_cell3 rfl rfl (load_slab (t := 74) (cs := wdCells (wd0)) ?_ 74 Tryz.underlying74 rfl (by kernel_rfl)) rfl rfl
    · exact slab_z9 (by first | exact Slab.new _ _ _ | exact slab_setCells (vs := #[.int .i64 0, .int .i64 0, .int .i64 0, .int .u64 0, .int .u64 0, .int .u64 0, .int .u64 0, .int .i64 0, .int .i64 0]) (Slab.new _ _ _) rfl)
    · (repeat' (first | (with_reducible exact Below.refl _ _) | (with_reducible assumption) | (with_reducible refine Below.alloc ?_ ?_ _) | (with_reducible refine Below.drew ?_) | (with_reducible refine below_set ?_ ?_ _) | (with_reducible refine below_call ?_ ?_ (by assumption)) | (with_reducible exact Below.size (by assumption)) | omega | go_size))
  have ha : a < s.size := by omega
  rw [nextW_in ha, bt_at s a ha]
  have T : ∀ k : UInt8, ((s[a].toNat : Int) == (k.toNat : Int)) = (s[a] == k) := fun k => beqI s[a] k
  cases c1 : (s[a] == 40) with
  | true => exact (by unfold wordB; rw [if_pos c1] : wordB s a s[a] = signA 2 a) ▸ rn_40 s a ha hs ((T 40).trans c1) w
  | false =>
  have n1 : ¬ (s[a] == 40) = true := by rw [c1]; simp
  cases c2 : (s[a] == 41) with
  | true => exact (by unfold wordB; rw [if_neg n1, if_pos c2] : wordB s a s[a] = signA 3 a) ▸ rn_41 s a ha hs ((T 40).trans c1) ((T 41).trans c2) w
  | false =>
  have n2 : ¬ (s[a] == 41) = true := by rw [c2]; simp
  cases c3 : (s[a] == 124) with
  | true => exact (by unfold wordB; rw [if_neg n1, if_neg n2, if_pos c3] : wordB s a s[a] = signA 4 a) ▸ rn_124 s a ha hs ((T 40).trans c1) ((T 41).trans c2) ((T 124).trans c3) w
  | false =>
  have n3 : ¬ (s[a] == 124) = true := by rw [c3]; simp
  cases c4 : (s[a] == 42) with
  | true => exact (by unfold wordB isCnt; rw [if_neg n1, if_neg n2, if_neg n3, c4, if_pos (by rfl)] : wordB s a s[a] = cntA a (BraceP.readF s.data.toList a)) ▸ rn_cnt42 s a ha hs ((T 40).trans c1) ((T 41).trans c2) ((T 124).trans c3) ((T 42).trans c4) w
  | false =>
  cases c5 : (s[a] == 43) with
  | true => exact (by unfold wordB isCnt; rw [if_neg n1, if_neg n2, if_neg n3, c4, c5, if_pos (by rfl)] : wordB s a s[a] = cntA a (BraceP.readF s.data.toList a)) ▸ rn_cnt43 s a ha hs ((T 40).trans c1) ((T 41).trans c2) ((T 124).trans c3) ((T 42).trans c4) ((T 43).trans c5) w
  | false =>
  cases c6 : (s[a] == 63) with
  | true => exact (by unfold wordB isCnt; rw [if_neg n1, if_neg n2, if_neg n3, c4, c5, c6, if_pos (by rfl)] : wordB s a s[a] = cntA a (BraceP.readF s.data.toList a)) ▸ rn_cnt63 s a ha hs ((T 40).trans c1) ((T 41).trans c2) ((T 124).trans c3) ((T 42).trans c4) ((T 43).trans c5) ((T 63).trans c6) w
  | false =>
  cases c7 : (s[a] == 123) with
  | true => exact (by unfold wordB isCnt; rw [if_neg n1, if_neg n2, if_neg n3, c4, c5, c6, c7, if_pos (by rfl)] : wordB s a s[a] = cntA a (BraceP.readF s.data.toList a)) ▸ rn_cnt123 s a ha hs ((T 40).trans c1) ((T 41).trans c2) ((T 124).trans c3) ((T 42).trans c4) ((T 43).trans c5) ((T 63).trans c6) ((T 123).trans c7) w
  | false =>
  have n4 : ¬ isCnt s[a] = true := by unfold isCnt; rw [c4, c5, c6, c7]; simp
  cases c8 : (s[a] == 91) with
  | true => exact (by unfold wordB; rw [if_neg n1, if_neg n2, if_neg n3, if_neg n4, if_pos c8] : wordB s a s[a] = brkA a (readB s a)) ▸ rn_91 s a ha hs ((T 40).trans c1) ((T 41).trans c2) ((T 124).trans c3) ((T 42).trans c4) ((T 43).trans c5) ((T 63).trans c6) ((T 123).trans c7) ((T 91).trans c8) w
  | false =>
  have n5 : ¬ (s[a] == 91) = true := by rw [c8]; simp
  cases c9 : (s[a] == 46) with
  | true => exact (by unfold wordB; rw [if_neg n1, if_neg n2, if_neg n3, if_neg n4, if_neg n5, if_pos c9] : wordB s a s[a] = oneA (rangeF 0 255) a (a + 1)) ▸ rn_46 s a ha hs ((T 40).trans c1) ((T 41).trans c2) ((T 124).trans c3) ((T 42).trans c4) ((T 43).trans c5) ((T 63).trans c6) ((T 123).trans c7) ((T 91).trans c8) ((T 46).trans c9) w
  | false =>
  have n6 : ¬ (s[a] == 46) = true := by rw [c9]; simp
  cases cA : (s[a] == 94) with
  | true =>
    have n7 : ¬ (s[a] == 92) = true := by
      have : s[a] = 94 := by simpa using cA
      rw [this]; decide
    exact (by unfold wordB; rw [if_neg n1, if_neg n2, if_neg n3, if_neg n4, if_neg n5, if_neg n6, if_neg n7, cA, if_pos (by rfl)] : wordB s a s[a] = badA 3 (a + 1)) ▸ rn_94 s a ha hs ((T 40).trans c1) ((T 41).trans c2) ((T 124).trans c3) ((T 42).trans c4) ((T 43).trans c5) ((T 63).trans c6) ((T 123).trans c7) ((T 91).trans c8) ((T 46).trans c9) ((T 94).trans cA) w
  | false =>
  cases cB : (s[a] == 36) with
  | true =>
    have n7 : ¬ (s[a] == 92) = true := by
      have : s[a] = 36 := by simpa using cB
      rw [this]; decide
    exact (by unfold wordB; rw [if_neg n1, if_neg n2, if_neg n3, if_neg n4, if_neg n5, if_neg n6, if_neg n7, cA, cB, if_pos (by rfl)] : wordB s a s[a] = badA 3 (a + 1)) ▸ rn_36 s a ha hs ((T 40).trans c1) ((T 41).trans c2) ((T 124).trans c3) ((T 42).trans c4) ((T 43).trans c5) ((T 63).trans c6) ((T 123).trans c7) ((T 91).trans c8) ((T 46).trans c9) ((T 94).trans cA) ((T 36).trans cB) w
  | false =>
  cases cC : (s[a] == 92) with
  | true => exact (by unfold wordB; rw [if_neg n1, if_neg n2, if_neg n3, if_neg n4, if_neg n5, if_neg n6, if_pos cC] : wordB s a s[a] = escA s a) ▸ rn_92 s a ha hs ((T 40).trans c1) ((T 41).trans c2) ((T 124).trans c3) ((T 42).trans c4) ((T 43).trans c5) ((T 63).trans c6) ((T 123).trans c7) ((T 91).trans c8) ((T 46).trans c9) ((T 94).trans cA) ((T 36).trans cB) ((T 92).trans cC) w
  | false =>
  have n7 : ¬ (s[a] == 92) = true := by rw [cC]; simp
  exact (by unfold wordB; rw [if_neg n1, if_neg n2, if_neg n3, if_neg n4, if_neg n5, if_neg n6, if_neg n7, cA, cB, if_neg (by simp)] : wordB s a s[a] = oneA (addB noSet s[a].toNat) a (a + 1)) ▸ rn_plain s a ha hs ((T 40).trans c1) ((T 41).trans c2) ((T 124).trans c3) ((T 42).trans c4) ((T 43).trans c5) ((T 63).trans c6) ((T 123).trans c7) ((T 91).trans c8) ((T 46).trans c9) ((T 94).trans cA) ((T 36).trans cB) ((T 92).trans cC) w
end Go.Proofs.YtfcgmgpcbenfpaaGreat
