/- Walks of the package lex: Next. -/
import Derived.Test.YtfcgmgpcbenfpaaGreatProg
import Derived.WalkKit
import Derived.WalkSpells
import Derived.WalkLawsBesides
import Derived.Handy
import Derived.Lib.Hide
import Derived.Test.YtfcgmgpcbenfpaaGreatLexA
set_option linter.unusedVariables false
set_option linter.unusedSimpArgs false
namespace Go.Proofs.YtfcgmgpcbenfpaaGreat
open Go.RowKit SetP BrkP LexP
abbrev ifV (T : TypeId) (cs : Array Value) : Value := .iface T (.agg cs)
/-- What reads the word that begins with a byte. -/
def lofV (b : UInt8) : Value :=
  if b == 40 then ifV 117 #[.int .i64 2] else if b == 41 then ifV 117 #[.int .i64 3] else if b == 124 then ifV 117 #[.int .i64 4]
  else if isCnt b then ifV 119 #[] else if b == 91 then ifV 120 #[] else if b == 46 then ifV 121 #[] else if b == 92 then ifV 122 #[]
  else if b == 94 || b == 36 then ifV 123 #[] else ifV 124 #[]
theorem beqI (b k : UInt8) : ((b.toNat : Int) == (k.toNat : Int)) = (b == k) := by
  rw [Bool.eq_iff_iff]; simp [← UInt8.toNat_inj]; omega
set_option maxRecDepth 100000 in
set_option maxHeartbeats 2000000 in
theorem of5_any (b : UInt8) (w : World) : Calls Tryz.prog 44 #[.int .u8 (b.toNat : Int)] w fun e w' => e = .returned (lofV b) ∧ w' = w := by
  unfold lofV isCnt
  have t40 : ((b.toNat : Int) == 40) = (b == 40) := beqI b 40
  have t41 : ((b.toNat : Int) == 41) = (b == 41) := beqI b 41
  have t124 : ((b.toNat : Int) == 124) = (b == 124) := beqI b 124
  have t42 : ((b.toNat : Int) == 42) = (b == 42) := beqI b 42
  have t43 : ((b.toNat : Int) == 43) = (b == 43) := beqI b 43
  have t63 : ((b.toNat : Int) == 63) = (b == 63) := beqI b 63
  have t123 : ((b.toNat : Int) == 123) = (b == 123) := beqI b 123
  have t91 : ((b.toNat : Int) == 91) = (b == 91) := beqI b 91
  have t46 : ((b.toNat : Int) == 46) = (b == 46) := beqI b 46
  have t92 : ((b.toNat : Int) == 92) = (b == 92) := beqI b 92
  have t94 : ((b.toNat : Int) == 94) = (b == 94) := beqI b 94
  have t36 : ((b.toNat : Int) == 36) = (b == 36) := beqI b 36
  cases h40 : (b == 40) with
  | true =>
    rw [h40] at t40; clear t41 t124 t42 t43 t63 t123 t91 t46 t92 t94 t36 h40
    go_enter Tryz.func44, Tryz.ntmps44
    go_wp2
    go_ret
    exact ⟨rfl, rfl⟩
  | false =>
  rw [h40] at t40
  cases h41 : (b == 41) with
  | true =>
    rw [h41] at t41; clear t124 t42 t43 t63 t123 t91 t46 t92 t94 t36 h40 h41
    go_enter Tryz.func44, Tryz.ntmps44
    go_wp2
    go_ret
    exact ⟨rfl, rfl⟩
  | false =>
  rw [h41] at t41
  cases h124 : (b == 124) with
  | true =>
    rw [h124] at t124; clear t42 t43 t63 t123 t91 t46 t92 t94 t36 h40 h41 h124
    go_enter Tryz.func44, Tryz.ntmps44
    go_wp2
    go_ret
    exact ⟨rfl, rfl⟩
  | false =>
  rw [h124] at t124
  cases h42 : (b == 42) with
  | true =>
    rw [h42] at t42; clear t43 t63 t123 t91 t46 t92 t94 t36 h40 h41 h124 h42
    go_enter Tryz.func44, Tryz.ntmps44
    go_wp2
    go_ret
    exact ⟨rfl, rfl⟩
  | false =>
  rw [h42] at t42
  cases h43 : (b == 43) with
  | true =>
    rw [h43] at t43; clear t63 t123 t91 t46 t92 t94 t36 h40 h41 h124 h42 h43
    go_enter Tryz.func44, Tryz.ntmps44
    go_wp2
    go_ret
    exact ⟨rfl, rfl⟩
  | false =>
  rw [h43] at t43
  cases h63 : (b == 63) with
  | true =>
    rw [h63] at t63; clear t123 t91 t46 t92 t94 t36 h40 h41 h124 h42 h43 h63
    go_enter Tryz.func44, Tryz.ntmps44
    go_wp2
    go_ret
    exact ⟨rfl, rfl⟩
  | false =>
  rw [h63] at t63
  cases h123 : (b == 123) with
  | true =>
    rw [h123] at t123; clear t91 t46 t92 t94 t36 h40 h41 h124 h42 h43 h63 h123
    go_enter Tryz.func44, Tryz.ntmps44
    go_wp2
    go_ret
    exact ⟨rfl, rfl⟩
  | false =>
  rw [h123] at t123
  cases h91 : (b == 91) with
  | true =>
    rw [h91] at t91; clear t46 t92 t94 t36 h40 h41 h124 h42 h43 h63 h123 h91
    go_enter Tryz.func44, Tryz.ntmps44
    go_wp2
    go_ret
    exact ⟨rfl, rfl⟩
  | false =>
  rw [h91] at t91
  cases h46 : (b == 46) with
  | true =>
    rw [h46] at t46; clear t92 t94 t36 h40 h41 h124 h42 h43 h63 h123 h91 h46
    go_enter Tryz.func44, Tryz.ntmps44
    go_wp2
    go_ret
    exact ⟨rfl, rfl⟩
  | false =>
  rw [h46] at t46
  cases h92 : (b == 92) with
  | true =>
    rw [h92] at t92; clear t94 t36 h40 h41 h124 h42 h43 h63 h123 h91 h46 h92
    go_enter Tryz.func44, Tryz.ntmps44
    go_wp2
    go_ret
    exact ⟨rfl, rfl⟩
  | false =>
  rw [h92] at t92
  cases h94 : (b == 94) with
  | true =>
    rw [h94] at t94; clear t36 h40 h41 h124 h42 h43 h63 h123 h91 h46 h92 h94
    go_enter Tryz.func44, Tryz.ntmps44
    go_wp2
    go_ret
    exact ⟨rfl, rfl⟩
  | false =>
  rw [h94] at t94
  cases h36 : (b == 36) with
  | true =>
    rw [h36] at t36; clear h40 h41 h124 h42 h43 h63 h123 h91 h46 h92 h94 h36
    go_enter Tryz.func44, Tryz.ntmps44
    go_wp2
    go_ret
    exact ⟨rfl, rfl⟩
  | false =>
    rw [h36] at t36; clear h40 h41 h124 h42 h43 h63 h123 h91 h46 h92 h94 h36
    go_enter Tryz.func44, Tryz.ntmps44
    go_wp2
    go_ret
    exact ⟨rfl, rfl⟩
set_option maxRecDepth 100000 in
set_option maxHeartbeats 2000000 in
theorem nx_sign (k : Int) (s : ByteArray) (a : Nat) (ha : a < s.size) (hs : s.size ≤ 4611686018427380000) (hV : lofV s[a] = ifV 117 #[.int .i64 k]) (w : World) : Calls Tryz.prog 43 #[.string s, .int .i64 (a : Int)] w (RetW (signA k a) w) := by
  have C := of5_any s[a]
  rw [hV] at C
  clear hV
  have d0 : decide ((a : Int) < 0) = false := by simp
  have d1 : decide (s.size ≤ a) = false := by simpa using ha
  have o0 : Slab (w.alloc (.cells #[.int .i64 0, .int .i64 0, .int .i64 0, .int .u64 0, .int .u64 0, .int .u64 0, .int .u64 0, .int .i64 0, .int .i64 0] 74)) w.heap.size #[.int .i64 0, .int .i64 0, .int .i64 0, .int .u64 0, .int .u64 0, .int .u64 0, .int .u64 0, .int .i64 0, .int .i64 0] 74 := Slab.new _ _ _
  have HB0 := Lib.hid ((Below.refl w.heap.size w).alloc (Nat.le_refl _) (.cells #[.int .i64 0, .int .i64 0, .int .i64 0, .int .u64 0, .int .u64 0, .int .u64 0, .int .u64 0, .int .i64 0, .int .i64 0] 74))
  obtain ⟨R, hR⟩ : ∃ R, signA k a = R := ⟨_, rfl⟩
  have C2 := sign_any k s a ha hs
  rw [hR] at C2 ⊢
  clear hR
  obtain ⟨wo, er, pl⟩ := R
  go_enter Tryz.func43, Tryz.ntmps43
  go_wp2_with fail
  refine (C _).mono ?_
  rintro e1 w1 ⟨rfl, rfl⟩
  clear C
  go_wp2_with fail
  refine (C2 _).mono ?_
  rintro e2 w2 ⟨rfl, hb2⟩
  have o2 := o0.call hb2
  have HB2 := Lib.hid (below_then HB0.out hb2)
  obtain ⟨c2, f2⟩ := o2.facts
  clear hb2 C2 o0 HB0
  go_wp2
  refine bodyPost_ret (v := wansV ⟨wo, er, pl⟩) ?_ rfl ⟨rfl, ?_⟩
  refine results_cell3 rfl rfl (load_slab (t := 74) (cs := wdCells wo) ?_ 74 Tryz.underlying74 rfl (by kernel_rfl)) rfl rfl
  · exact slab_setCells (vs := wdCells wo) o2 rfl
  · have hb := HB2.out
    (repeat' (first | (with_reducible exact Below.refl _ _) | (with_reducible assumption) | (with_reducible refine Below.alloc ?_ ?_ _) | (with_reducible refine Below.drew ?_) | (with_reducible refine below_set ?_ ?_ _) | (with_reducible refine below_call ?_ ?_ (by assumption)) | (with_reducible exact Below.size (by assumption)) | omega | go_size))
set_option maxRecDepth 100000 in
set_option maxHeartbeats 2000000 in
theorem nx_cnt (s : ByteArray) (a : Nat) (ha : a < s.size) (hs : s.size ≤ 4611686018427380000) (hV : lofV s[a] = ifV 119 #[]) (w : World) : Calls Tryz.prog 43 #[.string s, .int .i64 (a : Int)] w (RetW (cntA a (BraceP.readF s.data.toList a)) w) := by
  have C := of5_any s[a]
  rw [hV] at C
  clear hV
  have d0 : decide ((a : Int) < 0) = false := by simp
  have d1 : decide (s.size ≤ a) = false := by simpa using ha
  have o0 : Slab (w.alloc (.cells #[.int .i64 0, .int .i64 0, .int .i64 0, .int .u64 0, .int .u64 0, .int .u64 0, .int .u64 0, .int .i64 0, .int .i64 0] 74)) w.heap.size #[.int .i64 0, .int .i64 0, .int .i64 0, .int .u64 0, .int .u64 0, .int .u64 0, .int .u64 0, .int .i64 0, .int .i64 0] 74 := Slab.new _ _ _
  have HB0 := Lib.hid ((Below.refl w.heap.size w).alloc (Nat.le_refl _) (.cells #[.int .i64 0, .int .i64 0, .int .i64 0, .int .u64 0, .int .u64 0, .int .u64 0, .int .u64 0, .int .i64 0, .int .i64 0] 74))
  obtain ⟨R, hR⟩ : ∃ R, cntA a (BraceP.readF s.data.toList a) = R := ⟨_, rfl⟩
  have C2 := lcnt_any s a ha hs
  rw [hR] at C2 ⊢
  clear hR
  obtain ⟨wo, er, pl⟩ := R
  go_enter Tryz.func43, Tryz.ntmps43
  go_wp2_with fail
  refine (C _).mono ?_
  rintro e1 w1 ⟨rfl, rfl⟩
  clear C
  go_wp2_with fail
  refine (C2 _).mono ?_
  rintro e2 w2 ⟨rfl, hb2⟩
  have o2 := o0.call hb2
  have HB2 := Lib.hid (below_then HB0.out hb2)
  obtain ⟨c2, f2⟩ := o2.facts
  clear hb2 C2 o0 HB0
  go_wp2
  refine bodyPost_ret (v := wansV ⟨wo, er, pl⟩) ?_ rfl ⟨rfl, ?_⟩
  refine results_cell3 rfl rfl (load_slab (t := 74) (cs := wdCells wo) ?_ 74 Tryz.underlying74 rfl (by kernel_rfl)) rfl rfl
  · exact slab_setCells (vs := wdCells wo) o2 rfl
  · have hb := HB2.out
    (repeat' (first | (with_reducible exact Below.refl _ _) | (with_reducible assumption) | (with_reducible refine Below.alloc ?_ ?_ _) | (with_reducible refine Below.drew ?_) | (with_reducible refine below_set ?_ ?_ _) | (with_reducible refine below_call ?_ ?_ (by assumption)) | (with_reducible exact Below.size (by assumption)) | omega | go_size))
set_option maxRecDepth 100000 in
set_option maxHeartbeats 2000000 in
theorem nx_brk (s : ByteArray) (a : Nat) (ha : a < s.size) (hs : s.size ≤ 4611686018427380000) (hV : lofV s[a] = ifV 120 #[]) (w : World) : Calls Tryz.prog 43 #[.string s, .int .i64 (a : Int)] w (RetW (brkA a (readB s a)) w) := by
  have C := of5_any s[a]
  rw [hV] at C
  clear hV
  have d0 : decide ((a : Int) < 0) = false := by simp
  have d1 : decide (s.size ≤ a) = false := by simpa using ha
  have o0 : Slab (w.alloc (.cells #[.int .i64 0, .int .i64 0, .int .i64 0, .int .u64 0, .int .u64 0, .int .u64 0, .int .u64 0, .int .i64 0, .int .i64 0] 74)) w.heap.size #[.int .i64 0, .int .i64 0, .int .i64 0, .int .u64 0, .int .u64 0, .int .u64 0, .int .u64 0, .int .i64 0, .int .i64 0] 74 := Slab.new _ _ _
  have HB0 := Lib.hid ((Below.refl w.heap.size w).alloc (Nat.le_refl _) (.cells #[.int .i64 0, .int .i64 0, .int .i64 0, .int .u64 0, .int .u64 0, .int .u64 0, .int .u64 0, .int .i64 0, .int .i64 0] 74))
  obtain ⟨R, hR⟩ : ∃ R, brkA a (readB s a) = R := ⟨_, rfl⟩
  have C2 := lbrk_any s a ha hs
  rw [hR] at C2 ⊢
  clear hR
  obtain ⟨wo, er, pl⟩ := R
  go_enter Tryz.func43, Tryz.ntmps43
  go_wp2_with fail
  refine (C _).mono ?_
  rintro e1 w1 ⟨rfl, rfl⟩
  clear C
  go_wp2_with fail
  refine (C2 _).mono ?_
  rintro e2 w2 ⟨rfl, hb2⟩
  have o2 := o0.call hb2
  have HB2 := Lib.hid (below_then HB0.out hb2)
  obtain ⟨c2, f2⟩ := o2.facts
  clear hb2 C2 o0 HB0
  go_wp2
  refine bodyPost_ret (v := wansV ⟨wo, er, pl⟩) ?_ rfl ⟨rfl, ?_⟩
  refine results_cell3 rfl rfl (load_slab (t := 74) (cs := wdCells wo) ?_ 74 Tryz.underlying74 rfl (by kernel_rfl)) rfl rfl
  · exact slab_setCells (vs := wdCells wo) o2 rfl
  · have hb := HB2.out
    (repeat' (first | (with_reducible exact Below.refl _ _) | (with_reducible assumption) | (with_reducible refine Below.alloc ?_ ?_ _) | (with_reducible refine Below.drew ?_) | (with_reducible refine below_set ?_ ?_ _) | (with_reducible refine below_call ?_ ?_ (by assumption)) | (with_reducible exact Below.size (by assumption)) | omega | go_size))
set_option maxRecDepth 100000 in
set_option maxHeartbeats 2000000 in
theorem nx_any (s : ByteArray) (a : Nat) (ha : a < s.size) (hs : s.size ≤ 4611686018427380000) (hV : lofV s[a] = ifV 121 #[]) (w : World) : Calls Tryz.prog 43 #[.string s, .int .i64 (a : Int)] w (RetW (oneA (rangeF 0 255) a (a + 1)) w) := by
  have C := of5_any s[a]
  rw [hV] at C
  clear hV
  have d0 : decide ((a : Int) < 0) = false := by simp
  have d1 : decide (s.size ≤ a) = false := by simpa using ha
  have o0 : Slab (w.alloc (.cells #[.int .i64 0, .int .i64 0, .int .i64 0, .int .u64 0, .int .u64 0, .int .u64 0, .int .u64 0, .int .i64 0, .int .i64 0] 74)) w.heap.size #[.int .i64 0, .int .i64 0, .int .i64 0, .int .u64 0, .int .u64 0, .int .u64 0, .int .u64 0, .int .i64 0, .int .i64 0] 74 := Slab.new _ _ _
  have HB0 := Lib.hid ((Below.refl w.heap.size w).alloc (Nat.le_refl _) (.cells #[.int .i64 0, .int .i64 0, .int .i64 0, .int .u64 0, .int .u64 0, .int .u64 0, .int .u64 0, .int .i64 0, .int .i64 0] 74))
  obtain ⟨R, hR⟩ : ∃ R, oneA (rangeF 0 255) a (a + 1) = R := ⟨_, rfl⟩
  have C2 := any_any s a ha hs
  rw [hR] at C2 ⊢
  clear hR
  obtain ⟨wo, er, pl⟩ := R
  go_enter Tryz.func43, Tryz.ntmps43
  go_wp2_with fail
  refine (C _).mono ?_
  rintro e1 w1 ⟨rfl, rfl⟩
  clear C
  go_wp2_with fail
  refine (C2 _).mono ?_
  rintro e2 w2 ⟨rfl, hb2⟩
  have o2 := o0.call hb2
  have HB2 := Lib.hid (below_then HB0.out hb2)
  obtain ⟨c2, f2⟩ := o2.facts
  clear hb2 C2 o0 HB0
  go_wp2
  refine bodyPost_ret (v := wansV ⟨wo, er, pl⟩) ?_ rfl ⟨rfl, ?_⟩
  refine results_cell3 rfl rfl (load_slab (t := 74) (cs := wdCells wo) ?_ 74 Tryz.underlying74 rfl (by kernel_rfl)) rfl rfl
  · exact slab_setCells (vs := wdCells wo) o2 rfl
  · have hb := HB2.out
    (repeat' (first | (with_reducible exact Below.refl _ _) | (with_reducible assumption) | (with_reducible refine Below.alloc ?_ ?_ _) | (with_reducible refine Below.drew ?_) | (with_reducible refine below_set ?_ ?_ _) | (with_reducible refine below_call ?_ ?_ (by assumption)) | (with_reducible exact Below.size (by assumption)) | omega | go_size))
set_option maxRecDepth 100000 in
set_option maxHeartbeats 2000000 in
theorem nx_esc (s : ByteArray) (a : Nat) (ha : a < s.size) (hs : s.size ≤ 4611686018427380000) (hV : lofV s[a] = ifV 122 #[]) (w : World) : Calls Tryz.prog 43 #[.string s, .int .i64 (a : Int)] w (RetW (escA s a) w) := by
  have C := of5_any s[a]
  rw [hV] at C
  clear hV
  have d0 : decide ((a : Int) < 0) = false := by simp
  have d1 : decide (s.size ≤ a) = false := by simpa using ha
  have o0 : Slab (w.alloc (.cells #[.int .i64 0, .int .i64 0, .int .i64 0, .int .u64 0, .int .u64 0, .int .u64 0, .int .u64 0, .int .i64 0, .int .i64 0] 74)) w.heap.size #[.int .i64 0, .int .i64 0, .int .i64 0, .int .u64 0, .int .u64 0, .int .u64 0, .int .u64 0, .int .i64 0, .int .i64 0] 74 := Slab.new _ _ _
  have HB0 := Lib.hid ((Below.refl w.heap.size w).alloc (Nat.le_refl _) (.cells #[.int .i64 0, .int .i64 0, .int .i64 0, .int .u64 0, .int .u64 0, .int .u64 0, .int .u64 0, .int .i64 0, .int .i64 0] 74))
  obtain ⟨R, hR⟩ : ∃ R, escA s a = R := ⟨_, rfl⟩
  have C2 := lesc_any s a ha hs
  rw [hR] at C2 ⊢
  clear hR
  obtain ⟨wo, er, pl⟩ := R
  go_enter Tryz.func43, Tryz.ntmps43
  go_wp2_with fail
  refine (C _).mono ?_
  rintro e1 w1 ⟨rfl, rfl⟩
  clear C
  go_wp2_with fail
  refine (C2 _).mono ?_
  rintro e2 w2 ⟨rfl, hb2⟩
  have o2 := o0.call hb2
  have HB2 := Lib.hid (below_then HB0.out hb2)
  obtain ⟨c2, f2⟩ := o2.facts
  clear hb2 C2 o0 HB0
  go_wp2
  refine bodyPost_ret (v := wansV ⟨wo, er, pl⟩) ?_ rfl ⟨rfl, ?_⟩
  refine results_cell3 rfl rfl (load_slab (t := 74) (cs := wdCells wo) ?_ 74 Tryz.underlying74 rfl (by kernel_rfl)) rfl rfl
  · exact slab_setCells (vs := wdCells wo) o2 rfl
  · have hb := HB2.out
    (repeat' (first | (with_reducible exact Below.refl _ _) | (with_reducible assumption) | (with_reducible refine Below.alloc ?_ ?_ _) | (with_reducible refine Below.drew ?_) | (with_reducible refine below_set ?_ ?_ _) | (with_reducible refine below_call ?_ ?_ (by assumption)) | (with_reducible exact Below.size (by assumption)) | omega | go_size))
set_option maxRecDepth 100000 in
set_option maxHeartbeats 2000000 in
theorem nx_never (s : ByteArray) (a : Nat) (ha : a < s.size) (hs : s.size ≤ 4611686018427380000) (hV : lofV s[a] = ifV 123 #[]) (w : World) : Calls Tryz.prog 43 #[.string s, .int .i64 (a : Int)] w (RetW (badA 3 (a + 1)) w) := by
  have C := of5_any s[a]
  rw [hV] at C
  clear hV
  have d0 : decide ((a : Int) < 0) = false := by simp
  have d1 : decide (s.size ≤ a) = false := by simpa using ha
  have o0 : Slab (w.alloc (.cells #[.int .i64 0, .int .i64 0, .int .i64 0, .int .u64 0, .int .u64 0, .int .u64 0, .int .u64 0, .int .i64 0, .int .i64 0] 74)) w.heap.size #[.int .i64 0, .int .i64 0, .int .i64 0, .int .u64 0, .int .u64 0, .int .u64 0, .int .u64 0, .int .i64 0, .int .i64 0] 74 := Slab.new _ _ _
  have HB0 := Lib.hid ((Below.refl w.heap.size w).alloc (Nat.le_refl _) (.cells #[.int .i64 0, .int .i64 0, .int .i64 0, .int .u64 0, .int .u64 0, .int .u64 0, .int .u64 0, .int .i64 0, .int .i64 0] 74))
  obtain ⟨R, hR⟩ : ∃ R, badA 3 (a + 1) = R := ⟨_, rfl⟩
  have C2 := never_any s a ha hs
  rw [hR] at C2 ⊢
  clear hR
  obtain ⟨wo, er, pl⟩ := R
  go_enter Tryz.func43, Tryz.ntmps43
  go_wp2_with fail
  refine (C _).mono ?_
  rintro e1 w1 ⟨rfl, rfl⟩
  clear C
  go_wp2_with fail
  refine (C2 _).mono ?_
  rintro e2 w2 ⟨rfl, hb2⟩
  have o2 := o0.call hb2
  have HB2 := Lib.hid (below_then HB0.out hb2)
  obtain ⟨c2, f2⟩ := o2.facts
  clear hb2 C2 o0 HB0
  go_wp2
  refine bodyPost_ret (v := wansV ⟨wo, er, pl⟩) ?_ rfl ⟨rfl, ?_⟩
  refine results_cell3 rfl rfl (load_slab (t := 74) (cs := wdCells wo) ?_ 74 Tryz.underlying74 rfl (by kernel_rfl)) rfl rfl
  · exact slab_setCells (vs := wdCells wo) o2 rfl
  · have hb := HB2.out
    (repeat' (first | (with_reducible exact Below.refl _ _) | (with_reducible assumption) | (with_reducible refine Below.alloc ?_ ?_ _) | (with_reducible refine Below.drew ?_) | (with_reducible refine below_set ?_ ?_ _) | (with_reducible refine below_call ?_ ?_ (by assumption)) | (with_reducible exact Below.size (by assumption)) | omega | go_size))
set_option maxRecDepth 100000 in
set_option maxHeartbeats 2000000 in
theorem nx_plain (s : ByteArray) (a : Nat) (ha : a < s.size) (hs : s.size ≤ 4611686018427380000) (hV : lofV s[a] = ifV 124 #[]) (w : World) : Calls Tryz.prog 43 #[.string s, .int .i64 (a : Int)] w (RetW (oneA (addB noSet (bt s a).toNat) a (a + 1)) w) := by
  have C := of5_any s[a]
  rw [hV] at C
  clear hV
  have d0 : decide ((a : Int) < 0) = false := by simp
  have d1 : decide (s.size ≤ a) = false := by simpa using ha
  have o0 : Slab (w.alloc (.cells #[.int .i64 0, .int .i64 0, .int .i64 0, .int .u64 0, .int .u64 0, .int .u64 0, .int .u64 0, .int .i64 0, .int .i64 0] 74)) w.heap.size #[.int .i64 0, .int .i64 0, .int .i64 0, .int .u64 0, .int .u64 0, .int .u64 0, .int .u64 0, .int .i64 0, .int .i64 0] 74 := Slab.new _ _ _
  have HB0 := Lib.hid ((Below.refl w.heap.size w).alloc (Nat.le_refl _) (.cells #[.int .i64 0, .int .i64 0, .int .i64 0, .int .u64 0, .int .u64 0, .int .u64 0, .int .u64 0, .int .i64 0, .int .i64 0] 74))
  obtain ⟨R, hR⟩ : ∃ R, oneA (addB noSet (bt s a).toNat) a (a + 1) = R := ⟨_, rfl⟩
  have C2 := plain_any s a ha hs
  rw [hR] at C2 ⊢
  clear hR
  obtain ⟨wo, er, pl⟩ := R
  go_enter Tryz.func43, Tryz.ntmps43
  go_wp2_with fail
  refine (C _).mono ?_
  rintro e1 w1 ⟨rfl, rfl⟩
  clear C
  go_wp2_with fail
  refine (C2 _).mono ?_
  rintro e2 w2 ⟨rfl, hb2⟩
  have o2 := o0.call hb2
  have HB2 := Lib.hid (below_then HB0.out hb2)
  obtain ⟨c2, f2⟩ := o2.facts
  clear hb2 C2 o0 HB0
  go_wp2
  refine bodyPost_ret (v := wansV ⟨wo, er, pl⟩) ?_ rfl ⟨rfl, ?_⟩
  refine results_cell3 rfl rfl (load_slab (t := 74) (cs := wdCells wo) ?_ 74 Tryz.underlying74 rfl (by kernel_rfl)) rfl rfl
  · exact slab_setCells (vs := wdCells wo) o2 rfl
  · have hb := HB2.out
    (repeat' (first | (with_reducible exact Below.refl _ _) | (with_reducible assumption) | (with_reducible refine Below.alloc ?_ ?_ _) | (with_reducible refine Below.drew ?_) | (with_reducible refine below_set ?_ ?_ _) | (with_reducible refine below_call ?_ ?_ (by assumption)) | (with_reducible exact Below.size (by assumption)) | omega | go_size))
set_option maxRecDepth 100000 in
set_option maxHeartbeats 2000000 in
theorem lnext_any (s : ByteArray) (a : Int) (hs : s.size ≤ 4611686018427380000) (w : World) :
    Calls Tryz.prog 43 #[.string s, .int .i64 a] w (RetW (nextW s a) w) := by
  by_cases h0 : a < 0
  · rw [nextW_out (.inl h0)]
    have d0 : decide (a < 0) = true := by simpa using h0
    clear h0
    go_enter Tryz.func43, Tryz.ntmps43
    go_wp2
    refine bodyPost_ret (v := wansV (badA 1 0)) ?_ rfl ⟨rfl, ?_⟩
    refine results_cell3 rfl rfl (load_slab (t := 74) (cs := wdCells wd0) ?_ 74 Tryz.underlying74 rfl (by kernel_rfl)) rfl rfl
    · exact slab_z9 (by first | exact Slab.new _ _ _ | exact slab_setCells (vs := #[.int .i64 0, .int .i64 0, .int .i64 0, .int .u64 0, .int .u64 0, .int .u64 0, .int .u64 0, .int .i64 0, .int .i64 0]) (Slab.new _ _ _) rfl)
    · (repeat' (first | (with_reducible exact Below.refl _ _) | (with_reducible assumption) | (with_reducible refine Below.alloc ?_ ?_ _) | (with_reducible refine Below.drew ?_) | (with_reducible refine below_set ?_ ?_ _) | (with_reducible refine below_call ?_ ?_ (by assumption)) | (with_reducible exact Below.size (by assumption)) | omega | go_size))
  obtain ⟨a, rfl⟩ := Int.eq_ofNat_of_zero_le (show 0 ≤ a by omega)
  by_cases h1 : s.size ≤ a
  · rw [nextW_out (.inr (by omega))]
    have d0 : decide ((a : Int) < 0) = false := by simp
    have d1 : decide (s.size ≤ a) = true := by simpa using h1
    clear h0 h1
    go_enter Tryz.func43, Tryz.ntmps43
    go_wp2
    refine bodyPost_ret (v := wansV (badA 1 0)) ?_ rfl ⟨rfl, ?_⟩
    refine results_cell3 rfl rfl (load_slab (t := 74) (cs := wdCells wd0) ?_ 74 Tryz.underlying74 rfl (by kernel_rfl)) rfl rfl
    · exact slab_z9 (by first | exact Slab.new _ _ _ | exact slab_setCells (vs := #[.int .i64 0, .int .i64 0, .int .i64 0, .int .u64 0, .int .u64 0, .int .u64 0, .int .u64 0, .int .i64 0, .int .i64 0]) (Slab.new _ _ _) rfl)
    · (repeat' (first | (with_reducible exact Below.refl _ _) | (with_reducible assumption) | (with_reducible refine Below.alloc ?_ ?_ _) | (with_reducible refine Below.drew ?_) | (with_reducible refine below_set ?_ ?_ _) | (with_reducible refine below_call ?_ ?_ (by assumption)) | (with_reducible exact Below.size (by assumption)) | omega | go_size))
  have ha : a < s.size := by omega
  rw [nextW_in ha]
  have hb := bt_at s a ha
  cases c1 : (bt s a == 40) with
  | true =>
    have e : wordB s a (bt s a) = signA 2 a := by unfold wordB; rw [if_pos c1]
    rw [e]; exact nx_sign 2 s a ha hs (by rw [← hb]; unfold lofV; rw [if_pos c1]) w
  | false =>
  cases c2 : (bt s a == 41) with
  | true =>
    have e : wordB s a (bt s a) = signA 3 a := by unfold wordB; rw [if_neg (by rw [c1]; simp), if_pos c2]
    rw [e]; exact nx_sign 3 s a ha hs (by rw [← hb]; unfold lofV; rw [if_neg (by rw [c1]; simp), if_pos c2]) w
  | false =>
  cases c3 : (bt s a == 124) with
  | true =>
    have e : wordB s a (bt s a) = signA 4 a := by unfold wordB; rw [if_neg (by rw [c1]; simp), if_neg (by rw [c2]; simp), if_pos c3]
    rw [e]; exact nx_sign 4 s a ha hs (by rw [← hb]; unfold lofV; rw [if_neg (by rw [c1]; simp), if_neg (by rw [c2]; simp), if_pos c3]) w
  | false =>
  cases c4 : isCnt (bt s a) with
  | true =>
    have e : wordB s a (bt s a) = cntA a (BraceP.readF s.data.toList a) := by unfold wordB; rw [if_neg (by rw [c1]; simp), if_neg (by rw [c2]; simp), if_neg (by rw [c3]; simp), if_pos c4]
    rw [e]; exact nx_cnt s a ha hs (by rw [← hb]; unfold lofV; rw [if_neg (by rw [c1]; simp), if_neg (by rw [c2]; simp), if_neg (by rw [c3]; simp), if_pos c4]) w
  | false =>
  have n1 : ¬ (bt s a == 40) = true := by rw [c1]; simp
  have n2 : ¬ (bt s a == 41) = true := by rw [c2]; simp
  have n3 : ¬ (bt s a == 124) = true := by rw [c3]; simp
  have n4 : ¬ isCnt (bt s a) = true := by rw [c4]; simp
  by_cases n5 : (bt s a == 91) = true
  · have e : wordB s a (bt s a) = brkA a (readB s a) := by unfold wordB; rw [if_neg n1, if_neg n2, if_neg n3, if_neg n4, if_pos n5]
    rw [e]; exact nx_brk s a ha hs (by rw [← hb]; unfold lofV; rw [if_neg n1, if_neg n2, if_neg n3, if_neg n4, if_pos n5]) w
  by_cases n6 : (bt s a == 46) = true
  · have e : wordB s a (bt s a) = oneA (rangeF 0 255) a (a + 1) := by unfold wordB; rw [if_neg n1, if_neg n2, if_neg n3, if_neg n4, if_neg n5, if_pos n6]
    rw [e]; exact nx_any s a ha hs (by rw [← hb]; unfold lofV; rw [if_neg n1, if_neg n2, if_neg n3, if_neg n4, if_neg n5, if_pos n6]) w
  by_cases n7 : (bt s a == 92) = true
  · have e : wordB s a (bt s a) = escA s a := by unfold wordB; rw [if_neg n1, if_neg n2, if_neg n3, if_neg n4, if_neg n5, if_neg n6, if_pos n7]
    rw [e]; exact nx_esc s a ha hs (by rw [← hb]; unfold lofV; rw [if_neg n1, if_neg n2, if_neg n3, if_neg n4, if_neg n5, if_neg n6, if_pos n7]) w
  by_cases n8 : (bt s a == 94 || bt s a == 36) = true
  · have e : wordB s a (bt s a) = badA 3 (a + 1) := by unfold wordB; rw [if_neg n1, if_neg n2, if_neg n3, if_neg n4, if_neg n5, if_neg n6, if_neg n7, if_pos n8]
    rw [e]; exact nx_never s a ha hs (by rw [← hb]; unfold lofV; rw [if_neg n1, if_neg n2, if_neg n3, if_neg n4, if_neg n5, if_neg n6, if_neg n7, if_pos n8]) w
  · have e : wordB s a (bt s a) = oneA (addB noSet (bt s a).toNat) a (a + 1) := by unfold wordB; rw [if_neg n1, if_neg n2, if_neg n3, if_neg n4, if_neg n5, if_neg n6, if_neg n7, if_neg n8]
    rw [e]; exact nx_plain s a ha hs (by rw [← hb]; unfold lofV; rw [if_neg n1, if_neg n2, if_neg n3, if_neg n4, if_neg n5, if_neg n6, if_neg n7, if_neg n8]) w
end Go.Proofs.YtfcgmgpcbenfpaaGreat
