/- LexBytes, walked. -/
import Derived.Test.YtddokdjlmdoebaaProg
import Derived.WalkKit
import Derived.WalkSpells
import Derived.WalkLawsBesides
import Derived.Handy
import Derived.Lib.Hide
import Derived.Test.YtddokdjlmdoebaaLaw5
import Derived.Test.YtddokdjlmdoebaaLexQ
import Derived.Deep.QuietTactic
import Derived.BigQuiet
namespace Go.Proofs.Ytddokdjlmdoebaa
open Go.RowKit SetP BrkP LexP
abbrev oneF (b : UInt8) : Nat → Bool := addB noSet b.toNat
theorem oneF_iff (b : UInt8) (x : Nat) : oneF b x = true ↔ x = b.toNat := by unfold oneF addB noSet; simp
theorem text_one (b : UInt8) : textW (oneF b) = byteT b := by
  have hb := b.toNat_lt
  have h1 : (bytesF (oneF b)).length = 1 := one_count (by omega) (fun x _ => oneF_iff b x)
  obtain ⟨c, hc, hn, hf⟩ := count_one h1
  have hcb : c = b.toNat := (oneF_iff b c).1 ((hf c hc).2 rfl)
  unfold textW
  rw [if_neg (by omega), if_pos h1, hn, hcb]
  congr 1
  have := chB_nat (z := (b.toNat : Int)) (by omega) (by omega)
  exact UInt8.toNat_inj.1 (by omega)
theorem next_text (b : UInt8) : nextW (strB (byteT b)) 0 = oneA (oneF b) 0 ((byteT b).length : Int) := by
  have h := read_byteT ⟨#[]⟩ b
  have e : (⟨#[]⟩ : ByteArray) ++ ⟨(byteT b).toArray⟩ = ⟨(byteT b).toArray⟩ := by refine bytes_ext ?_; simp [ByteArray.data_append]
  rw [e] at h
  have h' : nextW (strB (byteT b)) 0 = oneA (oneF b) 0 (((0 : Nat) + (byteT b).length : Nat) : Int) := h
  rw [h', Nat.zero_add]
theorem next_self {b : UInt8} (h : plainB b = true) : nextW ⟨#[b]⟩ 0 = oneA (oneF b) 0 1 := by
  rw [show (0 : Int) = ((0 : Nat) : Int) from rfl, nextW_in (by show 0 < 1; decide), show bt ⟨#[b]⟩ 0 = b from rfl, wordB_plain h]; rfl
def noneB (b : UInt8) (r : WAns) : Bool := r.err != 0 || (r.word.kind != 1 || !same r.word.set (oneF b))
theorem next_none (b : UInt8) : (plainB b || noneB b (nextW ⟨#[b]⟩ 0)) = true :=
  all_bytes (p := fun b => plainB b || noneB b (nextW ⟨#[b]⟩ 0)) (by decide +kernel) b
theorem len_plain (b : UInt8) : ((byteT b).length == 1) = plainB b := by
  have h1 := plain_of b
  have h2 := plain_not b
  unfold byteT
  generalize (escB b && !(b == 93 || b == 125)) = x at *
  cases x <;> cases hp : plainB b <;> simp_all
theorem wd_one (b : UInt8) (i : Nat) (h : b.toNat / 64 = i) : wd (oneF b) i = IntKind.u64.wrap (2 ^ (b.toNat % 64)) := by
  have h1 := shl_wd (b.toNat : Int) i (by omega)
  have e : ((2 : Int) ^ (((b.toNat : Int)) % 64).toNat) = 2 ^ (b.toNat % 64) := by congr 1
  rw [e] at h1
  rw [h1]
  apply wd_ext
  intro j hj
  unfold oneF addB noSet
  rw [Bool.eq_iff_iff]
  simp
  omega
theorem wd_none (b : UInt8) (i : Nat) (h : b.toNat / 64 ≠ i) : wd (oneF b) i = 0 := by
  have := wd_add_other noSet b.toNat i h
  unfold oneF
  rw [this, wd_zero]
set_option maxRecDepth 100000 in
theorem eq_same (w : World) (a b c d : Int) : (Op.equalIn 10000 41 (.agg #[.int .u64 a, .int .u64 b, .int .u64 c, .int .u64 d]) (.agg #[.int .u64 a, .int .u64 b, .int .u64 c, .int .u64 d])).run Try.prog w = .ok true w := by
  rw [run_eq4]; simp
theorem len2 (b : UInt8) : 1 ≤ (byteT b).length ∧ (byteT b).length ≤ 2 := by unfold byteT; split <;> simp
set_option maxRecDepth 100000 in
set_option maxHeartbeats 2000000 in
theorem bytes5_0 (b : UInt8) (h : b.toNat / 64 = 0) (w : World) : Calls Try.prog 12 #[.int .u8 (b.toNat : Int)] w fun e w' => e = .returned (.bool true) ∧ Below w.heap.size w w' := by
  have hb := b.toNat_lt
  have hi : ((b.toNat : Int) / 64).toNat = 0 := by omega
  obtain ⟨y, hy⟩ : ∃ y : Int, IntKind.u64.wrap (2 ^ (b.toNat % 64)) = y := ⟨_, rfl⟩
  have hz0 := wd_one b 0 h
  rw [hy] at hz0
  have hz1 := wd_none b 1 (by omega); have hz2 := wd_none b 2 (by omega); have hz3 := wd_none b 3 (by omega)
  have C1 := ltext_any (oneF b)
  rw [text_one] at C1
  have C2 := lnext_any (strB (byteT b)) 0 (by have := len2 b; rw [strB_size]; omega)
  rw [next_text] at C2
  unfold RetW at C2
  have hcells : ∀ (k a e n m : Int), wdCells ⟨k, a, e, oneF b, n, m⟩ = #[.int .i64 k, .int .i64 a, .int .i64 e, .int .u64 y, .int .u64 0, .int .u64 0, .int .u64 0, .int .i64 n, .int .i64 m] := by
    intro k a e n m
    unfold wdCells
    simp only
    rw [hz0, hz1, hz2, hz3]
  have hans : ∀ e : Int, wansV (oneA (oneF b) 0 e) = .tuple #[.agg #[.int .i64 1, .int .i64 0, .int .i64 e, .int .u64 y, .int .u64 0, .int .u64 0, .int .u64 0, .int .i64 0, .int .i64 0], .int .i64 0, .int .i64 0] := by
    intro e
    show Value.tuple #[.agg (wdCells ⟨1, 0, e, oneF b, 0, 0⟩), _, _] = _
    rw [hcells]; rfl
  rw [hans] at C2
  have hset : setV (oneF b) = .agg #[.int .u64 y, .int .u64 0, .int .u64 0, .int .u64 0] := by unfold setV; rw [hz0, hz1, hz2, hz3]
  rw [hset] at C1
  obtain ⟨T, hT⟩ : ∃ T, strB (byteT b) = T := ⟨_, rfl⟩
  have hTz : (byteT b).length = T.size := by rw [← hT, strB_size]
  have hl2 := len2 b
  have hlp := len_plain b
  rw [hTz] at C2 hl2 hlp
  rw [hT] at C1 C2
  have E := eq_same
  have HHANS := Lib.hid hans
  have HHSET := Lib.hid hset
  obtain ⟨T1, hT1⟩ : ∃ T1, (⟨[b].toArray⟩ : ByteArray) = T1 := ⟨_, rfl⟩
  have hT1z : T1.size ≤ 1 := by rw [← hT1]; simp [ByteArray.size]
  have HT1 := Lib.hid hT1
  have C3 := lnext_any T1 0 (by omega)
  have hnn := next_none b
  have hns := @next_self b
  rw [show (⟨#[b]⟩ : ByteArray) = T1 from hT1] at hnn hns
  have o0 : Slab (w.alloc (.cells #[.int .u64 y, .int .u64 0, .int .u64 0, .int .u64 0] 41)) w.heap.size #[.int .u64 y, .int .u64 0, .int .u64 0, .int .u64 0] 41 := Slab.new _ _ _
  have HB0 := Lib.hid ((Below.refl w.heap.size w).alloc (Nat.le_refl _) (.cells #[.int .u64 y, .int .u64 0, .int .u64 0, .int .u64 0] 41))
  have HNN := Lib.hid hnn
  have HNS := Lib.hid hns
  have HLP := Lib.hid hlp
  have h0 : (0 < (T.size : Int)) = True := by simp; omega
  clear hcells hans hset hz0 hz1 hz2 hz3 hT hTz hT1 hnn hns hlp h
  obtain ⟨c0, f0⟩ := o0.facts
  go_enter Try.func12, Try.ntmps12
  go_wp2_with fail
  refine (C1 _).mono ?_
  rintro e1 w1 ⟨rfl, hb1⟩
  have o1 := o0.call hb1
  have HB1 := Lib.hid (below_then HB0.out hb1)
  clear hb1 o0 HB0 c0 f0 C1
  go_wp2_with fail
  refine (C2 _).mono ?_
  rintro e2 w2 ⟨rfl, hb2⟩
  have hb2' := below_then HB1.out hb2
  have o2 := ((o1.call hb2).alloc (.cells #[.int .i64 1, .int .i64 0, .int .i64 (T.size : Int), .int .u64 y, .int .u64 0, .int .u64 0, .int .u64 0, .int .i64 0, .int .i64 0] 57)).alloc (.cells #[.int .u8 (b.toNat : Int)] 5)
  have p2 : Slab ((w2.alloc (.cells #[.int .i64 1, .int .i64 0, .int .i64 (T.size : Int), .int .u64 y, .int .u64 0, .int .u64 0, .int .u64 0, .int .i64 0, .int .i64 0] 57)).alloc (.cells #[.int .u8 (b.toNat : Int)] 5)) w2.heap.size #[.int .i64 1, .int .i64 0, .int .i64 (T.size : Int), .int .u64 y, .int .u64 0, .int .u64 0, .int .u64 0, .int .i64 0, .int .i64 0] 57 := (Slab.new _ _ _).alloc _
  have HB2 := Lib.hid ((hb2'.alloc hb2'.size (.cells #[.int .i64 1, .int .i64 0, .int .i64 (T.size : Int), .int .u64 y, .int .u64 0, .int .u64 0, .int .u64 0, .int .i64 0, .int .i64 0] 57)).alloc (hb2'.alloc hb2'.size (.cells #[.int .i64 1, .int .i64 0, .int .i64 (T.size : Int), .int .u64 y, .int .u64 0, .int .u64 0, .int .u64 0, .int .i64 0, .int .i64 0] 57)).size (.cells #[.int .u8 (b.toNat : Int)] 5))
  clear hb2 hb2' o1 HB1 C2
  go_wp2
  rw [conv_textX _ ⟨_, 0, none⟩ 1 _ [b] T1 HT1.out rfl ?_]
  rotate_left
  · intro j hj
    obtain rfl : j = 0 := by simpa using hj
    exact (Slab.cell (Slab.newAt _ _ _ (by simp)) 0).trans rfl
  cases hp : plainB b with
  | true =>
    have hn1 : T.size = 1 := by have := HLP.out; rw [hp] at this; simpa using this
    have hcs : ((T.size : Nat) : Int) = 1 := by omega
    rw [hcs] at o2 p2 HB2
    clear hcs
    rw [HNS.out hp] at C3
    unfold RetW at C3
    rw [HHANS.out] at C3
    clear hp
    go_wp2_with fail
    refine (C3 _).mono ?_
    rintro e3 w3 ⟨rfl, hb3⟩
    have hb3' := below_then HB2.out hb3
    have o3 := (o2.call hb3).alloc (.cells (#[.int .i64 1, .int .i64 0, .int .i64 1, .int .u64 y, .int .u64 0, .int .u64 0, .int .u64 0, .int .i64 0, .int .i64 0]) 57)
    have p3 := (p2.call hb3).alloc (.cells (#[.int .i64 1, .int .i64 0, .int .i64 1, .int .u64 y, .int .u64 0, .int .u64 0, .int .u64 0, .int .i64 0, .int .i64 0]) 57)
    have q3 : Slab (w3.alloc (.cells (#[.int .i64 1, .int .i64 0, .int .i64 1, .int .u64 y, .int .u64 0, .int .u64 0, .int .u64 0, .int .i64 0, .int .i64 0]) 57)) w3.heap.size (#[.int .i64 1, .int .i64 0, .int .i64 1, .int .u64 y, .int .u64 0, .int .u64 0, .int .u64 0, .int .i64 0, .int .i64 0]) 57 := Slab.new _ _ _
    have HB3 := Lib.hid (hb3'.alloc hb3'.size (.cells (#[.int .i64 1, .int .i64 0, .int .i64 1, .int .u64 y, .int .u64 0, .int .u64 0, .int .u64 0, .int .i64 0, .int .i64 0]) 57))
    clear hb3 hb3' o2 p2 HB2 C3
    obtain ⟨c1, f1⟩ := o3.facts
    obtain ⟨c2, f2⟩ := p3.facts
    obtain ⟨c3, f3⟩ := q3.facts
    clear o3 p3 q3
    go_wp2_with fail
    refine (sure5_any _).mono ?_
    rintro e9 w9 ⟨rfl, hb9⟩
    have HB9 := below_then HB3.out hb9
    go_wp2
    go_ret
    exact ⟨rfl, HB9⟩
  | false =>
    have hn2 : T.size = 2 := by have := HLP.out; rw [hp] at this; have : ¬ T.size = 1 := by simpa using this
                                omega
    have hcs : ((T.size : Nat) : Int) = 2 := by omega
    rw [hcs] at o2 p2 HB2
    clear hcs
    have hq := HNN.out
    rw [hp, Bool.false_or] at hq
    clear hp
    obtain ⟨r, hr⟩ : ∃ r, nextW T1 0 = r := ⟨_, rfl⟩
    rw [hr] at C3 hq
    clear hr
    obtain ⟨⟨kd, at_, st, g, n, m⟩, er, pl⟩ := r
    unfold noneB at hq
    simp only at hq
    cases h1 : (er == 0) with
    | false =>
      clear hq
      go_wp2_with fail
      refine (C3 _).mono ?_
      rintro e3 w3 ⟨rfl, hb3⟩
      have hb3' := below_then HB2.out hb3
      have o3 := (o2.call hb3).alloc (.cells (wdCells ⟨kd, at_, st, g, n, m⟩) 57)
      have p3 := (p2.call hb3).alloc (.cells (wdCells ⟨kd, at_, st, g, n, m⟩) 57)
      have q3 : Slab (w3.alloc (.cells (wdCells ⟨kd, at_, st, g, n, m⟩) 57)) w3.heap.size (wdCells ⟨kd, at_, st, g, n, m⟩) 57 := Slab.new _ _ _
      have HB3 := Lib.hid (hb3'.alloc hb3'.size (.cells (wdCells ⟨kd, at_, st, g, n, m⟩) 57))
      clear hb3 hb3' o2 p2 HB2 C3
      obtain ⟨c1, f1⟩ := o3.facts
      obtain ⟨c2, f2⟩ := p3.facts
      obtain ⟨c3, f3⟩ := q3.facts
      clear o3 p3 q3
      go_wp2_with fail
      refine (sure5_any _).mono ?_
      rintro e9 w9 ⟨rfl, hb9⟩
      have HB9 := below_then HB3.out hb9
      go_wp2
      go_ret
      exact ⟨rfl, HB9⟩
    | true =>
    have e1 : (er != 0) = false := by unfold bne; rw [h1]; rfl
    rw [e1, Bool.false_or] at hq
    clear e1
    cases h2 : (kd == 1) with
    | false =>
      clear hq
      go_wp2_with fail
      refine (C3 _).mono ?_
      rintro e3 w3 ⟨rfl, hb3⟩
      have hb3' := below_then HB2.out hb3
      have o3 := (o2.call hb3).alloc (.cells (wdCells ⟨kd, at_, st, g, n, m⟩) 57)
      have p3 := (p2.call hb3).alloc (.cells (wdCells ⟨kd, at_, st, g, n, m⟩) 57)
      have q3 : Slab (w3.alloc (.cells (wdCells ⟨kd, at_, st, g, n, m⟩) 57)) w3.heap.size (wdCells ⟨kd, at_, st, g, n, m⟩) 57 := Slab.new _ _ _
      have HB3 := Lib.hid (hb3'.alloc hb3'.size (.cells (wdCells ⟨kd, at_, st, g, n, m⟩) 57))
      clear hb3 hb3' o2 p2 HB2 C3
      obtain ⟨c1, f1⟩ := o3.facts
      obtain ⟨c2, f2⟩ := p3.facts
      obtain ⟨c3, f3⟩ := q3.facts
      clear o3 p3 q3
      go_wp2_with fail
      refine (sure5_any _).mono ?_
      rintro e9 w9 ⟨rfl, hb9⟩
      have HB9 := below_then HB3.out hb9
      go_wp2
      go_ret
      exact ⟨rfl, HB9⟩
    | true =>
      have e2 : (kd != 1) = false := by unfold bne; rw [h2]; rfl
      rw [e2, Bool.false_or] at hq
      have hs : same g (oneF b) = false := by simpa using hq
      have E2 := fun w => run_eq_set w g (oneF b)
      rw [HHSET.out, hs] at E2
      unfold setV at E2
      clear e2 hq hs
      go_wp2_with fail
      refine (C3 _).mono ?_
      rintro e3 w3 ⟨rfl, hb3⟩
      have hb3' := below_then HB2.out hb3
      have o3 := (o2.call hb3).alloc (.cells (wdCells ⟨kd, at_, st, g, n, m⟩) 57)
      have p3 := (p2.call hb3).alloc (.cells (wdCells ⟨kd, at_, st, g, n, m⟩) 57)
      have q3 : Slab (w3.alloc (.cells (wdCells ⟨kd, at_, st, g, n, m⟩) 57)) w3.heap.size (wdCells ⟨kd, at_, st, g, n, m⟩) 57 := Slab.new _ _ _
      have HB3 := Lib.hid (hb3'.alloc hb3'.size (.cells (wdCells ⟨kd, at_, st, g, n, m⟩) 57))
      clear hb3 hb3' o2 p2 HB2 C3
      obtain ⟨c1, f1⟩ := o3.facts
      obtain ⟨c2, f2⟩ := p3.facts
      obtain ⟨c3, f3⟩ := q3.facts
      clear o3 p3 q3
      go_wp2_with fail
      refine (sure5_any _).mono ?_
      rintro e9 w9 ⟨rfl, hb9⟩
      have HB9 := below_then HB3.out hb9
      go_wp2
      go_ret
      exact ⟨rfl, HB9⟩
set_option maxRecDepth 100000 in
set_option maxHeartbeats 2000000 in
theorem bytes5_1 (b : UInt8) (h : b.toNat / 64 = 1) (w : World) : Calls Try.prog 12 #[.int .u8 (b.toNat : Int)] w fun e w' => e = .returned (.bool true) ∧ Below w.heap.size w w' := by
  have hb := b.toNat_lt
  have hi : ((b.toNat : Int) / 64).toNat = 1 := by omega
  obtain ⟨y, hy⟩ : ∃ y : Int, IntKind.u64.wrap (2 ^ (b.toNat % 64)) = y := ⟨_, rfl⟩
  have hz1 := wd_one b 1 h
  rw [hy] at hz1
  have hz0 := wd_none b 0 (by omega); have hz2 := wd_none b 2 (by omega); have hz3 := wd_none b 3 (by omega)
  have C1 := ltext_any (oneF b)
  rw [text_one] at C1
  have C2 := lnext_any (strB (byteT b)) 0 (by have := len2 b; rw [strB_size]; omega)
  rw [next_text] at C2
  unfold RetW at C2
  have hcells : ∀ (k a e n m : Int), wdCells ⟨k, a, e, oneF b, n, m⟩ = #[.int .i64 k, .int .i64 a, .int .i64 e, .int .u64 0, .int .u64 y, .int .u64 0, .int .u64 0, .int .i64 n, .int .i64 m] := by
    intro k a e n m
    unfold wdCells
    simp only
    rw [hz0, hz1, hz2, hz3]
  have hans : ∀ e : Int, wansV (oneA (oneF b) 0 e) = .tuple #[.agg #[.int .i64 1, .int .i64 0, .int .i64 e, .int .u64 0, .int .u64 y, .int .u64 0, .int .u64 0, .int .i64 0, .int .i64 0], .int .i64 0, .int .i64 0] := by
    intro e
    show Value.tuple #[.agg (wdCells ⟨1, 0, e, oneF b, 0, 0⟩), _, _] = _
    rw [hcells]; rfl
  rw [hans] at C2
  have hset : setV (oneF b) = .agg #[.int .u64 0, .int .u64 y, .int .u64 0, .int .u64 0] := by unfold setV; rw [hz0, hz1, hz2, hz3]
  rw [hset] at C1
  obtain ⟨T, hT⟩ : ∃ T, strB (byteT b) = T := ⟨_, rfl⟩
  have hTz : (byteT b).length = T.size := by rw [← hT, strB_size]
  have hl2 := len2 b
  have hlp := len_plain b
  rw [hTz] at C2 hl2 hlp
  rw [hT] at C1 C2
  have E := eq_same
  have HHANS := Lib.hid hans
  have HHSET := Lib.hid hset
  obtain ⟨T1, hT1⟩ : ∃ T1, (⟨[b].toArray⟩ : ByteArray) = T1 := ⟨_, rfl⟩
  have hT1z : T1.size ≤ 1 := by rw [← hT1]; simp [ByteArray.size]
  have HT1 := Lib.hid hT1
  have C3 := lnext_any T1 0 (by omega)
  have hnn := next_none b
  have hns := @next_self b
  rw [show (⟨#[b]⟩ : ByteArray) = T1 from hT1] at hnn hns
  have o0 : Slab (w.alloc (.cells #[.int .u64 0, .int .u64 y, .int .u64 0, .int .u64 0] 41)) w.heap.size #[.int .u64 0, .int .u64 y, .int .u64 0, .int .u64 0] 41 := Slab.new _ _ _
  have HB0 := Lib.hid ((Below.refl w.heap.size w).alloc (Nat.le_refl _) (.cells #[.int .u64 0, .int .u64 y, .int .u64 0, .int .u64 0] 41))
  have HNN := Lib.hid hnn
  have HNS := Lib.hid hns
  have HLP := Lib.hid hlp
  have h0 : (0 < (T.size : Int)) = True := by simp; omega
  clear hcells hans hset hz0 hz1 hz2 hz3 hT hTz hT1 hnn hns hlp h
  obtain ⟨c0, f0⟩ := o0.facts
  go_enter Try.func12, Try.ntmps12
  go_wp2_with fail
  refine (C1 _).mono ?_
  rintro e1 w1 ⟨rfl, hb1⟩
  have o1 := o0.call hb1
  have HB1 := Lib.hid (below_then HB0.out hb1)
  clear hb1 o0 HB0 c0 f0 C1
  go_wp2_with fail
  refine (C2 _).mono ?_
  rintro e2 w2 ⟨rfl, hb2⟩
  have hb2' := below_then HB1.out hb2
  have o2 := ((o1.call hb2).alloc (.cells #[.int .i64 1, .int .i64 0, .int .i64 (T.size : Int), .int .u64 0, .int .u64 y, .int .u64 0, .int .u64 0, .int .i64 0, .int .i64 0] 57)).alloc (.cells #[.int .u8 (b.toNat : Int)] 5)
  have p2 : Slab ((w2.alloc (.cells #[.int .i64 1, .int .i64 0, .int .i64 (T.size : Int), .int .u64 0, .int .u64 y, .int .u64 0, .int .u64 0, .int .i64 0, .int .i64 0] 57)).alloc (.cells #[.int .u8 (b.toNat : Int)] 5)) w2.heap.size #[.int .i64 1, .int .i64 0, .int .i64 (T.size : Int), .int .u64 0, .int .u64 y, .int .u64 0, .int .u64 0, .int .i64 0, .int .i64 0] 57 := (Slab.new _ _ _).alloc _
  have HB2 := Lib.hid ((hb2'.alloc hb2'.size (.cells #[.int .i64 1, .int .i64 0, .int .i64 (T.size : Int), .int .u64 0, .int .u64 y, .int .u64 0, .int .u64 0, .int .i64 0, .int .i64 0] 57)).alloc (hb2'.alloc hb2'.size (.cells #[.int .i64 1, .int .i64 0, .int .i64 (T.size : Int), .int .u64 0, .int .u64 y, .int .u64 0, .int .u64 0, .int .i64 0, .int .i64 0] 57)).size (.cells #[.int .u8 (b.toNat : Int)] 5))
  clear hb2 hb2' o1 HB1 C2
  go_wp2
  rw [conv_textX _ ⟨_, 0, none⟩ 1 _ [b] T1 HT1.out rfl ?_]
  rotate_left
  · intro j hj
    obtain rfl : j = 0 := by simpa using hj
    exact (Slab.cell (Slab.newAt _ _ _ (by simp)) 0).trans rfl
  cases hp : plainB b with
  | true =>
    have hn1 : T.size = 1 := by have := HLP.out; rw [hp] at this; simpa using this
    have hcs : ((T.size : Nat) : Int) = 1 := by omega
    rw [hcs] at o2 p2 HB2
    clear hcs
    rw [HNS.out hp] at C3
    unfold RetW at C3
    rw [HHANS.out] at C3
    clear hp
    go_wp2_with fail
    refine (C3 _).mono ?_
    rintro e3 w3 ⟨rfl, hb3⟩
    have hb3' := below_then HB2.out hb3
    have o3 := (o2.call hb3).alloc (.cells (#[.int .i64 1, .int .i64 0, .int .i64 1, .int .u64 0, .int .u64 y, .int .u64 0, .int .u64 0, .int .i64 0, .int .i64 0]) 57)
    have p3 := (p2.call hb3).alloc (.cells (#[.int .i64 1, .int .i64 0, .int .i64 1, .int .u64 0, .int .u64 y, .int .u64 0, .int .u64 0, .int .i64 0, .int .i64 0]) 57)
    have q3 : Slab (w3.alloc (.cells (#[.int .i64 1, .int .i64 0, .int .i64 1, .int .u64 0, .int .u64 y, .int .u64 0, .int .u64 0, .int .i64 0, .int .i64 0]) 57)) w3.heap.size (#[.int .i64 1, .int .i64 0, .int .i64 1, .int .u64 0, .int .u64 y, .int .u64 0, .int .u64 0, .int .i64 0, .int .i64 0]) 57 := Slab.new _ _ _
    have HB3 := Lib.hid (hb3'.alloc hb3'.size (.cells (#[.int .i64 1, .int .i64 0, .int .i64 1, .int .u64 0, .int .u64 y, .int .u64 0, .int .u64 0, .int .i64 0, .int .i64 0]) 57))
    clear hb3 hb3' o2 p2 HB2 C3
    obtain ⟨c1, f1⟩ := o3.facts
    obtain ⟨c2, f2⟩ := p3.facts
    obtain ⟨c3, f3⟩ := q3.facts
    clear o3 p3 q3
    go_wp2_with fail
    refine (sure5_any _).mono ?_
    rintro e9 w9 ⟨rfl, hb9⟩
    have HB9 := below_then HB3.out hb9
    go_wp2
    go_ret
    exact ⟨rfl, HB9⟩
  | false =>
    have hn2 : T.size = 2 := by have := HLP.out; rw [hp] at this; have : ¬ T.size = 1 := by simpa using this
                                omega
    have hcs : ((T.size : Nat) : Int) = 2 := by omega
    rw [hcs] at o2 p2 HB2
    clear hcs
    have hq := HNN.out
    rw [hp, Bool.false_or] at hq
    clear hp
    obtain ⟨r, hr⟩ : ∃ r, nextW T1 0 = r := ⟨_, rfl⟩
    rw [hr] at C3 hq
    clear hr
    obtain ⟨⟨kd, at_, st, g, n, m⟩, er, pl⟩ := r
    unfold noneB at hq
    simp only at hq
    cases h1 : (er == 0) with
    | false =>
      clear hq
      go_wp2_with fail
      refine (C3 _).mono ?_
      rintro e3 w3 ⟨rfl, hb3⟩
      have hb3' := below_then HB2.out hb3
      have o3 := (o2.call hb3).alloc (.cells (wdCells ⟨kd, at_, st, g, n, m⟩) 57)
      have p3 := (p2.call hb3).alloc (.cells (wdCells ⟨kd, at_, st, g, n, m⟩) 57)
      have q3 : Slab (w3.alloc (.cells (wdCells ⟨kd, at_, st, g, n, m⟩) 57)) w3.heap.size (wdCells ⟨kd, at_, st, g, n, m⟩) 57 := Slab.new _ _ _
      have HB3 := Lib.hid (hb3'.alloc hb3'.size (.cells (wdCells ⟨kd, at_, st, g, n, m⟩) 57))
      clear hb3 hb3' o2 p2 HB2 C3
      obtain ⟨c1, f1⟩ := o3.facts
      obtain ⟨c2, f2⟩ := p3.facts
      obtain ⟨c3, f3⟩ := q3.facts
      clear o3 p3 q3
      go_wp2_with fail
      refine (sure5_any _).mono ?_
      rintro e9 w9 ⟨rfl, hb9⟩
      have HB9 := below_then HB3.out hb9
      go_wp2
      go_ret
      exact ⟨rfl, HB9⟩
    | true =>
    have e1 : (er != 0) = false := by unfold bne; rw [h1]; rfl
    rw [e1, Bool.false_or] at hq
    clear e1
    cases h2 : (kd == 1) with
    | false =>
      clear hq
      go_wp2_with fail
      refine (C3 _).mono ?_
      rintro e3 w3 ⟨rfl, hb3⟩
      have hb3' := below_then HB2.out hb3
      have o3 := (o2.call hb3).alloc (.cells (wdCells ⟨kd, at_, st, g, n, m⟩) 57)
      have p3 := (p2.call hb3).alloc (.cells (wdCells ⟨kd, at_, st, g, n, m⟩) 57)
      have q3 : Slab (w3.alloc (.cells (wdCells ⟨kd, at_, st, g, n, m⟩) 57)) w3.heap.size (wdCells ⟨kd, at_, st, g, n, m⟩) 57 := Slab.new _ _ _
      have HB3 := Lib.hid (hb3'.alloc hb3'.size (.cells (wdCells ⟨kd, at_, st, g, n, m⟩) 57))
      clear hb3 hb3' o2 p2 HB2 C3
      obtain ⟨c1, f1⟩ := o3.facts
      obtain ⟨c2, f2⟩ := p3.facts
      obtain ⟨c3, f3⟩ := q3.facts
      clear o3 p3 q3
      go_wp2_with fail
      refine (sure5_any _).mono ?_
      rintro e9 w9 ⟨rfl, hb9⟩
      have HB9 := below_then HB3.out hb9
      go_wp2
      go_ret
      exact ⟨rfl, HB9⟩
    | true =>
      have e2 : (kd != 1) = false := by unfold bne; rw [h2]; rfl
      rw [e2, Bool.false_or] at hq
      have hs : same g (oneF b) = false := by simpa using hq
      have E2 := fun w => run_eq_set w g (oneF b)
      rw [HHSET.out, hs] at E2
      unfold setV at E2
      clear e2 hq hs
      go_wp2_with fail
      refine (C3 _).mono ?_
      rintro e3 w3 ⟨rfl, hb3⟩
      have hb3' := below_then HB2.out hb3
      have o3 := (o2.call hb3).alloc (.cells (wdCells ⟨kd, at_, st, g, n, m⟩) 57)
      have p3 := (p2.call hb3).alloc (.cells (wdCells ⟨kd, at_, st, g, n, m⟩) 57)
      have q3 : Slab (w3.alloc (.cells (wdCells ⟨kd, at_, st, g, n, m⟩) 57)) w3.heap.size (wdCells ⟨kd, at_, st, g, n, m⟩) 57 := Slab.new _ _ _
      have HB3 := Lib.hid (hb3'.alloc hb3'.size (.cells (wdCells ⟨kd, at_, st, g, n, m⟩) 57))
      clear hb3 hb3' o2 p2 HB2 C3
      obtain ⟨c1, f1⟩ := o3.facts
      obtain ⟨c2, f2⟩ := p3.facts
      obtain ⟨c3, f3⟩ := q3.facts
      clear o3 p3 q3
      go_wp2_with fail
      refine (sure5_any _).mono ?_
      rintro e9 w9 ⟨rfl, hb9⟩
      have HB9 := below_then HB3.out hb9
      go_wp2
      go_ret
      exact ⟨rfl, HB9⟩
set_option maxRecDepth 100000 in
set_option maxHeartbeats 2000000 in
theorem bytes5_2 (b : UInt8) (h : b.toNat / 64 = 2) (w : World) : Calls Try.prog 12 #[.int .u8 (b.toNat : Int)] w fun e w' => e = .returned (.bool true) ∧ Below w.heap.size w w' := by
  have hb := b.toNat_lt
  have hi : ((b.toNat : Int) / 64).toNat = 2 := by omega
  obtain ⟨y, hy⟩ : ∃ y : Int, IntKind.u64.wrap (2 ^ (b.toNat % 64)) = y := ⟨_, rfl⟩
  have hz2 := wd_one b 2 h
  rw [hy] at hz2
  have hz0 := wd_none b 0 (by omega); have hz1 := wd_none b 1 (by omega); have hz3 := wd_none b 3 (by omega)
  have C1 := ltext_any (oneF b)
  rw [text_one] at C1
  have C2 := lnext_any (strB (byteT b)) 0 (by have := len2 b; rw [strB_size]; omega)
  rw [next_text] at C2
  unfold RetW at C2
  have hcells : ∀ (k a e n m : Int), wdCells ⟨k, a, e, oneF b, n, m⟩ = #[.int .i64 k, .int .i64 a, .int .i64 e, .int .u64 0, .int .u64 0, .int .u64 y, .int .u64 0, .int .i64 n, .int .i64 m] := by
    intro k a e n m
    unfold wdCells
    simp only
    rw [hz0, hz1, hz2, hz3]
  have hans : ∀ e : Int, wansV (oneA (oneF b) 0 e) = .tuple #[.agg #[.int .i64 1, .int .i64 0, .int .i64 e, .int .u64 0, .int .u64 0, .int .u64 y, .int .u64 0, .int .i64 0, .int .i64 0], .int .i64 0, .int .i64 0] := by
    intro e
    show Value.tuple #[.agg (wdCells ⟨1, 0, e, oneF b, 0, 0⟩), _, _] = _
    rw [hcells]; rfl
  rw [hans] at C2
  have hset : setV (oneF b) = .agg #[.int .u64 0, .int .u64 0, .int .u64 y, .int .u64 0] := by unfold setV; rw [hz0, hz1, hz2, hz3]
  rw [hset] at C1
  obtain ⟨T, hT⟩ : ∃ T, strB (byteT b) = T := ⟨_, rfl⟩
  have hTz : (byteT b).length = T.size := by rw [← hT, strB_size]
  have hl2 := len2 b
  have hlp := len_plain b
  rw [hTz] at C2 hl2 hlp
  rw [hT] at C1 C2
  have E := eq_same
  have HHANS := Lib.hid hans
  have HHSET := Lib.hid hset
  obtain ⟨T1, hT1⟩ : ∃ T1, (⟨[b].toArray⟩ : ByteArray) = T1 := ⟨_, rfl⟩
  have hT1z : T1.size ≤ 1 := by rw [← hT1]; simp [ByteArray.size]
  have HT1 := Lib.hid hT1
  have C3 := lnext_any T1 0 (by omega)
  have hnn := next_none b
  have hns := @next_self b
  rw [show (⟨#[b]⟩ : ByteArray) = T1 from hT1] at hnn hns
  have o0 : Slab (w.alloc (.cells #[.int .u64 0, .int .u64 0, .int .u64 y, .int .u64 0] 41)) w.heap.size #[.int .u64 0, .int .u64 0, .int .u64 y, .int .u64 0] 41 := Slab.new _ _ _
  have HB0 := Lib.hid ((Below.refl w.heap.size w).alloc (Nat.le_refl _) (.cells #[.int .u64 0, .int .u64 0, .int .u64 y, .int .u64 0] 41))
  have HNN := Lib.hid hnn
  have HNS := Lib.hid hns
  have HLP := Lib.hid hlp
  have h0 : (0 < (T.size : Int)) = True := by simp; omega
  clear hcells hans hset hz0 hz1 hz2 hz3 hT hTz hT1 hnn hns hlp h
  obtain ⟨c0, f0⟩ := o0.facts
  go_enter Try.func12, Try.ntmps12
  go_wp2_with fail
  refine (C1 _).mono ?_
  rintro e1 w1 ⟨rfl, hb1⟩
  have o1 := o0.call hb1
  have HB1 := Lib.hid (below_then HB0.out hb1)
  clear hb1 o0 HB0 c0 f0 C1
  go_wp2_with fail
  refine (C2 _).mono ?_
  rintro e2 w2 ⟨rfl, hb2⟩
  have hb2' := below_then HB1.out hb2
  have o2 := ((o1.call hb2).alloc (.cells #[.int .i64 1, .int .i64 0, .int .i64 (T.size : Int), .int .u64 0, .int .u64 0, .int .u64 y, .int .u64 0, .int .i64 0, .int .i64 0] 57)).alloc (.cells #[.int .u8 (b.toNat : Int)] 5)
  have p2 : Slab ((w2.alloc (.cells #[.int .i64 1, .int .i64 0, .int .i64 (T.size : Int), .int .u64 0, .int .u64 0, .int .u64 y, .int .u64 0, .int .i64 0, .int .i64 0] 57)).alloc (.cells #[.int .u8 (b.toNat : Int)] 5)) w2.heap.size #[.int .i64 1, .int .i64 0, .int .i64 (T.size : Int), .int .u64 0, .int .u64 0, .int .u64 y, .int .u64 0, .int .i64 0, .int .i64 0] 57 := (Slab.new _ _ _).alloc _
  have HB2 := Lib.hid ((hb2'.alloc hb2'.size (.cells #[.int .i64 1, .int .i64 0, .int .i64 (T.size : Int), .int .u64 0, .int .u64 0, .int .u64 y, .int .u64 0, .int .i64 0, .int .i64 0] 57)).alloc (hb2'.alloc hb2'.size (.cells #[.int .i64 1, .int .i64 0, .int .i64 (T.size : Int), .int .u64 0, .int .u64 0, .int .u64 y, .int .u64 0, .int .i64 0, .int .i64 0] 57)).size (.cells #[.int .u8 (b.toNat : Int)] 5))
  clear hb2 hb2' o1 HB1 C2
  go_wp2
  rw [conv_textX _ ⟨_, 0, none⟩ 1 _ [b] T1 HT1.out rfl ?_]
  rotate_left
  · intro j hj
    obtain rfl : j = 0 := by simpa using hj
    exact (Slab.cell (Slab.newAt _ _ _ (by simp)) 0).trans rfl
  cases hp : plainB b with
  | true =>
    have hn1 : T.size = 1 := by have := HLP.out; rw [hp] at this; simpa using this
    have hcs : ((T.size : Nat) : Int) = 1 := by omega
    rw [hcs] at o2 p2 HB2
    clear hcs
    rw [HNS.out hp] at C3
    unfold RetW at C3
    rw [HHANS.out] at C3
    clear hp
    go_wp2_with fail
    refine (C3 _).mono ?_
    rintro e3 w3 ⟨rfl, hb3⟩
    have hb3' := below_then HB2.out hb3
    have o3 := (o2.call hb3).alloc (.cells (#[.int .i64 1, .int .i64 0, .int .i64 1, .int .u64 0, .int .u64 0, .int .u64 y, .int .u64 0, .int .i64 0, .int .i64 0]) 57)
    have p3 := (p2.call hb3).alloc (.cells (#[.int .i64 1, .int .i64 0, .int .i64 1, .int .u64 0, .int .u64 0, .int .u64 y, .int .u64 0, .int .i64 0, .int .i64 0]) 57)
    have q3 : Slab (w3.alloc (.cells (#[.int .i64 1, .int .i64 0, .int .i64 1, .int .u64 0, .int .u64 0, .int .u64 y, .int .u64 0, .int .i64 0, .int .i64 0]) 57)) w3.heap.size (#[.int .i64 1, .int .i64 0, .int .i64 1, .int .u64 0, .int .u64 0, .int .u64 y, .int .u64 0, .int .i64 0, .int .i64 0]) 57 := Slab.new _ _ _
    have HB3 := Lib.hid (hb3'.alloc hb3'.size (.cells (#[.int .i64 1, .int .i64 0, .int .i64 1, .int .u64 0, .int .u64 0, .int .u64 y, .int .u64 0, .int .i64 0, .int .i64 0]) 57))
    clear hb3 hb3' o2 p2 HB2 C3
    obtain ⟨c1, f1⟩ := o3.facts
    obtain ⟨c2, f2⟩ := p3.facts
    obtain ⟨c3, f3⟩ := q3.facts
    clear o3 p3 q3
    go_wp2_with fail
    refine (sure5_any _).mono ?_
    rintro e9 w9 ⟨rfl, hb9⟩
    have HB9 := below_then HB3.out hb9
    go_wp2
    go_ret
    exact ⟨rfl, HB9⟩
  | false =>
    have hn2 : T.size = 2 := by have := HLP.out; rw [hp] at this; have : ¬ T.size = 1 := by simpa using this
                                omega
    have hcs : ((T.size : Nat) : Int) = 2 := by omega
    rw [hcs] at o2 p2 HB2
    clear hcs
    have hq := HNN.out
    rw [hp, Bool.false_or] at hq
    clear hp
    obtain ⟨r, hr⟩ : ∃ r, nextW T1 0 = r := ⟨_, rfl⟩
    rw [hr] at C3 hq
    clear hr
    obtain ⟨⟨kd, at_, st, g, n, m⟩, er, pl⟩ := r
    unfold noneB at hq
    simp only at hq
    cases h1 : (er == 0) with
    | false =>
      clear hq
      go_wp2_with fail
      refine (C3 _).mono ?_
      rintro e3 w3 ⟨rfl, hb3⟩
      have hb3' := below_then HB2.out hb3
      have o3 := (o2.call hb3).alloc (.cells (wdCells ⟨kd, at_, st, g, n, m⟩) 57)
      have p3 := (p2.call hb3).alloc (.cells (wdCells ⟨kd, at_, st, g, n, m⟩) 57)
      have q3 : Slab (w3.alloc (.cells (wdCells ⟨kd, at_, st, g, n, m⟩) 57)) w3.heap.size (wdCells ⟨kd, at_, st, g, n, m⟩) 57 := Slab.new _ _ _
      have HB3 := Lib.hid (hb3'.alloc hb3'.size (.cells (wdCells ⟨kd, at_, st, g, n, m⟩) 57))
      clear hb3 hb3' o2 p2 HB2 C3
      obtain ⟨c1, f1⟩ := o3.facts
      obtain ⟨c2, f2⟩ := p3.facts
      obtain ⟨c3, f3⟩ := q3.facts
      clear o3 p3 q3
      go_wp2_with fail
      refine (sure5_any _).mono ?_
      rintro e9 w9 ⟨rfl, hb9⟩
      have HB9 := below_then HB3.out hb9
      go_wp2
      go_ret
      exact ⟨rfl, HB9⟩
    | true =>
    have e1 : (er != 0) = false := by unfold bne; rw [h1]; rfl
    rw [e1, Bool.false_or] at hq
    clear e1
    cases h2 : (kd == 1) with
    | false =>
      clear hq
      go_wp2_with fail
      refine (C3 _).mono ?_
      rintro e3 w3 ⟨rfl, hb3⟩
      have hb3' := below_then HB2.out hb3
      have o3 := (o2.call hb3).alloc (.cells (wdCells ⟨kd, at_, st, g, n, m⟩) 57)
      have p3 := (p2.call hb3).alloc (.cells (wdCells ⟨kd, at_, st, g, n, m⟩) 57)
      have q3 : Slab (w3.alloc (.cells (wdCells ⟨kd, at_, st, g, n, m⟩) 57)) w3.heap.size (wdCells ⟨kd, at_, st, g, n, m⟩) 57 := Slab.new _ _ _
      have HB3 := Lib.hid (hb3'.alloc hb3'.size (.cells (wdCells ⟨kd, at_, st, g, n, m⟩) 57))
      clear hb3 hb3' o2 p2 HB2 C3
      obtain ⟨c1, f1⟩ := o3.facts
      obtain ⟨c2, f2⟩ := p3.facts
      obtain ⟨c3, f3⟩ := q3.facts
      clear o3 p3 q3
      go_wp2_with fail
      refine (sure5_any _).mono ?_
      rintro e9 w9 ⟨rfl, hb9⟩
      have HB9 := below_then HB3.out hb9
      go_wp2
      go_ret
      exact ⟨rfl, HB9⟩
    | true =>
      have e2 : (kd != 1) = false := by unfold bne; rw [h2]; rfl
      rw [e2, Bool.false_or] at hq
      have hs : same g (oneF b) = false := by simpa using hq
      have E2 := fun w => run_eq_set w g (oneF b)
      rw [HHSET.out, hs] at E2
      unfold setV at E2
      clear e2 hq hs
      go_wp2_with fail
      refine (C3 _).mono ?_
      rintro e3 w3 ⟨rfl, hb3⟩
      have hb3' := below_then HB2.out hb3
      have o3 := (o2.call hb3).alloc (.cells (wdCells ⟨kd, at_, st, g, n, m⟩) 57)
      have p3 := (p2.call hb3).alloc (.cells (wdCells ⟨kd, at_, st, g, n, m⟩) 57)
      have q3 : Slab (w3.alloc (.cells (wdCells ⟨kd, at_, st, g, n, m⟩) 57)) w3.heap.size (wdCells ⟨kd, at_, st, g, n, m⟩) 57 := Slab.new _ _ _
      have HB3 := Lib.hid (hb3'.alloc hb3'.size (.cells (wdCells ⟨kd, at_, st, g, n, m⟩) 57))
      clear hb3 hb3' o2 p2 HB2 C3
      obtain ⟨c1, f1⟩ := o3.facts
      obtain ⟨c2, f2⟩ := p3.facts
      obtain ⟨c3, f3⟩ := q3.facts
      clear o3 p3 q3
      go_wp2_with fail
      refine (sure5_any _).mono ?_
      rintro e9 w9 ⟨rfl, hb9⟩
      have HB9 := below_then HB3.out hb9
      go_wp2
      go_ret
      exact ⟨rfl, HB9⟩
set_option maxRecDepth 100000 in
set_option maxHeartbeats 2000000 in
theorem bytes5_3 (b : UInt8) (h : b.toNat / 64 = 3) (w : World) : Calls Try.prog 12 #[.int .u8 (b.toNat : Int)] w fun e w' => e = .returned (.bool true) ∧ Below w.heap.size w w' := by
  have hb := b.toNat_lt
  have hi : ((b.toNat : Int) / 64).toNat = 3 := by omega
  obtain ⟨y, hy⟩ : ∃ y : Int, IntKind.u64.wrap (2 ^ (b.toNat % 64)) = y := ⟨_, rfl⟩
  have hz3 := wd_one b 3 h
  rw [hy] at hz3
  have hz0 := wd_none b 0 (by omega); have hz1 := wd_none b 1 (by omega); have hz2 := wd_none b 2 (by omega)
  have C1 := ltext_any (oneF b)
  rw [text_one] at C1
  have C2 := lnext_any (strB (byteT b)) 0 (by have := len2 b; rw [strB_size]; omega)
  rw [next_text] at C2
  unfold RetW at C2
  have hcells : ∀ (k a e n m : Int), wdCells ⟨k, a, e, oneF b, n, m⟩ = #[.int .i64 k, .int .i64 a, .int .i64 e, .int .u64 0, .int .u64 0, .int .u64 0, .int .u64 y, .int .i64 n, .int .i64 m] := by
    intro k a e n m
    unfold wdCells
    simp only
    rw [hz0, hz1, hz2, hz3]
  have hans : ∀ e : Int, wansV (oneA (oneF b) 0 e) = .tuple #[.agg #[.int .i64 1, .int .i64 0, .int .i64 e, .int .u64 0, .int .u64 0, .int .u64 0, .int .u64 y, .int .i64 0, .int .i64 0], .int .i64 0, .int .i64 0] := by
    intro e
    show Value.tuple #[.agg (wdCells ⟨1, 0, e, oneF b, 0, 0⟩), _, _] = _
    rw [hcells]; rfl
  rw [hans] at C2
  have hset : setV (oneF b) = .agg #[.int .u64 0, .int .u64 0, .int .u64 0, .int .u64 y] := by unfold setV; rw [hz0, hz1, hz2, hz3]
  rw [hset] at C1
  obtain ⟨T, hT⟩ : ∃ T, strB (byteT b) = T := ⟨_, rfl⟩
  have hTz : (byteT b).length = T.size := by rw [← hT, strB_size]
  have hl2 := len2 b
  have hlp := len_plain b
  rw [hTz] at C2 hl2 hlp
  rw [hT] at C1 C2
  have E := eq_same
  have HHANS := Lib.hid hans
  have HHSET := Lib.hid hset
  obtain ⟨T1, hT1⟩ : ∃ T1, (⟨[b].toArray⟩ : ByteArray) = T1 := ⟨_, rfl⟩
  have hT1z : T1.size ≤ 1 := by rw [← hT1]; simp [ByteArray.size]
  have HT1 := Lib.hid hT1
  have C3 := lnext_any T1 0 (by omega)
  have hnn := next_none b
  have hns := @next_self b
  rw [show (⟨#[b]⟩ : ByteArray) = T1 from hT1] at hnn hns
  have o0 : Slab (w.alloc (.cells #[.int .u64 0, .int .u64 0, .int .u64 0, .int .u64 y] 41)) w.heap.size #[.int .u64 0, .int .u64 0, .int .u64 0, .int .u64 y] 41 := Slab.new _ _ _
  have HB0 := Lib.hid ((Below.refl w.heap.size w).alloc (Nat.le_refl _) (.cells #[.int .u64 0, .int .u64 0, .int .u64 0, .int .u64 y] 41))
  have HNN := Lib.hid hnn
  have HNS := Lib.hid hns
  have HLP := Lib.hid hlp
  have h0 : (0 < (T.size : Int)) = True := by simp; omega
  clear hcells hans hset hz0 hz1 hz2 hz3 hT hTz hT1 hnn hns hlp h
  obtain ⟨c0, f0⟩ := o0.facts
  go_enter Try.func12, Try.ntmps12
  go_wp2_with fail
  refine (C1 _).mono ?_
  rintro e1 w1 ⟨rfl, hb1⟩
  have o1 := o0.call hb1
  have HB1 := Lib.hid (below_then HB0.out hb1)
  clear hb1 o0 HB0 c0 f0 C1
  go_wp2_with fail
  refine (C2 _).mono ?_
  rintro e2 w2 ⟨rfl, hb2⟩
  have hb2' := below_then HB1.out hb2
  have o2 := ((o1.call hb2).alloc (.cells #[.int .i64 1, .int .i64 0, .int .i64 (T.size : Int), .int .u64 0, .int .u64 0, .int .u64 0, .int .u64 y, .int .i64 0, .int .i64 0] 57)).alloc (.cells #[.int .u8 (b.toNat : Int)] 5)
  have p2 : Slab ((w2.alloc (.cells #[.int .i64 1, .int .i64 0, .int .i64 (T.size : Int), .int .u64 0, .int .u64 0, .int .u64 0, .int .u64 y, .int .i64 0, .int .i64 0] 57)).alloc (.cells #[.int .u8 (b.toNat : Int)] 5)) w2.heap.size #[.int .i64 1, .int .i64 0, .int .i64 (T.size : Int), .int .u64 0, .int .u64 0, .int .u64 0, .int .u64 y, .int .i64 0, .int .i64 0] 57 := (Slab.new _ _ _).alloc _
  have HB2 := Lib.hid ((hb2'.alloc hb2'.size (.cells #[.int .i64 1, .int .i64 0, .int .i64 (T.size : Int), .int .u64 0, .int .u64 0, .int .u64 0, .int .u64 y, .int .i64 0, .int .i64 0] 57)).alloc (hb2'.alloc hb2'.size (.cells #[.int .i64 1, .int .i64 0, .int .i64 (T.size : Int), .int .u64 0, .int .u64 0, .int .u64 0, .int .u64 y, .int .i64 0, .int .i64 0] 57)).size (.cells #[.int .u8 (b.toNat : Int)] 5))
  clear hb2 hb2' o1 HB1 C2
  go_wp2
  rw [conv_textX _ ⟨_, 0, none⟩ 1 _ [b] T1 HT1.out rfl ?_]
  rotate_left
  · intro j hj
    obtain rfl : j = 0 := by simpa using hj
    exact (Slab.cell (Slab.newAt _ _ _ (by simp)) 0).trans rfl
  cases hp : plainB b with
  | true =>
    have hn1 : T.size = 1 := by have := HLP.out; rw [hp] at this; simpa using this
    have hcs : ((T.size : Nat) : Int) = 1 := by omega
    rw [hcs] at o2 p2 HB2
    clear hcs
    rw [HNS.out hp] at C3
    unfold RetW at C3
    rw [HHANS.out] at C3
    clear hp
    go_wp2_with fail
    refine (C3 _).mono ?_
    rintro e3 w3 ⟨rfl, hb3⟩
    have hb3' := below_then HB2.out hb3
    have o3 := (o2.call hb3).alloc (.cells (#[.int .i64 1, .int .i64 0, .int .i64 1, .int .u64 0, .int .u64 0, .int .u64 0, .int .u64 y, .int .i64 0, .int .i64 0]) 57)
    have p3 := (p2.call hb3).alloc (.cells (#[.int .i64 1, .int .i64 0, .int .i64 1, .int .u64 0, .int .u64 0, .int .u64 0, .int .u64 y, .int .i64 0, .int .i64 0]) 57)
    have q3 : Slab (w3.alloc (.cells (#[.int .i64 1, .int .i64 0, .int .i64 1, .int .u64 0, .int .u64 0, .int .u64 0, .int .u64 y, .int .i64 0, .int .i64 0]) 57)) w3.heap.size (#[.int .i64 1, .int .i64 0, .int .i64 1, .int .u64 0, .int .u64 0, .int .u64 0, .int .u64 y, .int .i64 0, .int .i64 0]) 57 := Slab.new _ _ _
    have HB3 := Lib.hid (hb3'.alloc hb3'.size (.cells (#[.int .i64 1, .int .i64 0, .int .i64 1, .int .u64 0, .int .u64 0, .int .u64 0, .int .u64 y, .int .i64 0, .int .i64 0]) 57))
    clear hb3 hb3' o2 p2 HB2 C3
    obtain ⟨c1, f1⟩ := o3.facts
    obtain ⟨c2, f2⟩ := p3.facts
    obtain ⟨c3, f3⟩ := q3.facts
    clear o3 p3 q3
    go_wp2_with fail
    refine (sure5_any _).mono ?_
    rintro e9 w9 ⟨rfl, hb9⟩
    have HB9 := below_then HB3.out hb9
    go_wp2
    go_ret
    exact ⟨rfl, HB9⟩
  | false =>
    have hn2 : T.size = 2 := by have := HLP.out; rw [hp] at this; have : ¬ T.size = 1 := by simpa using this
                                omega
    have hcs : ((T.size : Nat) : Int) = 2 := by omega
    rw [hcs] at o2 p2 HB2
    clear hcs
    have hq := HNN.out
    rw [hp, Bool.false_or] at hq
    clear hp
    obtain ⟨r, hr⟩ : ∃ r, nextW T1 0 = r := ⟨_, rfl⟩
    rw [hr] at C3 hq
    clear hr
    obtain ⟨⟨kd, at_, st, g, n, m⟩, er, pl⟩ := r
    unfold noneB at hq
    simp only at hq
    cases h1 : (er == 0) with
    | false =>
      clear hq
      go_wp2_with fail
      refine (C3 _).mono ?_
      rintro e3 w3 ⟨rfl, hb3⟩
      have hb3' := below_then HB2.out hb3
      have o3 := (o2.call hb3).alloc (.cells (wdCells ⟨kd, at_, st, g, n, m⟩) 57)
      have p3 := (p2.call hb3).alloc (.cells (wdCells ⟨kd, at_, st, g, n, m⟩) 57)
      have q3 : Slab (w3.alloc (.cells (wdCells ⟨kd, at_, st, g, n, m⟩) 57)) w3.heap.size (wdCells ⟨kd, at_, st, g, n, m⟩) 57 := Slab.new _ _ _
      have HB3 := Lib.hid (hb3'.alloc hb3'.size (.cells (wdCells ⟨kd, at_, st, g, n, m⟩) 57))
      clear hb3 hb3' o2 p2 HB2 C3
      obtain ⟨c1, f1⟩ := o3.facts
      obtain ⟨c2, f2⟩ := p3.facts
      obtain ⟨c3, f3⟩ := q3.facts
      clear o3 p3 q3
      go_wp2_with fail
      refine (sure5_any _).mono ?_
      rintro e9 w9 ⟨rfl, hb9⟩
      have HB9 := below_then HB3.out hb9
      go_wp2
      go_ret
      exact ⟨rfl, HB9⟩
    | true =>
    have e1 : (er != 0) = false := by unfold bne; rw [h1]; rfl
    rw [e1, Bool.false_or] at hq
    clear e1
    cases h2 : (kd == 1) with
    | false =>
      clear hq
      go_wp2_with fail
      refine (C3 _).mono ?_
      rintro e3 w3 ⟨rfl, hb3⟩
      have hb3' := below_then HB2.out hb3
      have o3 := (o2.call hb3).alloc (.cells (wdCells ⟨kd, at_, st, g, n, m⟩) 57)
      have p3 := (p2.call hb3).alloc (.cells (wdCells ⟨kd, at_, st, g, n, m⟩) 57)
      have q3 : Slab (w3.alloc (.cells (wdCells ⟨kd, at_, st, g, n, m⟩) 57)) w3.heap.size (wdCells ⟨kd, at_, st, g, n, m⟩) 57 := Slab.new _ _ _
      have HB3 := Lib.hid (hb3'.alloc hb3'.size (.cells (wdCells ⟨kd, at_, st, g, n, m⟩) 57))
      clear hb3 hb3' o2 p2 HB2 C3
      obtain ⟨c1, f1⟩ := o3.facts
      obtain ⟨c2, f2⟩ := p3.facts
      obtain ⟨c3, f3⟩ := q3.facts
      clear o3 p3 q3
      go_wp2_with fail
      refine (sure5_any _).mono ?_
      rintro e9 w9 ⟨rfl, hb9⟩
      have HB9 := below_then HB3.out hb9
      go_wp2
      go_ret
      exact ⟨rfl, HB9⟩
    | true =>
      have e2 : (kd != 1) = false := by unfold bne; rw [h2]; rfl
      rw [e2, Bool.false_or] at hq
      have hs : same g (oneF b) = false := by simpa using hq
      have E2 := fun w => run_eq_set w g (oneF b)
      rw [HHSET.out, hs] at E2
      unfold setV at E2
      clear e2 hq hs
      go_wp2_with fail
      refine (C3 _).mono ?_
      rintro e3 w3 ⟨rfl, hb3⟩
      have hb3' := below_then HB2.out hb3
      have o3 := (o2.call hb3).alloc (.cells (wdCells ⟨kd, at_, st, g, n, m⟩) 57)
      have p3 := (p2.call hb3).alloc (.cells (wdCells ⟨kd, at_, st, g, n, m⟩) 57)
      have q3 : Slab (w3.alloc (.cells (wdCells ⟨kd, at_, st, g, n, m⟩) 57)) w3.heap.size (wdCells ⟨kd, at_, st, g, n, m⟩) 57 := Slab.new _ _ _
      have HB3 := Lib.hid (hb3'.alloc hb3'.size (.cells (wdCells ⟨kd, at_, st, g, n, m⟩) 57))
      clear hb3 hb3' o2 p2 HB2 C3
      obtain ⟨c1, f1⟩ := o3.facts
      obtain ⟨c2, f2⟩ := p3.facts
      obtain ⟨c3, f3⟩ := q3.facts
      clear o3 p3 q3
      go_wp2_with fail
      refine (sure5_any _).mono ?_
      rintro e9 w9 ⟨rfl, hb9⟩
      have HB9 := below_then HB3.out hb9
      go_wp2
      go_ret
      exact ⟨rfl, HB9⟩
set_option maxRecDepth 100000 in
theorem bytes5_any (b : UInt8) (w : World) : Calls Try.prog 12 #[.int .u8 (b.toNat : Int)] w fun e w' => e = .returned (.bool true) ∧ Below w.heap.size w w' := by
  have hb := b.toNat_lt
  have h4 : b.toNat / 64 = 0 ∨ b.toNat / 64 = 1 ∨ b.toNat / 64 = 2 ∨ b.toNat / 64 = 3 := by omega
  rcases h4 with h | h | h | h
  · exact bytes5_0 b h w
  · exact bytes5_1 b h w
  · exact bytes5_2 b h w
  · exact bytes5_3 b h w
end Go.Proofs.Ytddokdjlmdoebaa
