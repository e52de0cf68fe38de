/- Walks of the package brace: the two numbers. -/
import Derived.Test.YtgkfdjfoakbibaaProg
import Derived.WalkKit
import Derived.WalkSpells
import Derived.WalkLawsBesides
import Derived.Handy
import Derived.Lib.Hide
import Derived.Test.YtgkfdjfoakbibaaBraceA
namespace Go.Proofs.Ytgkfdjfoakbibaa
open Go.RowKit BraceP

theorem drop_cons_at (s : ByteArray) (k : Nat) (h : k < s.size) : s.data.toList.drop k = s[k] :: s.data.toList.drop (k + 1) := by
  have h' : k < s.data.toList.length := by simpa using h
  rw [List.drop_eq_getElem_cons h']; rfl

set_option maxRecDepth 100000 in
set_option maxHeartbeats 2000000 in
theorem second_any (s : ByteArray) (i least : Int) (h0 : 0 ≤ i) (h1 : i ≤ s.size) (hs : s.size ≤ 4611686018427387904) (_ : 0 ≤ least) (_ : least ≤ 99) (w : World) :
    Calls Try.prog 48 #[.string s, .int .i64 i, .int .i64 least] w fun e w' => e = .returned (resV (rd2 least (s.data.toList.drop i.toNat) i 0 0)) ∧ Below w.heap.size w w' := by
  obtain ⟨i, rfl⟩ := Int.eq_ofNat_of_zero_le h0
  rw [Int.toNat_natCast]
  obtain ⟨T, hT⟩ : ∃ T, rd2 least (s.data.toList.drop i) i 0 0 = T := ⟨_, rfl⟩
  rw [hT]
  have HT := Lib.hid hT; clear hT
  go_enter Try.func48, Try.ntmps48
  go_wp2
  go_loopw [1] (fun p wr => ∃ (k : Nat) (v d : Int), k ≤ s.size ∧ p = .int .i64 k ∧ Num v d ∧ Slab wr (w.heap.size + 1) #[.int .i64 v, .int .i64 d] 56 ∧ Slab wr w.heap.size #[.int .i64 0, .int .i64 0] 24 ∧ Below w.heap.size w wr ∧ rd2 least (s.data.toList.drop k) k v d = T) (fun p _ => s.size - (intOf p).toNat)
  case atStart => exact ⟨i, 0, 0, by omega, rfl, .inl ⟨rfl, rfl⟩, Slab.newAt _ _ _ (by simp), (Slab.new _ _ _).alloc _, by (repeat' (first | (with_reducible exact Below.refl _ _) | (with_reducible assumption) | (with_reducible refine Below.alloc ?_ ?_ _) | (with_reducible refine Below.drew ?_) | (with_reducible refine below_set ?_ ?_ _) | (with_reducible refine below_call ?_ ?_ (by assumption)) | (with_reducible exact Below.size (by assumption)) | omega | go_size)), HT.out⟩
  case round =>
    obtain ⟨k, v, d, hk, rfl, hn, o0, q0, hB, hr⟩ := hrel
    have HB0 := Lib.hid hB; clear hB
    obtain ⟨c0, f0⟩ := o0.facts
    obtain ⟨d0, g0⟩ := q0.facts
    obtain ⟨n1, n2, n3, n4⟩ := hn.bd
    have HN := Lib.hid hn; clear hn
    by_cases hlt : k < s.size
    · rw [drop_cons_at s k hlt] at hr
      have HR := Lib.hid hr; clear hr
      go_wp2_with fail
      refine (digit_any s[k] _).mono ?_
      rintro e1 w1 ⟨rfl, rfl⟩
      generalize s[k] = b at *
      cases hb : isDig b with
      | true =>
        have HD := Lib.hid hb; clear hb
        go_wp2_with fail
        refine (full_any v d _).mono ?_
        rintro e1 w1 ⟨rfl, hb1⟩
        have o1 := o0.call hb1
        have q1 := q0.call hb1
        obtain ⟨c1, f1⟩ := o1.facts
        obtain ⟨d1, g1⟩ := q1.facts
        have HB1 := Lib.hid (below_then HB0.out hb1)
        clear o0 c0 f0 q0 d0 g0 HB0 hb1
        cases hf : full v d with
        | true =>
          have HF := Lib.hid hf; clear hf
          go_wp2_with fail
          refine (fail_any 6 k (by omega) (by omega) _).mono ?_
          rintro e2 w2 ⟨rfl, hb2⟩
          have q2 := q1.call hb2
          obtain ⟨d2, g2⟩ := q2.facts
          have HB2 := Lib.hid (below_then HB1.out hb2)
          clear hb2
          go_wp2
          refine bodyPost_ret (v := resV (0, 0, 0, 6, (k : Int) + 1)) (by simp [results, Try.results48, go_sem, d2]) rfl ⟨ret_v (congrArg resV ?_), ?_⟩
          · rw [← HR.out, rd2, if_pos HD.out, HF.out]; rfl
          · exact below_set (below_set HB2.out (by omega) _) (by omega) _
        | false =>
          have HF := Lib.hid hf; clear hf
          go_wp2_with fail
          refine (with_any v d b HN.out HD.out _).mono ?_
          rintro e2 w2 ⟨rfl, hb2⟩
          have o2 := o1.call hb2
          have q2 := q1.call hb2
          obtain ⟨c2, f2⟩ := o2.facts
          obtain ⟨d2, g2⟩ := q2.facts
          have HB2 := Lib.hid (below_then HB1.out hb2)
          clear o1 c1 f1 q1 d1 g1 HB1 hb2
          obtain ⟨m1, m2, m3, m4⟩ := (HN.out.next HF.out HD.out).bd
          go_wp2_with fail
          refine (most_any _ _ m1 m2 _).mono ?_
          rintro e3 w3 ⟨rfl, hb3⟩
          have o3 := o2.call hb3
          have q3 := q2.call hb3
          obtain ⟨c3, f3⟩ := o3.facts
          obtain ⟨d3, g3⟩ := q3.facts
          have HB3 := Lib.hid (below_then HB2.out hb3)
          clear o2 c2 f2 q2 d2 g2 HB2 hb3
          cases hm : decide (most (10 * v + dig b) (d + 1) < least) with
          | true =>
            have HM := Lib.hid hm
            go_wp2_with fail
            refine (fail_any 6 k (by omega) (by omega) _).mono ?_
            rintro e4 w4 ⟨rfl, hb4⟩
            have q4 := q3.call hb4
            obtain ⟨d4, g4⟩ := q4.facts
            have HB4 := Lib.hid (below_then HB3.out hb4)
            clear hb4
            go_wp2
            refine bodyPost_ret (v := resV (0, 0, 0, 6, (k : Int) + 1)) (by simp [results, Try.results48, go_sem, d4]) rfl ⟨ret_v (congrArg resV ?_), ?_⟩
            · rw [← HR.out, rd2, if_pos HD.out, HF.out, HM.out]; rfl
            · exact below_set (below_set HB4.out (by omega) _) (by omega) _
          | false =>
            have HM := Lib.hid hm
            go_wp2_with fail
            refine (with_any v d b HN.out HD.out _).mono ?_
            rintro e4 w4 ⟨rfl, hb4⟩
            have o4 := o3.call hb4
            have q4 := q3.call hb4
            obtain ⟨c4, f4⟩ := o4.facts
            obtain ⟨d4, g4⟩ := q4.facts
            have HB4 := Lib.hid (below_then HB3.out hb4)
            clear o3 c3 f3 q3 d3 g3 HB3 hb4
            clear hm
            have h48 : 48 ≤ (b.toNat : Int) ∧ (b.toNat : Int) ≤ 57 := by have := HD.out; unfold isDig at this; simp at this; omega
            go_wp2
            go_roundw
            case rel =>
              refine ⟨k + 1, 10 * v + dig b, d + 1, by omega, by go_num, HN.out.next HF.out HD.out, (o4.set 0 _).set 1 _, (q4.far (by omega) _).far (by omega) _, ?_, ?_⟩
              · have hb := HB4.out
                (repeat' (first | (with_reducible exact Below.refl _ _) | (with_reducible assumption) | (with_reducible refine Below.alloc ?_ ?_ _) | (with_reducible refine Below.drew ?_) | (with_reducible refine below_set ?_ ?_ _) | (with_reducible refine below_call ?_ ?_ (by assumption)) | (with_reducible exact Below.size (by assumption)) | omega | go_size))
              · rw [← HR.out, rd2, if_pos HD.out, HF.out, HM.out]; rfl
            case measure => simp [intOf]; omega
      | false =>
        have HD := Lib.hid hb; clear hb
        have e125 : (b == 125) = ((b.toNat : Int) == 125) := by
          rw [Bool.eq_iff_iff, beq_iff_eq, beq_iff_eq, ← UInt8.toNat_inj]; simp; omega
        have E := Lib.hid e125; clear e125
        by_cases h125 : (b.toNat : Int) = 125
        · have t125 : ((b.toNat : Int) == 125) = true := by simpa using h125
          have T5 := Lib.hid t125
          clear h125
          by_cases hd0 : d = 0
          · have td0 : (d == 0) = true := by simpa using hd0
            have TD := Lib.hid td0
            clear hd0
            go_wp2
            refine bodyPost_ret (v := resV (least, -1, (k : Int) + 1, 0, 0)) (by simp [results, Try.results48, go_sem, *]) rfl ⟨ret_v (congrArg resV ?_), ?_⟩
            · rw [← HR.out, rd2, HD.out, E.out, T5.out, TD.out]; rfl
            · have hb := HB0.out
              (repeat' (first | (with_reducible exact Below.refl _ _) | (with_reducible assumption) | (with_reducible refine Below.alloc ?_ ?_ _) | (with_reducible refine Below.drew ?_) | (with_reducible refine below_set ?_ ?_ _) | (with_reducible refine below_call ?_ ?_ (by assumption)) | (with_reducible exact Below.size (by assumption)) | omega | go_size))
          · have td0 : (d == 0) = false := by simpa using hd0
            have TD := Lib.hid td0
            clear hd0
            by_cases hv : v < least
            · have tv : decide (v < least) = true := by simpa using hv
              have TV := Lib.hid tv
              clear hv
              go_wp2_with fail
              refine (fail_any 6 k (by omega) (by omega) _).mono ?_
              rintro e1 w1 ⟨rfl, hb1⟩
              have q1 := q0.call hb1
              obtain ⟨d1, g1⟩ := q1.facts
              have HB1 := Lib.hid (below_then HB0.out hb1)
              clear hb1
              go_wp2
              refine bodyPost_ret (v := resV (0, 0, 0, 6, (k : Int) + 1)) (by simp [results, Try.results48, go_sem, d1]) rfl ⟨ret_v (congrArg resV ?_), ?_⟩
              · rw [← HR.out, rd2, HD.out, E.out, T5.out, TD.out, TV.out]; rfl
              · exact below_set (below_set HB1.out (by omega) _) (by omega) _
            · have tv : decide (v < least) = false := by simpa using hv
              have TV := Lib.hid tv
              clear hv
              go_wp2
              refine bodyPost_ret (v := resV (least, v, (k : Int) + 1, 0, 0)) (by simp [results, Try.results48, go_sem, *]) rfl ⟨ret_v (congrArg resV ?_), ?_⟩
              · rw [← HR.out, rd2, HD.out, E.out, T5.out, TD.out, TV.out]; rfl
              · have hb := HB0.out
                (repeat' (first | (with_reducible exact Below.refl _ _) | (with_reducible assumption) | (with_reducible refine Below.alloc ?_ ?_ _) | (with_reducible refine Below.drew ?_) | (with_reducible refine below_set ?_ ?_ _) | (with_reducible refine below_call ?_ ?_ (by assumption)) | (with_reducible exact Below.size (by assumption)) | omega | go_size))
        · have t125 : ((b.toNat : Int) == 125) = false := by simpa using h125
          have T5 := Lib.hid t125
          clear h125
          go_wp2_with fail
          refine (fail_any 3 k (by omega) (by omega) _).mono ?_
          rintro e1 w1 ⟨rfl, hb1⟩
          have q1 := q0.call hb1
          obtain ⟨d1, g1⟩ := q1.facts
          have HB1 := Lib.hid (below_then HB0.out hb1)
          clear hb1
          go_wp2
          refine bodyPost_ret (v := resV (0, 0, 0, 3, (k : Int) + 1)) (by simp [results, Try.results48, go_sem, d1]) rfl ⟨ret_v (congrArg resV ?_), ?_⟩
          · rw [← HR.out, rd2, HD.out, E.out, T5.out]; rfl
          · exact below_set (below_set HB1.out (by omega) _) (by omega) _
    · have hr' : T = (0, 0, 0, 2, (k : Int)) := by
        rw [← hr, List.drop_eq_nil_of_le (by simpa using (by omega : s.size ≤ k))]; rfl
      have HR := Lib.hid hr'; clear hr' hr
      go_wp2_with fail
      refine (fail_any 2 ((s.size : Int) - 1) (by omega) (by omega) _).mono ?_
      rintro e1 w1 ⟨rfl, hb1⟩
      have q1 := q0.call hb1
      obtain ⟨d1, g1⟩ := q1.facts
      have HB1 := below_then HB0.out hb1
      go_wp2
      refine bodyPost_ret (v := resV (0, 0, 0, 2, (s.size : Int) - 1 + 1)) (by simp [results, Try.results48, go_sem, d1]) rfl ⟨ret_v (congrArg resV ?_), ?_⟩
      · rw [HR.out]; congr 4; omega
      · (repeat' (first | (with_reducible exact Below.refl _ _) | (with_reducible assumption) | (with_reducible refine Below.alloc ?_ ?_ _) | (with_reducible refine Below.drew ?_) | (with_reducible refine below_set ?_ ?_ _) | (with_reducible refine below_call ?_ ?_ (by assumption)) | (with_reducible exact Below.size (by assumption)) | omega | go_size))

set_option maxRecDepth 100000 in
set_option maxHeartbeats 2000000 in
theorem first_any (s : ByteArray) (i : Int) (h0 : 0 ≤ i) (h1 : i ≤ s.size) (hs : s.size ≤ 4611686018427387904) (w : World) :
    Calls Try.prog 33 #[.string s, .int .i64 i] w fun e w' => e = .returned (resV (rd1 (s.data.toList.drop i.toNat) i 0 0)) ∧ Below w.heap.size w w' := by
  obtain ⟨i, rfl⟩ := Int.eq_ofNat_of_zero_le h0
  rw [Int.toNat_natCast]
  obtain ⟨T, hT⟩ : ∃ T, rd1 (s.data.toList.drop i) i 0 0 = T := ⟨_, rfl⟩
  rw [hT]
  have HT := Lib.hid hT; clear hT
  go_enter Try.func33, Try.ntmps33
  go_wp2
  go_loopw [1] (fun p wr => ∃ (k : Nat) (v d : Int), k ≤ s.size ∧ p = .int .i64 k ∧ Num v d ∧ Slab wr (w.heap.size + 1) #[.int .i64 v, .int .i64 d] 56 ∧ Slab wr w.heap.size #[.int .i64 0, .int .i64 0] 24 ∧ Below w.heap.size w wr ∧ rd1 (s.data.toList.drop k) k v d = T) (fun p _ => s.size - (intOf p).toNat)
  case atStart => exact ⟨i, 0, 0, by omega, rfl, .inl ⟨rfl, rfl⟩, Slab.newAt _ _ _ (by simp), (Slab.new _ _ _).alloc _, by (repeat' (first | (with_reducible exact Below.refl _ _) | (with_reducible assumption) | (with_reducible refine Below.alloc ?_ ?_ _) | (with_reducible refine Below.drew ?_) | (with_reducible refine below_set ?_ ?_ _) | (with_reducible refine below_call ?_ ?_ (by assumption)) | (with_reducible exact Below.size (by assumption)) | omega | go_size)), HT.out⟩
  case round =>
    obtain ⟨k, v, d, hk, rfl, hn, o0, q0, hB, hr⟩ := hrel
    have HB0 := Lib.hid hB; clear hB
    obtain ⟨c0, f0⟩ := o0.facts
    obtain ⟨d0, g0⟩ := q0.facts
    obtain ⟨n1, n2, n3, n4⟩ := hn.bd
    have HN := Lib.hid hn; clear hn
    by_cases hlt : k < s.size
    · rw [drop_cons_at s k hlt] at hr
      have HR := Lib.hid hr; clear hr
      cases hb : isDig s[k] with
      | true =>
        have HD := Lib.hid hb; clear hb
        go_wp2_with fail
        refine (digit_any s[k] _).mono ?_
        rintro e1 w1 ⟨rfl, rfl⟩
        rw [HD.out]
        generalize s[k] = b at *
        go_wp2_with fail
        refine (full_any v d _).mono ?_
        rintro e1 w1 ⟨rfl, hb1⟩
        have o1 := o0.call hb1
        have q1 := q0.call hb1
        obtain ⟨c1, f1⟩ := o1.facts
        obtain ⟨d1, g1⟩ := q1.facts
        have HB1 := Lib.hid (below_then HB0.out hb1)
        clear o0 c0 f0 q0 d0 g0 HB0 hb1
        cases hf : full v d with
        | true =>
          have HF := Lib.hid hf; clear hf
          go_wp2_with fail
          refine (fail_any 6 k (by omega) (by omega) _).mono ?_
          rintro e2 w2 ⟨rfl, hb2⟩
          have q2 := q1.call hb2
          obtain ⟨d2, g2⟩ := q2.facts
          have HB2 := Lib.hid (below_then HB1.out hb2)
          clear hb2
          go_wp2
          refine bodyPost_ret (v := resV (0, 0, 0, 6, (k : Int) + 1)) (by simp [results, Try.results33, go_sem, d2]) rfl ⟨ret_v (congrArg resV ?_), ?_⟩
          · rw [← HR.out, rd1, if_pos HD.out, if_pos HF.out]
          · exact below_set (below_set HB2.out (by omega) _) (by omega) _
        | false =>
          have HF := Lib.hid hf; clear hf
          go_wp2_with fail
          refine (digit_any b _).mono ?_
          rintro e2 w2 ⟨rfl, rfl⟩
          rw [HD.out]
          go_wp2_with fail
          refine (with_any v d b HN.out HD.out _).mono ?_
          rintro e2 w2 ⟨rfl, hb2⟩
          have o2 := o1.call hb2
          have q2 := q1.call hb2
          obtain ⟨c2, f2⟩ := o2.facts
          obtain ⟨d2, g2⟩ := q2.facts
          have HB2 := Lib.hid (below_then HB1.out hb2)
          clear o1 c1 f1 q1 d1 g1 HB1 hb2
          go_wp2
          go_roundw
          case rel =>
            refine ⟨k + 1, 10 * v + dig b, d + 1, by omega, by go_num, HN.out.next HF.out HD.out, (o2.set 0 _).set 1 _, (q2.far (by omega) _).far (by omega) _, ?_, ?_⟩
            · have hb := HB2.out
              (repeat' (first | (with_reducible exact Below.refl _ _) | (with_reducible assumption) | (with_reducible refine Below.alloc ?_ ?_ _) | (with_reducible refine Below.drew ?_) | (with_reducible refine below_set ?_ ?_ _) | (with_reducible refine below_call ?_ ?_ (by assumption)) | (with_reducible exact Below.size (by assumption)) | omega | go_size))
            · rw [← HR.out, rd1, if_pos HD.out, HF.out]; rfl
          case measure => simp [intOf]; omega
      | false =>
        have HD := Lib.hid hb; clear hb
        go_wp2_with fail
        refine (digit_any s[k] _).mono ?_
        rintro e1 w1 ⟨rfl, rfl⟩
        rw [HD.out]
        generalize s[k] = b at *
        go_wp2_with fail
        refine (digit_any b _).mono ?_
        rintro e2 w2 ⟨rfl, rfl⟩
        rw [HD.out]
        have e125 : (b == 125) = ((b.toNat : Int) == 125) := by
          rw [Bool.eq_iff_iff, beq_iff_eq, beq_iff_eq, ← UInt8.toNat_inj]; simp; omega
        have E := Lib.hid e125; clear e125
        have e44 : (b == 44) = ((b.toNat : Int) == 44) := by
          rw [Bool.eq_iff_iff, beq_iff_eq, beq_iff_eq, ← UInt8.toNat_inj]; simp; omega
        have E4 := Lib.hid e44; clear e44
        by_cases hd0 : 0 < d
        · have td : decide (0 < d) = true := by simpa using hd0
          have TD := Lib.hid td
          clear hd0
          by_cases h125 : (b.toNat : Int) = 125
          · have t125 : ((b.toNat : Int) == 125) = true := by simpa using h125
            have T5 := Lib.hid t125
            clear h125
            go_wp2
            refine bodyPost_ret (v := resV (v, v, (k : Int) + 1, 0, 0)) (by simp [results, Try.results33, go_sem, *]) rfl ⟨ret_v (congrArg resV ?_), ?_⟩
            · rw [← HR.out, rd1, HD.out, E.out, T5.out, TD.out]; rfl
            · have hb := HB0.out
              (repeat' (first | (with_reducible exact Below.refl _ _) | (with_reducible assumption) | (with_reducible refine Below.alloc ?_ ?_ _) | (with_reducible refine Below.drew ?_) | (with_reducible refine below_set ?_ ?_ _) | (with_reducible refine below_call ?_ ?_ (by assumption)) | (with_reducible exact Below.size (by assumption)) | omega | go_size))
          · have t125 : ((b.toNat : Int) == 125) = false := by simpa using h125
            have T5 := Lib.hid t125
            clear h125
            by_cases h44 : (b.toNat : Int) = 44
            · have t44 : ((b.toNat : Int) == 44) = true := by simpa using h44
              have T4 := Lib.hid t44
              clear h44
              have hsec : rd2 v (s.data.toList.drop (k + 1)) ((k + 1 : Nat) : Int) 0 0 = T := by
                rw [← HR.out, rd1, HD.out, E.out, T5.out, TD.out, E4.out, T4.out]; rfl
              have HS := Lib.hid hsec; clear hsec
              go_wp2_with fail
              refine (second_any s ((k : Int) + 1) v (by omega) (by omega) hs n1 n2 _).mono ?_
              rintro e3 w3 ⟨rfl, hb3⟩
              rw [show ((k : Int) + 1).toNat = k + 1 by omega, show ((k : Int) + 1) = ((k + 1 : Nat) : Int) by omega, HS.out]
              have q3 := q0.call hb3
              obtain ⟨d3, g3⟩ := q3.facts
              have HB3 := below_then HB0.out hb3
              go_wp2
              refine bodyPost_ret (v := resV T) (by simp [results, Try.results33, go_sem, d3]) rfl ⟨rfl, ?_⟩
              (repeat' (first | (with_reducible exact Below.refl _ _) | (with_reducible assumption) | (with_reducible refine Below.alloc ?_ ?_ _) | (with_reducible refine Below.drew ?_) | (with_reducible refine below_set ?_ ?_ _) | (with_reducible refine below_call ?_ ?_ (by assumption)) | (with_reducible exact Below.size (by assumption)) | omega | go_size))
            · have t44 : ((b.toNat : Int) == 44) = false := by simpa using h44
              have T4 := Lib.hid t44
              clear h44
              go_wp2_with fail
              refine (fail_any 3 k (by omega) (by omega) _).mono ?_
              rintro e3 w3 ⟨rfl, hb3⟩
              have q3 := q0.call hb3
              obtain ⟨d3, g3⟩ := q3.facts
              have HB3 := Lib.hid (below_then HB0.out hb3)
              clear hb3
              go_wp2
              refine bodyPost_ret (v := resV (0, 0, 0, 3, (k : Int) + 1)) (by simp [results, Try.results33, go_sem, d3]) rfl ⟨ret_v (congrArg resV ?_), ?_⟩
              · rw [← HR.out, rd1, HD.out, E.out, T5.out, TD.out, E4.out, T4.out]; rfl
              · exact below_set (below_set HB3.out (by omega) _) (by omega) _
        · have td : decide (0 < d) = false := by simpa using hd0
          have TD := Lib.hid td
          clear hd0
          go_wp2_with fail
          refine (fail_any 3 k (by omega) (by omega) _).mono ?_
          rintro e3 w3 ⟨rfl, hb3⟩
          have q3 := q0.call hb3
          obtain ⟨d3, g3⟩ := q3.facts
          have HB3 := Lib.hid (below_then HB0.out hb3)
          clear hb3
          go_wp2
          refine bodyPost_ret (v := resV (0, 0, 0, 3, (k : Int) + 1)) (by simp [results, Try.results33, go_sem, d3]) rfl ⟨ret_v (congrArg resV ?_), ?_⟩
          · rw [← HR.out, rd1, HD.out, TD.out]; rfl
          · exact below_set (below_set HB3.out (by omega) _) (by omega) _
    · have hr' : T = (0, 0, 0, 2, (k : Int)) := by
        rw [← hr, List.drop_eq_nil_of_le (by simpa using (by omega : s.size ≤ k))]; rfl
      have HR := Lib.hid hr'; clear hr' hr
      go_wp2_with fail
      refine (fail_any 2 ((s.size : Int) - 1) (by omega) (by omega) _).mono ?_
      rintro e1 w1 ⟨rfl, hb1⟩
      have q1 := q0.call hb1
      obtain ⟨d1, g1⟩ := q1.facts
      have HB1 := below_then HB0.out hb1
      go_wp2
      refine bodyPost_ret (v := resV (0, 0, 0, 2, (s.size : Int) - 1 + 1)) (by simp [results, Try.results33, go_sem, d1]) rfl ⟨ret_v (congrArg resV ?_), ?_⟩
      · rw [HR.out]; congr 4; omega
      · (repeat' (first | (with_reducible exact Below.refl _ _) | (with_reducible assumption) | (with_reducible refine Below.alloc ?_ ?_ _) | (with_reducible refine Below.drew ?_) | (with_reducible refine below_set ?_ ?_ _) | (with_reducible refine below_call ?_ ?_ (by assumption)) | (with_reducible exact Below.size (by assumption)) | omega | go_size))
end Go.Proofs.Ytgkfdjfoakbibaa
