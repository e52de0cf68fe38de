/- Walks of the package brace: Read, the text of counts. -/
import Derived.Test.YtgkfdjfoakbibaaProg
import Derived.WalkKit
import Derived.WalkSpells
import Derived.WalkLawsBesides
import Derived.Handy
import Derived.Lib.Hide
import Derived.Test.YtgkfdjfoakbibaaBraceB
namespace Go.Proofs.Ytgkfdjfoakbibaa
open Go.RowKit BraceP

theorem byte_eq (b : UInt8) (n : Nat) (hn : n < 256) : (b == UInt8.ofNat n) = ((b.toNat : Int) == n) := by
  rw [Bool.eq_iff_iff, beq_iff_eq, beq_iff_eq, ← UInt8.toNat_inj]; simp; omega
set_option maxRecDepth 100000 in
set_option maxHeartbeats 2000000 in
theorem read_any (s : ByteArray) (i : Int) (hs : s.size ≤ 4611686018427387904) (w : World) :
    Calls Try.prog 14 #[.string s, .int .i64 i] w fun e w' => e = .returned (resV (readF s.data.toList i)) ∧ Below w.heap.size w w' := by
  obtain ⟨T, hT⟩ : ∃ T, readF s.data.toList i = T := ⟨_, rfl⟩
  rw [hT]
  go_enter Try.func14, Try.ntmps14
  by_cases h0 : i < 0
  · have e0 : decide (i < 0) = true := by simpa using h0
    have E0 := Lib.hid e0
    have hT' : T = (0, 0, 0, 1, 0) := by rw [← hT]; unfold readF; rw [if_pos h0]
    have HT := Lib.hid hT'; clear hT hT' h0
    go_wp2
    refine bodyPost_ret (v := resV (0, 0, 0, 1, 0)) (by simp [results, Try.results14, go_sem, *]) rfl ⟨ret_v (congrArg resV ?_), ?_⟩
    · rw [HT.out]
    · (repeat' (first | (with_reducible exact Below.refl _ _) | (with_reducible assumption) | (with_reducible refine Below.alloc ?_ ?_ _) | (with_reducible refine Below.drew ?_) | (with_reducible refine below_set ?_ ?_ _) | (with_reducible refine below_call ?_ ?_ (by assumption)) | (with_reducible exact Below.size (by assumption)) | omega | go_size))
  · have e0 : decide (i < 0) = false := by simpa using h0
    have E0 := Lib.hid e0
    obtain ⟨i, rfl⟩ := Int.eq_ofNat_of_zero_le (by omega : 0 ≤ i)
    clear h0 e0
    by_cases h1 : s.size ≤ i
    · have e1 : decide (s.size ≤ i) = true := by simpa using h1
      have hT' : T = (0, 0, 0, 1, 0) := by
        rw [← hT]; unfold readF
        rw [if_neg (by omega), List.drop_eq_nil_of_le (by simpa using h1)]
      have HT := Lib.hid hT'; clear hT hT' h1
      go_wp2
      refine bodyPost_ret (v := resV (0, 0, 0, 1, 0)) (by simp [results, Try.results14, go_sem, *]) rfl ⟨ret_v (congrArg resV ?_), ?_⟩
      · rw [HT.out]
      · (repeat' (first | (with_reducible exact Below.refl _ _) | (with_reducible assumption) | (with_reducible refine Below.alloc ?_ ?_ _) | (with_reducible refine Below.drew ?_) | (with_reducible refine below_set ?_ ?_ _) | (with_reducible refine below_call ?_ ?_ (by assumption)) | (with_reducible exact Below.size (by assumption)) | omega | go_size))
    · have e1 : decide (s.size ≤ i) = false := by simpa using h1
      have h1' : i < s.size := by omega
      have hT' : T = rd0 s[i] (s.data.toList.drop (i + 1)) (i + 1) := by
        rw [← hT]; unfold readF
        rw [if_neg (by omega), Int.toNat_natCast, drop_cons_at s i h1']
      have HT := Lib.hid hT'; clear hT hT'
      have k42 := Lib.hid (byte_eq s[i] 42 (by omega))
      have k43 := Lib.hid (byte_eq s[i] 43 (by omega))
      have k63 := Lib.hid (byte_eq s[i] 63 (by omega))
      have k123 := Lib.hid (byte_eq s[i] 123 (by omega))
      cases e42 : ((s[i].toNat : Int) == 42) with
      | true =>
        have E42 := Lib.hid e42
        go_wp2
        refine bodyPost_ret (v := resV (0, -1, (i : Int) + 1, 0, 0)) (by simp [results, Try.results14, go_sem, *]) rfl ⟨ret_v (congrArg resV ?_), ?_⟩
        · rw [HT.out, rd0]; erw [k42.out, E42.out]; rfl
        · (repeat' (first | (with_reducible exact Below.refl _ _) | (with_reducible assumption) | (with_reducible refine Below.alloc ?_ ?_ _) | (with_reducible refine Below.drew ?_) | (with_reducible refine below_set ?_ ?_ _) | (with_reducible refine below_call ?_ ?_ (by assumption)) | (with_reducible exact Below.size (by assumption)) | omega | go_size))
      | false =>
      have E42 := Lib.hid e42
      cases e43 : ((s[i].toNat : Int) == 43) with
      | true =>
        have E43 := Lib.hid e43
        go_wp2
        refine bodyPost_ret (v := resV (1, -1, (i : Int) + 1, 0, 0)) (by simp [results, Try.results14, go_sem, *]) rfl ⟨ret_v (congrArg resV ?_), ?_⟩
        · rw [HT.out, rd0]; erw [k42.out, E42.out, k43.out, E43.out]; rfl
        · (repeat' (first | (with_reducible exact Below.refl _ _) | (with_reducible assumption) | (with_reducible refine Below.alloc ?_ ?_ _) | (with_reducible refine Below.drew ?_) | (with_reducible refine below_set ?_ ?_ _) | (with_reducible refine below_call ?_ ?_ (by assumption)) | (with_reducible exact Below.size (by assumption)) | omega | go_size))
      | false =>
      have E43 := Lib.hid e43
      cases e63 : ((s[i].toNat : Int) == 63) with
      | true =>
        have E63 := Lib.hid e63
        go_wp2
        refine bodyPost_ret (v := resV (0, 1, (i : Int) + 1, 0, 0)) (by simp [results, Try.results14, go_sem, *]) rfl ⟨ret_v (congrArg resV ?_), ?_⟩
        · rw [HT.out, rd0]; erw [k42.out, E42.out, k43.out, E43.out, k63.out, E63.out]; rfl
        · (repeat' (first | (with_reducible exact Below.refl _ _) | (with_reducible assumption) | (with_reducible refine Below.alloc ?_ ?_ _) | (with_reducible refine Below.drew ?_) | (with_reducible refine below_set ?_ ?_ _) | (with_reducible refine below_call ?_ ?_ (by assumption)) | (with_reducible exact Below.size (by assumption)) | omega | go_size))
      | false =>
      have E63 := Lib.hid e63
      cases e123 : ((s[i].toNat : Int) == 123) with
      | true =>
        have E123 := Lib.hid e123
        have hT' : rd1 (s.data.toList.drop (i + 1)) ((i : Int) + 1) 0 0 = T := by
          rw [HT.out, rd0]; erw [k42.out, E42.out, k43.out, E43.out, k63.out, E63.out, k123.out, E123.out]; rfl
        have HS := Lib.hid hT'; clear hT'
        have q0 : Slab (w.alloc (.cells #[.int .i64 0, .int .i64 0] 24)) w.heap.size #[.int .i64 0, .int .i64 0] 24 := Slab.new _ _ _
        have HB0 := Lib.hid ((Below.refl _ w).alloc (Nat.le_refl _) (.cells #[.int .i64 0, .int .i64 0] 24))
        go_wp2_with fail
        refine (first_any s ((i : Int) + 1) (by omega) (by omega) hs _).mono ?_
        rintro e3 w3 ⟨rfl, hb3⟩
        rw [show ((i : Int) + 1).toNat = i + 1 by omega, HS.out]
        have q3 := q0.call hb3
        obtain ⟨d3, g3⟩ := q3.facts
        have HB3 := below_then HB0.out hb3
        go_wp2
        refine bodyPost_ret (v := resV T) (by simp [results, Try.results14, go_sem, d3]) rfl ⟨rfl, ?_⟩
        (repeat' (first | (with_reducible exact Below.refl _ _) | (with_reducible assumption) | (with_reducible refine Below.alloc ?_ ?_ _) | (with_reducible refine Below.drew ?_) | (with_reducible refine below_set ?_ ?_ _) | (with_reducible refine below_call ?_ ?_ (by assumption)) | (with_reducible exact Below.size (by assumption)) | omega | go_size))
      | false =>
      have E123 := Lib.hid e123
      go_wp2
      refine bodyPost_ret (v := resV (0, 0, 0, 1, 0)) (by simp [results, Try.results14, go_sem, *]) rfl ⟨ret_v (congrArg resV ?_), ?_⟩
      · rw [HT.out, rd0]; erw [k42.out, E42.out, k43.out, E43.out, k63.out, E63.out, k123.out, E123.out]; rfl
      · (repeat' (first | (with_reducible exact Below.refl _ _) | (with_reducible assumption) | (with_reducible refine Below.alloc ?_ ?_ _) | (with_reducible refine Below.drew ?_) | (with_reducible refine below_set ?_ ?_ _) | (with_reducible refine below_call ?_ ?_ (by assumption)) | (with_reducible exact Below.size (by assumption)) | omega | go_size))
end Go.Proofs.Ytgkfdjfoakbibaa
