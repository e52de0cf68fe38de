/- Walks: the text of counts; what must come whatever the input is. -/
import Derived.Test.YtgkfdjfoakbibaaProg
import Derived.WalkKit
import Derived.WalkSpells
import Derived.WalkLawsBesides
import Derived.Handy
import Derived.Lib.Hide
import Derived.Test.YtgkfdjfoakbibaaBraceF
namespace Go.Proofs.Ytgkfdjfoakbibaa
open Go.RowKit BraceP
attribute [local go_sem] run_eq_span
set_option maxRecDepth 100000 in
set_option maxHeartbeats 2000000 in
theorem text_any (n m : Int) (w : World) : Calls Try.prog 16 #[.int .i64 n, .int .i64 m] w fun e w' => e = .returned (strV (textF n m)) ∧ Below w.heap.size w w' := by
  obtain ⟨T, hT⟩ : ∃ T, textF n m = T := ⟨_, rfl⟩
  rw [hT]
  have hd := digF_len n
  have hdm := digF_len m
  go_enter Try.func16, Try.ntmps16
  rcases text_cases hT with ⟨hr, rfl⟩ | ⟨hr, h0, h1, ⟨rfl, rfl, rfl⟩ | ⟨rfl, rfl, rfl⟩ | ⟨rfl, rfl, rfl⟩ | ⟨rfl, rfl⟩ | ⟨rfl, hn, rfl⟩ | ⟨hnm, hm, hne, rfl⟩⟩
  · have hr' : ¬ (0 ≤ n ∧ n ≤ 99 ∧ (m = -1 ∨ (n ≤ m ∧ m ≤ 99))) := fun h => by rw [(right_iff n m).2 h] at hr; cases hr
    have HR := Lib.hid hr'
    clear hT hd hdm hr hr'
    cases c0 : decide (n < 0) with
    | true => go_wp2
              go_ret
              exact ⟨rfl, by (repeat' (first | (with_reducible exact Below.refl _ _) | (with_reducible assumption) | (with_reducible refine Below.alloc ?_ ?_ _) | (with_reducible refine Below.drew ?_) | (with_reducible refine below_set ?_ ?_ _) | (with_reducible refine below_call ?_ ?_ (by assumption)) | (with_reducible exact Below.size (by assumption)) | omega | go_size))⟩
    | false =>
    cases c1 : decide (99 < n) with
    | true => go_wp2
              go_ret
              exact ⟨rfl, by (repeat' (first | (with_reducible exact Below.refl _ _) | (with_reducible assumption) | (with_reducible refine Below.alloc ?_ ?_ _) | (with_reducible refine Below.drew ?_) | (with_reducible refine below_set ?_ ?_ _) | (with_reducible refine below_call ?_ ?_ (by assumption)) | (with_reducible exact Below.size (by assumption)) | omega | go_size))⟩
    | false =>
    cases c2 : decide (m < -1) with
    | true => go_wp2
              go_ret
              exact ⟨rfl, by (repeat' (first | (with_reducible exact Below.refl _ _) | (with_reducible assumption) | (with_reducible refine Below.alloc ?_ ?_ _) | (with_reducible refine Below.drew ?_) | (with_reducible refine below_set ?_ ?_ _) | (with_reducible refine below_call ?_ ?_ (by assumption)) | (with_reducible exact Below.size (by assumption)) | omega | go_size))⟩
    | false =>
    cases c3 : decide (99 < m) with
    | true => go_wp2
              go_ret
              exact ⟨rfl, by (repeat' (first | (with_reducible exact Below.refl _ _) | (with_reducible assumption) | (with_reducible refine Below.alloc ?_ ?_ _) | (with_reducible refine Below.drew ?_) | (with_reducible refine below_set ?_ ?_ _) | (with_reducible refine below_call ?_ ?_ (by assumption)) | (with_reducible exact Below.size (by assumption)) | omega | go_size))⟩
    | false =>
    simp at c0 c1 c2 c3
    have hx := HR.out
    have c4 : decide (0 ≤ m) = true := by simpa using (by omega : 0 ≤ m)
    have c5 : decide (m < n) = true := by simpa using (by omega : m < n)
    clear hx
    replace c0 : decide (n < 0) = false := by simpa using c0
    replace c1 : decide (99 < n) = false := by simpa using c1
    replace c2 : decide (m < -1) = false := by simpa using c2
    replace c3 : decide (99 < m) = false := by simpa using c3
    go_wp2
    go_ret
    exact ⟨rfl, by (repeat' (first | (with_reducible exact Below.refl _ _) | (with_reducible assumption) | (with_reducible refine Below.alloc ?_ ?_ _) | (with_reducible refine Below.drew ?_) | (with_reducible refine below_set ?_ ?_ _) | (with_reducible refine below_call ?_ ?_ (by assumption)) | (with_reducible exact Below.size (by assumption)) | omega | go_size))⟩
  · clear hT hd hdm hr
    go_wp2
    go_ret
    exact ⟨rfl, by (repeat' (first | (with_reducible exact Below.refl _ _) | (with_reducible assumption) | (with_reducible refine Below.alloc ?_ ?_ _) | (with_reducible refine Below.drew ?_) | (with_reducible refine below_set ?_ ?_ _) | (with_reducible refine below_call ?_ ?_ (by assumption)) | (with_reducible exact Below.size (by assumption)) | omega | go_size))⟩
  · clear hT hd hdm hr
    go_wp2
    go_ret
    exact ⟨rfl, by (repeat' (first | (with_reducible exact Below.refl _ _) | (with_reducible assumption) | (with_reducible refine Below.alloc ?_ ?_ _) | (with_reducible refine Below.drew ?_) | (with_reducible refine below_set ?_ ?_ _) | (with_reducible refine below_call ?_ ?_ (by assumption)) | (with_reducible exact Below.size (by assumption)) | omega | go_size))⟩
  · clear hT hd hdm hr
    go_wp2
    go_ret
    exact ⟨rfl, by (repeat' (first | (with_reducible exact Below.refl _ _) | (with_reducible assumption) | (with_reducible refine Below.alloc ?_ ?_ _) | (with_reducible refine Below.drew ?_) | (with_reducible refine below_set ?_ ?_ _) | (with_reducible refine below_call ?_ ?_ (by assumption)) | (with_reducible exact Below.size (by assumption)) | omega | go_size))⟩
  · clear hT hdm hr
    have c0 : decide (m < 0) = false := by simpa using h0
    have c1 : decide (99 < m) = false := by simpa using h1
    have c2 : decide (m < -1) = false := by simpa using (by omega : -1 ≤ m)
    have c4 : decide (0 ≤ m) = true := by simpa using h0
    have e0 : (m == -1) = false := by simpa using (by omega : ¬ m = -1)
    cases f0 : (m == 0) with
    | true =>
      obtain rfl : m = 0 := by simpa using f0
      go_wp2_with fail
      refine (digits_any 0 h0 h1 _).mono ?_
      rintro e2 w2 ⟨rfl, hb2⟩
      have HB := Lib.hid (below_then ((Below.refl _ w).alloc (Nat.le_refl _) _) hb2)
      clear hb2
      go_wp2
      go_ret
      exact ⟨congrArg Ending.returned (congrArg Value.string (ByteArray.ext (by simp [ByteArray.data_append, *]))), HB.out⟩
    | false =>
      cases f1 : (m == 1) with
      | true => go_wp2_with fail
                refine (digits_any m h0 h1 _).mono ?_
                rintro e2 w2 ⟨rfl, hb2⟩
                have HB := Lib.hid (below_then ((Below.refl _ w).alloc (Nat.le_refl _) _) hb2)
                clear hb2
                go_wp2
                go_ret
                exact ⟨congrArg Ending.returned (congrArg Value.string (ByteArray.ext (by simp [ByteArray.data_append, *]))), HB.out⟩
      | false => go_wp2_with fail
                 refine (digits_any m h0 h1 _).mono ?_
                 rintro e2 w2 ⟨rfl, hb2⟩
                 have HB := Lib.hid (below_then ((Below.refl _ w).alloc (Nat.le_refl _) _) hb2)
                 clear hb2
                 go_wp2
                 go_ret
                 exact ⟨congrArg Ending.returned (congrArg Value.string (ByteArray.ext (by simp [ByteArray.data_append, *]))), HB.out⟩
  · clear hT hdm hr
    have c0 : decide (n < 0) = false := by simpa using h0
    have c1 : decide (99 < n) = false := by simpa using h1
    have e0 : (n == 0) = false := by simpa using (by omega : ¬ n = 0)
    have e1 : (n == 1) = false := by simpa using (by omega : ¬ n = 1)
    have e2 : (n == -1) = false := by simpa using (by omega : ¬ n = -1)
    go_wp2_with fail
    refine (digits_any n h0 h1 _).mono ?_
    rintro e2 w2 ⟨rfl, hb2⟩
    have HB := Lib.hid (below_then ((Below.refl _ w).alloc (Nat.le_refl _) _) hb2)
    clear hb2
    go_wp2
    go_ret
    exact ⟨congrArg Ending.returned (congrArg Value.string (ByteArray.ext (by simp [ByteArray.data_append, *]))), HB.out⟩
  · clear hT hr
    have h0' : 0 ≤ m := by omega
    have c0 : decide (n < 0) = false := by simpa using h0
    have c1 : decide (99 < n) = false := by simpa using h1
    have c2 : decide (m < -1) = false := by simpa using (by omega : -1 ≤ m)
    have c3 : decide (99 < m) = false := by simpa using hm
    have c4 : decide (0 ≤ m) = true := by simpa using h0'
    have c5 : decide (m < n) = false := by simpa using (by omega : n ≤ m)
    have c6 : decide (m < 0) = false := by simpa using h0'
    have e0 : (m == -1) = false := by simpa using (by omega : ¬ m = -1)
    have e1 : (n == m) = false := by simpa using (by omega : ¬ n = m)
    cases f0 : (n == 0) with
    | true =>
      obtain rfl : n = 0 := by simpa using f0
      have e2 : (m == 1) = false := by simpa using (by omega : ¬ m = 1)
      go_wp2_with fail
      refine (digits_any 0 h0 h1 _).mono ?_
      rintro e2 w2 ⟨rfl, hb2⟩
      go_wp2_with fail
      refine (digits_any m h0' hm _).mono ?_
      rintro e3 w3 ⟨rfl, hb3⟩
      have HB := Lib.hid (below_then (below_then ((Below.refl _ w).alloc (Nat.le_refl _) _) hb2) hb3)
      clear hb2 hb3
      go_wp2
      go_ret
      exact ⟨congrArg Ending.returned (congrArg Value.string (ByteArray.ext (by simp [ByteArray.data_append, *]))), HB.out⟩
    | false =>
      cases f1 : (n == 1) with
      | true =>
        go_wp2_with fail
        refine (digits_any n h0 h1 _).mono ?_
        rintro e2 w2 ⟨rfl, hb2⟩
        go_wp2_with fail
        refine (digits_any m h0' hm _).mono ?_
        rintro e3 w3 ⟨rfl, hb3⟩
        have HB := Lib.hid (below_then (below_then ((Below.refl _ w).alloc (Nat.le_refl _) _) hb2) hb3)
        clear hb2 hb3
        go_wp2
        go_ret
        exact ⟨congrArg Ending.returned (congrArg Value.string (ByteArray.ext (by simp [ByteArray.data_append, *]))), HB.out⟩
      | false =>
        go_wp2_with fail
        refine (digits_any n h0 h1 _).mono ?_
        rintro e2 w2 ⟨rfl, hb2⟩
        go_wp2_with fail
        refine (digits_any m h0' hm _).mono ?_
        rintro e3 w3 ⟨rfl, hb3⟩
        have HB := Lib.hid (below_then (below_then ((Below.refl _ w).alloc (Nat.le_refl _) _) hb2) hb3)
        clear hb2 hb3
        go_wp2
        go_ret
        exact ⟨congrArg Ending.returned (congrArg Value.string (ByteArray.ext (by simp [ByteArray.data_append, *]))), HB.out⟩

set_option maxRecDepth 100000 in
set_option maxHeartbeats 2000000 in
theorem sure_any (w : World) : Calls Try.prog 13 #[] w fun e w' => e = .returned (.bool true) ∧ Below w.heap.size w w' := by
  go_enter Try.func13, Try.ntmps13
  go_wp2_with fail
  refine (read_any ⟨#[97, 123, 51, 44, 125]⟩ 1 (by decide) _).mono ?_
  rintro e1 w1 ⟨rfl, hb1⟩
  rw [show readF (ByteArray.mk #[97, 123, 51, 44, 125]).data.toList 1 = (3, -1, 5, 0, 0) by decide]
  have o0 : Slab (w1.alloc (.cells #[.int .i64 3, .int .i64 (-1)] 24)) w1.heap.size #[.int .i64 3, .int .i64 (-1)] 24 := Slab.new _ _ _
  have HB1 := Lib.hid ((hb1).alloc hb1.size (.cells #[.int .i64 3, .int .i64 (-1)] 24))
  clear hb1
  go_wp2_with fail
  refine (read_any ⟨#[123, 53, 48, 44, 52]⟩ 0 (by decide) _).mono ?_
  rintro e2 w2 ⟨rfl, hb2⟩
  rw [show readF (ByteArray.mk #[123, 53, 48, 44, 52]).data.toList 0 = (0, 0, 0, 6, 5) by decide]
  have o2 := o0.call hb2
  have HB2 := Lib.hid (below_then HB1.out hb2)
  clear hb2 HB1
  go_wp2_with fail
  refine (read_any ⟨#[123, 53, 48]⟩ 0 (by decide) _).mono ?_
  rintro e3 w3 ⟨rfl, hb3⟩
  rw [show readF (ByteArray.mk #[123, 53, 48]).data.toList 0 = (0, 0, 0, 2, 3) by decide]
  have o3 := (o2.alloc (.cells #[.int .i64 0, .int .i64 0] 24)).call hb3
  have HB3 := Lib.hid (below_then (HB2.out.alloc HB2.out.size _) hb3)
  clear hb3 HB2 o2 o0
  obtain ⟨c3, f3⟩ := (o3.alloc (.cells #[.int .i64 0, .int .i64 0] 24)).facts
  go_wp2_with fail
  refine (text_any 0 1 _).mono ?_
  rintro e4 w4 ⟨rfl, hb4⟩
  have HB4 := below_then (HB3.out.alloc HB3.out.size _) hb4
  go_wp2
  go_ret
  exact ⟨by first | rfl | decide, HB4⟩
end Go.Proofs.Ytgkfdjfoakbibaa
