/- BraceSure, walked. -/
import Derived.Test.YtgkfdjfoakbibaaProg
import Derived.WalkKit
import Derived.WalkSpells
import Derived.WalkLawsBesides
import Derived.Handy
import Derived.Lib.Hide
import Derived.Test.YtgkfdjfoakbibaaLaw4b
import Derived.Deep.QuietTactic
import Derived.BigQuiet
namespace Go.Proofs.Ytgkfdjfoakbibaa
open Go.RowKit BraceP
attribute [local go_sem] run_eq_span

theorem readF_cases (s : List UInt8) (i : Int) :
    (∃ (n m : Int) (t : Nat), readF s i = (n, m, (t : Int), 0, 0) ∧ rightB n m = true ∧ i < t ∧ t ≤ s.length ∧ 0 ≤ i) ∨ readF s i = (0, 0, 0, 2, (s.length : Int)) ∨
    (∃ (er : Int) (k : Nat), (er = 3 ∨ er = 6) ∧ readF s i = (0, 0, 0, er, (k : Int)) ∧ i < k ∧ k ≤ s.length ∧ 0 ≤ i) ∨ readF s i = (0, 0, 0, 1, 0) := by
  have hk := readF_known s i
  have h0 : (readF s i).2.2.2.1 ≠ 1 → 0 ≤ i := by
    intro h
    by_cases hi : i < 0
    · exfalso; apply h; unfold readF; rw [if_pos hi]
    · omega
  generalize readF s i = r at *
  obtain ⟨n, m, t, e, k⟩ := r
  rcases hk with (⟨he, hr, hlo, hhi, hk0⟩ | ⟨he, h1, h2, h3, h4⟩ | ⟨he, h1, h2, h3, hlo, hhi⟩) | hA
  · simp only at he hr hlo hhi hk0 h0
    subst he hk0
    have := h0 (by decide)
    obtain ⟨t', rfl⟩ := Int.eq_ofNat_of_zero_le (show 0 ≤ t by omega)
    exact .inl ⟨n, m, t', rfl, (right_iff n m).2 hr, hlo, by omega, this⟩
  · simp only at he h1 h2 h3 h4
    subst he h1 h2 h3 h4
    exact .inr (.inl rfl)
  · simp only at he h1 h2 h3 hlo hhi h0
    subst h1 h2 h3
    have := h0 (by omega)
    obtain ⟨k', rfl⟩ := Int.eq_ofNat_of_zero_le (show 0 ≤ k by omega)
    exact .inr (.inr (.inl ⟨e, k', he, rfl, hlo, by omega, this⟩))
  · exact .inr (.inr (.inr hA))
set_option maxRecDepth 100000 in
set_option maxHeartbeats 2000000 in
theorem sure4_any (s : ByteArray) (i : Int) (more : ByteArray) (w : World) :
    Calls Try.prog 5 #[.string s, .int .i64 i, .string more] w fun e w' => e = .returned (.bool true) ∧ Below w.heap.size w w' := by
  go_enter Try.func5, Try.ntmps5
  cases h : decide (400 < (s.size : Int)) with
  | true =>
    go_wp2_with fail
    refine (sure_any _).mono ?_
    rintro e1 w1 ⟨rfl, hb1⟩
    go_wp2
    go_ret
    exact ⟨rfl, hb1⟩
  | false =>
  cases h2 : decide (100 < (more.size : Int)) with
  | true =>
    go_wp2_with fail
    refine (sure_any _).mono ?_
    rintro e1 w1 ⟨rfl, hb1⟩
    go_wp2
    go_ret
    exact ⟨rfl, hb1⟩
  | false =>
  have hs : s.size ≤ 400 := by simp at h; omega
  have hm : more.size ≤ 100 := by simp at h2; omega
  have C1 := read_any s i (by omega)
  have hsure := readF_sure s.data.toList more.data.toList i
  have hc := readF_cases s.data.toList i
  have HSU := Lib.hid hsure; clear hsure
  rcases hc with ⟨n, m, t, hr, hri, hlo, hhi, hi0⟩ | hr | ⟨er, k, he, hr, hlo, hhi, hi0⟩ | hr
  · rw [hr] at C1 HSU
    clear hr
    have hT := textF_pos hri
    have hT7 := textF_len n m
    have CT := text_any n m
    obtain ⟨S, hS⟩ : ∃ S, (⟨(textF n m).toArray⟩ : ByteArray) = S := ⟨_, rfl⟩
    simp only [strV, hS] at CT
    have hz : S.size = (textF n m).length := by rw [← hS, mk_toArray]
    have e0 : S.toList ≠ [] := toList_ne (by omega)
    have e2 : S.toList.isEmpty = false := by simpa using e0
    have e3 : (S.toList == []) = false := by simpa using e0
    clear hS hT hT7 hz
    have ht : t ≤ s.size := by simpa using hhi
    have hU : readF (s.extract 0 t ++ more).data.toList i = (n, m, (t : Int), 0, 0) := by
      have e : (s.extract 0 t ++ more).data.toList = s.data.toList.take t ++ more.data.toList := by simp [ByteArray.data_append]
      rw [e]
      have := HSU.out (by simp) (by simp)
      simpa [cutOf] using this
    have C2 := read_any (s.extract 0 t ++ more) i (by rw [ByteArray.size_append']; simp; omega)
    rw [hU] at C2
    clear hU HSU
    have d1 : decide ((t : Int) ≤ i) = false := by simpa using hlo
    have d2 : decide (s.size < t) = false := by simpa using ht
    go_wp2_with fail
    refine (C1 _).mono ?_
    rintro e1 w1 ⟨rfl, hb1⟩
    have o1 : Slab (w1.alloc (.cells #[.int .i64 n, .int .i64 m] 24)) w1.heap.size #[.int .i64 n, .int .i64 m] 24 := Slab.new _ _ _
    have HB1 := Lib.hid (hb1.alloc hb1.size (.cells #[.int .i64 n, .int .i64 m] 24))
    clear hb1
    obtain ⟨c1, f1⟩ := Slab.facts (o1)
    go_wp2_with fail
    refine (CT _).mono ?_
    rintro e2 w2 ⟨rfl, hb2⟩
    have o2 := o1.call hb2
    have HB2 := Lib.hid (below_then HB1.out hb2)
    clear hb2 o1 HB1 c1 f1
    obtain ⟨c2, f2⟩ := Slab.facts (o2)
    go_wp2_with fail
    refine (C2 _).mono ?_
    rintro e3 w3 ⟨rfl, hb3⟩
    have o3 := (o2.call hb3).alloc (.cells #[.int .i64 n, .int .i64 m] 24)
    have HB3' := below_then HB2.out hb3
    have HB3 := Lib.hid (HB3'.alloc HB3'.size (.cells #[.int .i64 n, .int .i64 m] 24))
    clear hb3 o2 HB2 c2 f2 HB3'
    obtain ⟨c3, f3⟩ := Slab.facts (o3)
    go_wp2_with fail
    refine (sure_any _).mono ?_
    rintro e4 w4 ⟨rfl, hb4⟩
    have HB4 := below_then HB3.out hb4
    go_wp2
    go_ret
    exact ⟨rfl, HB4⟩
  · rw [hr] at C1
    clear hr HSU
    go_wp2_with fail
    refine (C1 _).mono ?_
    rintro e1 w1 ⟨rfl, hb1⟩
    have HB1 := Lib.hid (hb1.alloc hb1.size (.cells #[.int .i64 0, .int .i64 0] 24))
    clear hb1
    go_wp2_with fail
    refine (sure_any _).mono ?_
    rintro e4 w4 ⟨rfl, hb4⟩
    have HB4 := below_then HB1.out hb4
    go_wp2
    go_ret
    exact ⟨rfl, HB4⟩
  · rcases he with rfl | rfl
    · rw [hr] at C1 HSU
      clear hr
      have ht : k ≤ s.size := by simpa using hhi
      have hU : readF (s.extract 0 k ++ more).data.toList i = (0, 0, 0, 3, (k : Int)) := by
        have e : (s.extract 0 k ++ more).data.toList = s.data.toList.take k ++ more.data.toList := by simp [ByteArray.data_append]
        rw [e]
        have := HSU.out (by simp) (by simp)
        simpa [cutOf] using this
      have C2 := read_any (s.extract 0 k ++ more) i (by rw [ByteArray.size_append']; simp; omega)
      rw [hU] at C2
      clear hU HSU
      have d1 : decide ((k : Int) < 0) = false := by simp
      have d2 : decide (s.size < k) = false := by simpa using ht
      go_wp2_with fail
      refine (C1 _).mono ?_
      rintro e1 w1 ⟨rfl, hb1⟩
      have o1 : Slab (w1.alloc (.cells #[.int .i64 0, .int .i64 0] 24)) w1.heap.size #[.int .i64 0, .int .i64 0] 24 := Slab.new _ _ _
      have HB1 := Lib.hid (hb1.alloc hb1.size (.cells #[.int .i64 0, .int .i64 0] 24))
      clear hb1
      obtain ⟨c1, f1⟩ := Slab.facts (o1)
      go_wp2_with fail
      refine (C2 _).mono ?_
      rintro e3 w3 ⟨rfl, hb3⟩
      have o3 := (o1.call hb3).alloc (.cells #[.int .i64 0, .int .i64 0] 24)
      have HB3' := below_then HB1.out hb3
      have HB3 := Lib.hid (HB3'.alloc HB3'.size (.cells #[.int .i64 0, .int .i64 0] 24))
      clear hb3 o1 HB1 c1 f1 HB3'
      obtain ⟨c3, f3⟩ := Slab.facts (o3)
      go_wp2_with fail
      refine (sure_any _).mono ?_
      rintro e4 w4 ⟨rfl, hb4⟩
      have HB4 := below_then HB3.out hb4
      go_wp2
      go_ret
      exact ⟨rfl, HB4⟩
    · rw [hr] at C1 HSU
      clear hr
      have ht : k ≤ s.size := by simpa using hhi
      have hU : readF (s.extract 0 k ++ more).data.toList i = (0, 0, 0, 6, (k : Int)) := by
        have e : (s.extract 0 k ++ more).data.toList = s.data.toList.take k ++ more.data.toList := by simp [ByteArray.data_append]
        rw [e]
        have := HSU.out (by simp) (by simp)
        simpa [cutOf] using this
      have C2 := read_any (s.extract 0 k ++ more) i (by rw [ByteArray.size_append']; simp; omega)
      rw [hU] at C2
      clear hU HSU
      have d1 : decide ((k : Int) < 0) = false := by simp
      have d2 : decide (s.size < k) = false := by simpa using ht
      go_wp2_with fail
      refine (C1 _).mono ?_
      rintro e1 w1 ⟨rfl, hb1⟩
      have o1 : Slab (w1.alloc (.cells #[.int .i64 0, .int .i64 0] 24)) w1.heap.size #[.int .i64 0, .int .i64 0] 24 := Slab.new _ _ _
      have HB1 := Lib.hid (hb1.alloc hb1.size (.cells #[.int .i64 0, .int .i64 0] 24))
      clear hb1
      obtain ⟨c1, f1⟩ := Slab.facts (o1)
      go_wp2_with fail
      refine (C2 _).mono ?_
      rintro e3 w3 ⟨rfl, hb3⟩
      have o3 := (o1.call hb3).alloc (.cells #[.int .i64 0, .int .i64 0] 24)
      have HB3' := below_then HB1.out hb3
      have HB3 := Lib.hid (HB3'.alloc HB3'.size (.cells #[.int .i64 0, .int .i64 0] 24))
      clear hb3 o1 HB1 c1 f1 HB3'
      obtain ⟨c3, f3⟩ := Slab.facts (o3)
      go_wp2_with fail
      refine (sure_any _).mono ?_
      rintro e4 w4 ⟨rfl, hb4⟩
      have HB4 := below_then HB3.out hb4
      go_wp2
      go_ret
      exact ⟨rfl, HB4⟩
  · rw [hr] at C1
    clear hr HSU
    go_wp2_with fail
    refine (C1 _).mono ?_
    rintro e1 w1 ⟨rfl, hb1⟩
    have HB1 := Lib.hid (hb1.alloc hb1.size (.cells #[.int .i64 0, .int .i64 0] 24))
    clear hb1
    go_wp2_with fail
    refine (sure_any _).mono ?_
    rintro e4 w4 ⟨rfl, hb4⟩
    have HB4 := below_then HB1.out hb4
    go_wp2
    go_ret
    exact ⟨rfl, HB4⟩
end Go.Proofs.Ytgkfdjfoakbibaa
