/- BraceBack, walked. -/
import Derived.Test.YtgkfdjfoakbibaaProg
import Derived.WalkKit
import Derived.WalkSpells
import Derived.WalkLawsBesides
import Derived.Handy
import Derived.Lib.Hide
import Derived.Test.YtgkfdjfoakbibaaBraceG
import Derived.Test.YtgkfdjfoakbibaaBraceQ
namespace Go.Proofs.Ytgkfdjfoakbibaa
open Go.RowKit BraceP
attribute [local go_sem] run_eq_span

theorem toList_nil {S : ByteArray} (h : S.size = 0) : S.toList = [] := by
  rw [ByteArray.toList_eq]; exact List.eq_nil_of_length_eq_zero (by simpa using h)
theorem toList_ne {S : ByteArray} (h : 0 < S.size) : S.toList ≠ [] := by
  rw [ByteArray.toList_eq]; intro e
  have h2 : S.data.toList.length = S.size := by simp
  rw [e] at h2
  have h3 : S.size = 0 := h2.symm
  omega
theorem textF_pos {n m : Int} (h : rightB n m = true) : 0 < (textF n m).length := by
  rcases text_cases (rfl : textF n m = textF n m) with ⟨hr, _⟩ | ⟨_, _, _, ⟨_, _, e⟩ | ⟨_, _, e⟩ | ⟨_, _, e⟩ | ⟨_, e⟩ | ⟨_, _, e⟩ | ⟨_, _, _, e⟩⟩
  · rw [h] at hr; cases hr
  all_goals (rw [e]; simp)
theorem textF_len (n m : Int) : (textF n m).length ≤ 7 := by
  have := digF_len n; have := digF_len m
  rcases text_cases (rfl : textF n m = textF n m) with ⟨_, e⟩ | ⟨_, _, _, ⟨_, _, e⟩ | ⟨_, _, e⟩ | ⟨_, _, e⟩ | ⟨_, e⟩ | ⟨_, _, e⟩ | ⟨_, _, _, e⟩⟩
  all_goals (rw [e]; simp; try omega)

set_option maxRecDepth 100000 in
set_option maxHeartbeats 2000000 in
theorem back4_any (n m : Int) (w : World) :
    Calls Try.prog 4 #[.int .i64 n, .int .i64 m] w fun e w' => e = .returned (.bool true) ∧ Below w.heap.size w w' := by
  obtain ⟨S, hS⟩ : ∃ S, (⟨(textF n m).toArray⟩ : ByteArray) = S := ⟨_, rfl⟩
  have C1 := text_any n m
  have C2 := rtext_any n m
  simp only [strV, hS] at C1 C2
  have hz : S.size = (textF n m).length := by rw [← hS, mk_toArray]
  have hz7 := textF_len n m
  go_enter Try.func4, Try.ntmps4
  go_wp2_with fail
  refine (C1 _).mono ?_
  rintro e1 w1 ⟨rfl, hb1⟩
  go_wp2_with fail
  refine (C2 _).mono ?_
  rintro e2 w2 ⟨rfl, hb2⟩
  have HB2 := Lib.hid (below_then hb1 hb2)
  clear hb1 hb2
  cases hr : rightB n m with
  | false =>
    have h0 : S.size = 0 := by
      rw [hz]; unfold textF; rw [hr]; rfl
    have e0 : S.toList = [] := toList_nil h0
    have e1 : S.toList.isEmpty = true := by rw [e0]; rfl
    clear hS hz hz7
    go_wp2_with fail
    refine (sure_any _).mono ?_
    rintro e3 w3 ⟨rfl, hb3⟩
    have HB3 := below_then HB2.out hb3
    go_wp2
    go_ret
    exact ⟨rfl, HB3⟩
  | true =>
    have hp := textF_pos hr
    have e0 : S.toList ≠ [] := toList_ne (by omega)
    have e1 : (S.toList == []) = false := by simpa using e0
    have e2 : S.toList.isEmpty = false := by simpa using e0
    have hrd : readF S.data.toList 0 = (n, m, (S.size : Int), 0, 0) := by
      rw [hz, ← readF_text n m hr, ← hS]
    have hsz : S.size ≤ 4611686018427387904 := by omega
    have C3 := read_any S 0 hsz
    rw [hrd] at C3
    clear hS hrd
    go_wp2_with fail
    refine (C3 _).mono ?_
    rintro e3 w3 ⟨rfl, hb3⟩
    have o3 : Slab (w3.alloc (.cells #[.int .i64 n, .int .i64 m] 24)) w3.heap.size #[.int .i64 n, .int .i64 m] 24 := Slab.new _ _ _
    have HB3 := Lib.hid (below_then HB2.out hb3)
    clear hb3
    obtain ⟨c3, f3⟩ := o3.facts
    go_wp2_with fail
    refine (sure_any _).mono ?_
    rintro e4 w4 ⟨rfl, hb4⟩
    have HB4 := below_then (HB3.out.alloc HB3.out.size _) hb4
    go_wp2
    go_ret
    exact ⟨rfl, HB4⟩
end Go.Proofs.Ytgkfdjfoakbibaa
