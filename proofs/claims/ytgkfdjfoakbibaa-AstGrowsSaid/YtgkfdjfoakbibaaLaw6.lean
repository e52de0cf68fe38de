/- The statements of stage 6, walked: what must come whatever the input is. -/
import Derived.Test.YtgkfdjfoakbibaaProg
import Derived.WalkKit
import Derived.WalkSpells
import Derived.WalkLawsBesides
import Derived.Handy
import Derived.Lib.Hide
import Derived.Test.YtgkfdjfoakbibaaAstM
import Derived.Test.YtgkfdjfoakbibaaAstJ
namespace Go.Proofs.Ytgkfdjfoakbibaa
open Go.RowKit SetP AstP
def flatN (L : List Nd) : List Value := L.flatMap fun x => (ndCells x).toList
theorem flat_get (L : List Nd) (j f : Nat) (hj : j < L.length) (hf : f < 8) : (flatN L)[j * 8 + f]? = (ndCells (L.getD j ndEmpty))[f]? := by
  induction L generalizing j with
  | nil => simp at hj
  | cons x L ih =>
    have e : flatN (x :: L) = (ndCells x).toList ++ flatN L := rfl
    rw [e]
    cases j with
    | zero => rw [Nat.zero_mul, Nat.zero_add, List.getElem?_append_left (by simpa using hf)]; simp
    | succ j =>
      rw [List.getElem?_append_right (by simp; omega)]
      have := ih j (by simpa using hj)
      rw [show (j + 1) * 8 + f - (ndCells x).toList.length = j * 8 + f by simp; omega]
      rw [this]; rfl
theorem NodesAt.slab {w : World} {B g : Nat} {L : List Nd} (h : Slab w g (flatN L).toArray 48) (hB : g < B) (hl : L.length ≤ 1000000000000) : NodesAt w B (some ⟨g, 0, none⟩) L :=
  ⟨hl, .inr ⟨g, 0, rfl, hB, fun j hj f hf => by rw [h.cell, Nat.zero_add]; simpa using flat_get L j f hj hf⟩⟩
theorem NodesAt.take {w : World} {B : Nat} {A : Option Addr} {L : List Nd} (h : NodesAt w B A L) (n : Nat) : NodesAt w B A (L.take n) := by
  obtain ⟨h1, h2⟩ := h
  refine ⟨by rw [List.length_take]; omega, ?_⟩
  rcases h2 with h2 | ⟨b, off, rfl, hB, hc⟩
  · exact .inl (by rw [List.length_take]; omega)
  · refine .inr ⟨b, off, rfl, hB, fun j hj f hf => ?_⟩
    rw [List.length_take] at hj
    rw [hc j (by omega) f hf, List.getD_eq_getElem?_getD, List.getD_eq_getElem?_getD, List.getElem?_take_of_lt (by omega)]
theorem IntsAt.slab {w : World} {B g : Nat} {l : List Nat} (h : Slab w g (intsA l) 3) (hB : g < B) (hl : l.length ≤ 1000000000000) : IntsAt w B (some ⟨g, 0, none⟩) l :=
  ⟨hl, .inr ⟨g, 0, rfl, hB, fun j hj => by rw [Nat.zero_add, h.cell]; exact ints_get l hj⟩⟩
def L6 : List Nd := [⟨2, 0, 0, 0, fun _ => false⟩, ⟨2, 0, 0, 0, fun _ => false⟩, ⟨3, 1, 0, 0, fun _ => false⟩, ⟨5, 2, 0, 0, fun _ => false⟩]
theorem L6_formed : formedF L6 = true := by decide +kernel
theorem L6_right : rightF L6 = true := by decide +kernel
theorem L6_two : formedF (L6.take 2) = false := by decide +kernel
theorem L6_kids : kidsF L6 3 = [0, 2] := by decide +kernel
theorem L6_sizes : sizesF L6 = [1, 1, 2, 4] := by decide +kernel
theorem L6_nums : numsF L6 = [0, 0, 1, 0] := by decide +kernel
set_option maxRecDepth 100000 in
set_option maxHeartbeats 2000000 in
theorem few_any (A : Option Addr) (c n : Nat) (w : World) : Calls Try.prog 20 #[.slice A n c] w fun e w' => e = .returned (.bool (decide (n ≤ 60))) ∧ w' = w := by
  have h : decide ((n : Int) ≤ 60) = decide (n ≤ 60) := by rw [Bool.eq_iff_iff]; simp; omega
  cases h6 : decide (n ≤ 60)
  all_goals
    rw [h6] at h
    go_enter Try.func20, Try.ntmps20
    go_wp2
    go_ret
    exact ⟨rfl, rfl⟩
theorem n6_flat : (#[.int .i64 2, .int .i64 0, .int .i64 0, .int .i64 0, .int .u64 0, .int .u64 0, .int .u64 0, .int .u64 0, .int .i64 2, .int .i64 0, .int .i64 0, .int .i64 0, .int .u64 0, .int .u64 0, .int .u64 0, .int .u64 0, .int .i64 3, .int .i64 1, .int .i64 0, .int .i64 0, .int .u64 0, .int .u64 0, .int .u64 0, .int .u64 0, .int .i64 5, .int .i64 2, .int .i64 0, .int .i64 0, .int .u64 0, .int .u64 0, .int .u64 0, .int .u64 0] : Array Value) = (flatN L6).toArray := by
  simp [flatN, L6, ndCells, wd_zero]
theorem formed4 (A : Option Addr) (c : Nat) (w : World) (h : NodesAt w w.heap.size A L6) : Calls Try.prog 22 #[.slice A 4 c] w fun e w' => e = .returned (.bool true) ∧ Below w.heap.size w w' := by
  have := formed_any A c L6 w h; rwa [L6_formed] at this
theorem right4 (A : Option Addr) (c : Nat) (w : World) (h : NodesAt w w.heap.size A L6) : Calls Try.prog 24 #[.slice A 4 c] w fun e w' => e = .returned (.bool true) ∧ Below w.heap.size w w' := by
  have := right_any A c L6 w h; rwa [L6_right] at this
theorem formed2 (A : Option Addr) (c : Nat) (w : World) (h : NodesAt w w.heap.size A L6) : Calls Try.prog 22 #[.slice A 2 c] w fun e w' => e = .returned (.bool false) ∧ Below w.heap.size w w' := by
  have := formed_any A c (L6.take 2) w (h.take 2); rwa [L6_two] at this
theorem kids4 (A : Option Addr) (c : Nat) (w : World) (h : NodesAt w w.heap.size A L6) : Calls Try.prog 29 #[.slice A 4 c, .int .i64 3] w (RetRow 3 1 2 (ints [0, 2]) w) := by
  have := kids_any A c L6 3 w h; rwa [L6_kids] at this
theorem sizes4 (A : Option Addr) (c : Nat) (w : World) (h : NodesAt w w.heap.size A L6) : Calls Try.prog 27 #[.slice A 4 c] w (RetRow 3 1 4 (ints [1, 1, 2, 4]) w) := by
  have := sizes_any A c L6 w h; rwa [L6_sizes] at this
theorem numbers4 (A : Option Addr) (c : Nat) (w : World) (h : NodesAt w w.heap.size A L6) : Calls Try.prog 31 #[.slice A 4 c] w (RetRow 3 1 4 (ints [0, 0, 1, 0]) w) := by
  have := numbers_any A c L6 w h; rwa [L6_nums] at this
set_option maxRecDepth 100000 in
set_option maxHeartbeats 2000000 in
theorem sure6_any (w : World) : Calls Try.prog 21 #[] w fun e w' => e = .returned (.bool true) ∧ Below w.heap.size w w' := by
  have o0 : Slab (w.alloc (.cells (#[.int .i64 2, .int .i64 0, .int .i64 0, .int .i64 0, .int .u64 0, .int .u64 0, .int .u64 0, .int .u64 0, .int .i64 2, .int .i64 0, .int .i64 0, .int .i64 0, .int .u64 0, .int .u64 0, .int .u64 0, .int .u64 0, .int .i64 3, .int .i64 1, .int .i64 0, .int .i64 0, .int .u64 0, .int .u64 0, .int .u64 0, .int .u64 0, .int .i64 5, .int .i64 2, .int .i64 0, .int .i64 0, .int .u64 0, .int .u64 0, .int .u64 0, .int .u64 0]) 48)) w.heap.size (flatN L6).toArray 48 := by rw [← n6_flat]; exact Slab.new _ _ _
  have hnd : NodesAt (w.alloc (.cells (#[.int .i64 2, .int .i64 0, .int .i64 0, .int .i64 0, .int .u64 0, .int .u64 0, .int .u64 0, .int .u64 0, .int .i64 2, .int .i64 0, .int .i64 0, .int .i64 0, .int .u64 0, .int .u64 0, .int .u64 0, .int .u64 0, .int .i64 3, .int .i64 1, .int .i64 0, .int .i64 0, .int .u64 0, .int .u64 0, .int .u64 0, .int .u64 0, .int .i64 5, .int .i64 2, .int .i64 0, .int .i64 0, .int .u64 0, .int .u64 0, .int .u64 0, .int .u64 0]) 48)) (w.heap.size + 1) (some ⟨w.heap.size, 0, none⟩) L6 := NodesAt.slab o0 (by omega) (by decide)
  have hz : ∀ w', Below w.heap.size w w' → Below (w.heap.size + 1) (w.alloc (.cells (#[.int .i64 2, .int .i64 0, .int .i64 0, .int .i64 0, .int .u64 0, .int .u64 0, .int .u64 0, .int .u64 0, .int .i64 2, .int .i64 0, .int .i64 0, .int .i64 0, .int .u64 0, .int .u64 0, .int .u64 0, .int .u64 0, .int .i64 3, .int .i64 1, .int .i64 0, .int .i64 0, .int .u64 0, .int .u64 0, .int .u64 0, .int .u64 0, .int .i64 5, .int .i64 2, .int .i64 0, .int .i64 0, .int .u64 0, .int .u64 0, .int .u64 0, .int .u64 0]) 48)) w' → NodesAt w' w'.heap.size (some ⟨w.heap.size, 0, none⟩) L6 := fun w' _ h => (hnd.below h).more (by have := h.size; simpa using this)
  have HZ := Lib.hid hz
  clear o0 hnd hz
  go_enter Try.func21, Try.ntmps21
  have hb0 := below_al (Below.refl w.heap.size w) (.cells (#[.int .i64 2, .int .i64 0, .int .i64 0, .int .i64 0, .int .u64 0, .int .u64 0, .int .u64 0, .int .u64 0, .int .i64 2, .int .i64 0, .int .i64 0, .int .i64 0, .int .u64 0, .int .u64 0, .int .u64 0, .int .u64 0, .int .i64 3, .int .i64 1, .int .i64 0, .int .i64 0, .int .u64 0, .int .u64 0, .int .u64 0, .int .u64 0, .int .i64 5, .int .i64 2, .int .i64 0, .int .i64 0, .int .u64 0, .int .u64 0, .int .u64 0, .int .u64 0]) 48)
  have hx0 : Below (w.heap.size + 1) (w.alloc (.cells (#[.int .i64 2, .int .i64 0, .int .i64 0, .int .i64 0, .int .u64 0, .int .u64 0, .int .u64 0, .int .u64 0, .int .i64 2, .int .i64 0, .int .i64 0, .int .i64 0, .int .u64 0, .int .u64 0, .int .u64 0, .int .u64 0, .int .i64 3, .int .i64 1, .int .i64 0, .int .i64 0, .int .u64 0, .int .u64 0, .int .u64 0, .int .u64 0, .int .i64 5, .int .i64 2, .int .i64 0, .int .i64 0, .int .u64 0, .int .u64 0, .int .u64 0, .int .u64 0]) 48)) (w.alloc (.cells (#[.int .i64 2, .int .i64 0, .int .i64 0, .int .i64 0, .int .u64 0, .int .u64 0, .int .u64 0, .int .u64 0, .int .i64 2, .int .i64 0, .int .i64 0, .int .i64 0, .int .u64 0, .int .u64 0, .int .u64 0, .int .u64 0, .int .i64 3, .int .i64 1, .int .i64 0, .int .i64 0, .int .u64 0, .int .u64 0, .int .u64 0, .int .u64 0, .int .i64 5, .int .i64 2, .int .i64 0, .int .i64 0, .int .u64 0, .int .u64 0, .int .u64 0, .int .u64 0]) 48)) := Below.refl _ _
  have hs0 : w.heap.size + 1 ≤ (w.alloc (.cells (#[.int .i64 2, .int .i64 0, .int .i64 0, .int .i64 0, .int .u64 0, .int .u64 0, .int .u64 0, .int .u64 0, .int .i64 2, .int .i64 0, .int .i64 0, .int .i64 0, .int .u64 0, .int .u64 0, .int .u64 0, .int .u64 0, .int .i64 3, .int .i64 1, .int .i64 0, .int .i64 0, .int .u64 0, .int .u64 0, .int .u64 0, .int .u64 0, .int .i64 5, .int .i64 2, .int .i64 0, .int .i64 0, .int .u64 0, .int .u64 0, .int .u64 0, .int .u64 0]) 48)).heap.size := by simp
  have HB0 := Lib.hid hb0
  have HX0 := Lib.hid hx0
  have HS0 := Lib.hid hs0
  clear hb0 hx0 hs0
  go_wp2_with fail
  refine (formed4 _ _ _ (HZ.out _ HB0.out HX0.out)).mono ?_
  rintro e1 w1 ⟨rfl, hb1⟩
  have HB1 := Lib.hid (below_then HB0.out hb1)
  have HX1 := Lib.hid (HX0.out.trans (hb1.mono HS0.out))
  have HS1 := Lib.hid (Nat.le_trans HS0.out hb1.size)
  clear hb1 HB0 HX0 HS0
  go_wp2_with fail
  refine (right4 _ _ _ (HZ.out _ HB1.out HX1.out)).mono ?_
  rintro e2 w2 ⟨rfl, hb2⟩
  have HB2 := Lib.hid (below_then HB1.out hb2)
  have HX2 := Lib.hid (HX1.out.trans (hb2.mono HS1.out))
  have HS2 := Lib.hid (Nat.le_trans HS1.out hb2.size)
  clear hb2 HB1 HX1 HS1
  go_wp2_with fail
  refine (formed2 _ _ _ (HZ.out _ HB2.out HX2.out)).mono ?_
  rintro e3 w3 ⟨rfl, hb3⟩
  have HB3 := Lib.hid (below_then HB2.out hb3)
  have HX3 := Lib.hid (HX2.out.trans (hb3.mono HS2.out))
  have HS3 := Lib.hid (Nat.le_trans HS2.out hb3.size)
  clear hb3 HB2 HX2 HS2
  go_wp2_with fail
  refine (kids4 _ _ _ (HZ.out _ HB3.out HX3.out)).mono ?_
  rintro e4 w4 ⟨A4, c4, rfl, hrow, hb4⟩
  have HI4 := Lib.hid (row_at0 hrow (by omega))
  have HB4 := Lib.hid (below_then HB3.out hb4)
  have HX4 := Lib.hid (HX3.out.trans (hb4.mono HS3.out))
  have HS4 := Lib.hid (Nat.le_trans HS3.out hb4.size)
  clear hrow hb4 HB3 HX3 HS3
  have o4 : Slab (w4.alloc (.cells (#[.int .i64 0, .int .i64 2]) 3)) w4.heap.size (intsA ([0, 2])) 3 := Slab.new _ _ _
  have CI := ints_any A4 (some ⟨w4.heap.size, 0, none⟩) c4 (([0, 2] : List Nat).length) ([0, 2]) ([0, 2]) (w4.alloc (.cells (#[.int .i64 0, .int .i64 2]) 3)) ((HI4.out.below ((Below.refl _ _).alloc (Nat.le_refl _) _)).more (by simp)) (IntsAt.slab o4 (by simp) (by decide))
  rw [show (([0, 2] : List Nat) == [0, 2]) = true by decide] at CI
  have hbl4 := (Below.refl (w.heap.size + 1) w4).alloc HS4.out (.cells (#[.int .i64 0, .int .i64 2]) 3)
  have hbm4 := below_al HB4.out (.cells (#[.int .i64 0, .int .i64 2]) 3)
  have HBL := Lib.hid hbl4
  have HBM := Lib.hid hbm4
  clear o4 hbl4 hbm4 HI4
  go_wp2_with fail
  refine CI.mono ?_
  rintro e5 w5 ⟨rfl, hb5⟩
  have HB5 := Lib.hid (below_then HBM.out hb5)
  have HX5 := Lib.hid (HX4.out.trans (HBL.out.trans (hb5.mono (by have := HS4.out; simp; omega))))
  have HS5 := Lib.hid (Nat.le_trans HS4.out (Nat.le_trans (by simp) hb5.size))
  clear hb5 HBL HBM CI HB4 HX4 HS4
  go_wp2_with fail
  refine (sizes4 _ _ _ (HZ.out _ HB5.out HX5.out)).mono ?_
  rintro e6 w6 ⟨A6, c6, rfl, hrow, hb6⟩
  have HI6 := Lib.hid (row_at0 hrow (by omega))
  have HB6 := Lib.hid (below_then HB5.out hb6)
  have HX6 := Lib.hid (HX5.out.trans (hb6.mono HS5.out))
  have HS6 := Lib.hid (Nat.le_trans HS5.out hb6.size)
  clear hrow hb6 HB5 HX5 HS5
  have o6 : Slab (w6.alloc (.cells (#[.int .i64 1, .int .i64 1, .int .i64 2, .int .i64 4]) 3)) w6.heap.size (intsA ([1, 1, 2, 4])) 3 := Slab.new _ _ _
  have CI := ints_any A6 (some ⟨w6.heap.size, 0, none⟩) c6 (([1, 1, 2, 4] : List Nat).length) ([1, 1, 2, 4]) ([1, 1, 2, 4]) (w6.alloc (.cells (#[.int .i64 1, .int .i64 1, .int .i64 2, .int .i64 4]) 3)) ((HI6.out.below ((Below.refl _ _).alloc (Nat.le_refl _) _)).more (by simp)) (IntsAt.slab o6 (by simp) (by decide))
  rw [show (([1, 1, 2, 4] : List Nat) == [1, 1, 2, 4]) = true by decide] at CI
  have hbl6 := (Below.refl (w.heap.size + 1) w6).alloc HS6.out (.cells (#[.int .i64 1, .int .i64 1, .int .i64 2, .int .i64 4]) 3)
  have hbm6 := below_al HB6.out (.cells (#[.int .i64 1, .int .i64 1, .int .i64 2, .int .i64 4]) 3)
  have HBL := Lib.hid hbl6
  have HBM := Lib.hid hbm6
  clear o6 hbl6 hbm6 HI6
  go_wp2_with fail
  refine CI.mono ?_
  rintro e7 w7 ⟨rfl, hb7⟩
  have HB7 := Lib.hid (below_then HBM.out hb7)
  have HX7 := Lib.hid (HX6.out.trans (HBL.out.trans (hb7.mono (by have := HS6.out; simp; omega))))
  have HS7 := Lib.hid (Nat.le_trans HS6.out (Nat.le_trans (by simp) hb7.size))
  clear hb7 HBL HBM CI HB6 HX6 HS6
  go_wp2_with fail
  refine (numbers4 _ _ _ (HZ.out _ HB7.out HX7.out)).mono ?_
  rintro e8 w8 ⟨A8, c8, rfl, hrow, hb8⟩
  have HI8 := Lib.hid (row_at0 hrow (by omega))
  have HB8 := Lib.hid (below_then HB7.out hb8)
  have HX8 := Lib.hid (HX7.out.trans (hb8.mono HS7.out))
  have HS8 := Lib.hid (Nat.le_trans HS7.out hb8.size)
  clear hrow hb8 HB7 HX7 HS7
  have o8 : Slab (w8.alloc (.cells (#[.int .i64 0, .int .i64 0, .int .i64 1, .int .i64 0]) 3)) w8.heap.size (intsA ([0, 0, 1, 0])) 3 := Slab.new _ _ _
  have CI := ints_any A8 (some ⟨w8.heap.size, 0, none⟩) c8 (([0, 0, 1, 0] : List Nat).length) ([0, 0, 1, 0]) ([0, 0, 1, 0]) (w8.alloc (.cells (#[.int .i64 0, .int .i64 0, .int .i64 1, .int .i64 0]) 3)) ((HI8.out.below ((Below.refl _ _).alloc (Nat.le_refl _) _)).more (by simp)) (IntsAt.slab o8 (by simp) (by decide))
  rw [show (([0, 0, 1, 0] : List Nat) == [0, 0, 1, 0]) = true by decide] at CI
  have hbl8 := (Below.refl (w.heap.size + 1) w8).alloc HS8.out (.cells (#[.int .i64 0, .int .i64 0, .int .i64 1, .int .i64 0]) 3)
  have hbm8 := below_al HB8.out (.cells (#[.int .i64 0, .int .i64 0, .int .i64 1, .int .i64 0]) 3)
  have HBL := Lib.hid hbl8
  have HBM := Lib.hid hbm8
  clear o8 hbl8 hbm8 HI8
  go_wp2_with fail
  refine CI.mono ?_
  rintro e9 w9 ⟨rfl, hb9⟩
  have HB9 := Lib.hid (below_then HBM.out hb9)
  have HX9 := Lib.hid (HX8.out.trans (HBL.out.trans (hb9.mono (by have := HS8.out; simp; omega))))
  have HS9 := Lib.hid (Nat.le_trans HS8.out (Nat.le_trans (by simp) hb9.size))
  clear hb9 HBL HBM CI HB8 HX8 HS8
  go_wp2
  go_ret
  exact ⟨rfl, HB9.out⟩
end Go.Proofs.Ytgkfdjfoakbibaa
