/- AstTells, AstKids, AstNumbers, walked. -/
import Derived.Test.YtgkfdjfoakbibaaProg
import Derived.WalkKit
import Derived.WalkSpells
import Derived.WalkLawsBesides
import Derived.Handy
import Derived.Lib.Hide
import Derived.Test.YtgkfdjfoakbibaaLaw6
namespace Go.Proofs.Ytgkfdjfoakbibaa
open Go.RowKit SetP AstP
/-- A list that came in: of few nodes it is known what they are. -/
def Came (w : World) (A : Option Addr) (n : Nat) : Prop := n ≤ 60 → ∃ L : List Nd, L.length = n ∧ NodesAt w w.heap.size A L
theorem same_self (l : List Nat) : (l == l) = true := by simp
set_option maxRecDepth 100000 in
set_option maxHeartbeats 2000000 in
theorem astnumbers_any (A : Option Addr) (c n : Nat) (w : World) (h : Came w A n) :
    Calls Try.prog 10 #[.slice A n c] w fun e w' => e = .returned (.bool true) ∧ Below w.heap.size w w' := by
  by_cases hn : n ≤ 60
  · obtain ⟨L, hl, hL⟩ := h hn
    have hd := decide_eq_true hn
    have HL := Lib.hid hL
    have C1 := fun (w : World) (h : NodesAt w w.heap.size A L) => numbers_any A c L w h
    have C2 := fun (w : World) (h : NodesAt w w.heap.size A L) => rnumbers_any A c L w h
    rw [hl] at C1 C2
    have hK : (numsF L).length ≤ 1000000000000 := by
      cases hF : formedF L with
      | true => rw [numsF_length hF]; omega
      | false => rw [numsF_not hF]; simp
    obtain ⟨K, hk⟩ : ∃ K, numsF L = K := ⟨_, rfl⟩
    rw [hk] at C1 C2 hK
    obtain ⟨M, hM⟩ : ∃ M, K.length = M := ⟨_, rfl⟩
    rw [hM] at C1 C2 hK
    have HM := Lib.hid hM
    have HB0 := Lib.hid (Below.refl w.heap.size w)
    clear h hL hl hk hM
    go_enter Try.func10, Try.ntmps10
    go_wp2_with fail
    refine (few_any A c n _).mono ?_
    rintro e0 w0 ⟨rfl, rfl⟩
    rw [hd]
    go_wp2_with fail
    refine (C1 _ HL.out).mono ?_
    rintro e3 w3 ⟨A3, c3, rfl, hrow, hb3⟩
    have HI3 := Lib.hid (row_at0 hrow hK)
    have HB3 := Lib.hid hb3
    clear hrow hb3
    go_wp2_with fail
    refine (C2 _ ((HL.out.below HB3.out).more HB3.out.size)).mono ?_
    rintro e4 w4 ⟨A4, c4, rfl, hrow, hb4⟩
    have HI4 := Lib.hid (row_at0 hrow hK)
    have HI5 := Lib.hid ((HI3.out.below hb4).more hb4.size)
    have HB4 := Lib.hid (below_then HB3.out hb4)
    have CI := ints_any A3 A4 c3 c4 K K w4 HI5.out HI4.out
    rw [same_self, HM.out] at CI
    clear hrow hb4 HI3 HI4 HI5
    go_wp2_with fail
    refine CI.mono ?_
    rintro e5 w5 ⟨rfl, hb5⟩
    have HB5 := Lib.hid (below_then HB4.out hb5)
    go_wp2_with fail
    refine (sure6_any _).mono ?_
    rintro e6 w6 ⟨rfl, hb6⟩
    have HB6 := below_then HB5.out hb6
    go_wp2
    go_ret
    exact ⟨rfl, HB6⟩
  · have hd := decide_eq_false hn
    clear h
    go_enter Try.func10, Try.ntmps10
    go_wp2_with fail
    refine (few_any A c n _).mono ?_
    rintro e0 w0 ⟨rfl, rfl⟩
    rw [hd]
    go_wp2_with fail
    refine (sure6_any _).mono ?_
    rintro e1 w1 ⟨rfl, hb1⟩
    go_wp2
    go_ret
    exact ⟨rfl, hb1⟩
set_option maxRecDepth 100000 in
set_option maxHeartbeats 2000000 in
theorem astkids_any (A : Option Addr) (c n : Nat) (i : Int) (w : World) (h : Came w A n) :
    Calls Try.prog 9 #[.slice A n c, .int .i64 i] w fun e w' => e = .returned (.bool true) ∧ Below w.heap.size w w' := by
  by_cases hn : n ≤ 60
  · obtain ⟨L, hl, hL⟩ := h hn
    have hd := decide_eq_true hn
    have HL := Lib.hid hL
    have C1 := fun (w : World) (h : NodesAt w w.heap.size A L) => kids_any A c L i w h
    have C2 := fun (w : World) (h : NodesAt w w.heap.size A L) => rkids_any A c L i w h
    rw [hl] at C1 C2
    have hK : (kidsF L i).length ≤ 1000000000000 := by
      by_cases hi : i < 0 ∨ ((sizesF L).length : Int) ≤ i
      · unfold kidsF; rw [if_pos hi]; simp
      · obtain ⟨k, rfl⟩ := Int.eq_ofNat_of_zero_le (show 0 ≤ i by omega)
        have hF := formed_of_len (L := L) (k := k) (by omega)
        have hle := sizes_len_le L
        rw [kidsF_length hF (by omega)]
        have := formed_at (L := L) (k := k) hF (by omega)
        have := St_len (L := L) (k := k) (by omega)
        omega
    obtain ⟨K, hk⟩ : ∃ K, kidsF L i = K := ⟨_, rfl⟩
    rw [hk] at C1 C2 hK
    obtain ⟨M, hM⟩ : ∃ M, K.length = M := ⟨_, rfl⟩
    rw [hM] at C1 C2 hK
    have HM := Lib.hid hM
    clear h hL hl hk hM
    go_enter Try.func9, Try.ntmps9
    go_wp2_with fail
    refine (few_any A c n _).mono ?_
    rintro e0 w0 ⟨rfl, rfl⟩
    rw [hd]
    go_wp2_with fail
    refine (C1 _ HL.out).mono ?_
    rintro e3 w3 ⟨A3, c3, rfl, hrow, hb3⟩
    have HI3 := Lib.hid (row_at0 hrow hK)
    have HB3 := Lib.hid hb3
    clear hrow hb3
    go_wp2_with fail
    refine (C2 _ ((HL.out.below HB3.out).more HB3.out.size)).mono ?_
    rintro e4 w4 ⟨A4, c4, rfl, hrow, hb4⟩
    have HI4 := Lib.hid (row_at0 hrow hK)
    have HI5 := Lib.hid ((HI3.out.below hb4).more hb4.size)
    have HB4 := Lib.hid (below_then HB3.out hb4)
    have CI := ints_any A3 A4 c3 c4 K K w4 HI5.out HI4.out
    rw [same_self, HM.out] at CI
    clear hrow hb4 HI3 HI4 HI5
    go_wp2_with fail
    refine CI.mono ?_
    rintro e5 w5 ⟨rfl, hb5⟩
    have HB5 := Lib.hid (below_then HB4.out hb5)
    go_wp2_with fail
    refine (sure6_any _).mono ?_
    rintro e6 w6 ⟨rfl, hb6⟩
    have HB6 := below_then HB5.out hb6
    go_wp2
    go_ret
    exact ⟨rfl, HB6⟩
  · have hd := decide_eq_false hn
    clear h
    go_enter Try.func9, Try.ntmps9
    go_wp2_with fail
    refine (few_any A c n _).mono ?_
    rintro e0 w0 ⟨rfl, rfl⟩
    rw [hd]
    go_wp2_with fail
    refine (sure6_any _).mono ?_
    rintro e1 w1 ⟨rfl, hb1⟩
    go_wp2
    go_ret
    exact ⟨rfl, hb1⟩
set_option maxRecDepth 100000 in
set_option maxHeartbeats 2000000 in
theorem asttells_any (A : Option Addr) (c n : Nat) (w : World) (h : Came w A n) :
    Calls Try.prog 8 #[.slice A n c] w fun e w' => e = .returned (.bool true) ∧ Below w.heap.size w w' := by
  by_cases hn : n ≤ 60
  · obtain ⟨L, hl, hL⟩ := h hn
    have hd := decide_eq_true hn
    have HL := Lib.hid hL
    have F1 := fun (w : World) (h : NodesAt w w.heap.size A L) => formed_any A c L w h
    have F2 := fun (w : World) (h : NodesAt w w.heap.size A L) => rformed_any A c L w h
    have R1 := fun (w : World) (h : NodesAt w w.heap.size A L) => right_any A c L w h
    have R2 := fun (w : World) (h : NodesAt w w.heap.size A L) => rright6_any A c L w h
    have C1 := fun (w : World) (h : NodesAt w w.heap.size A L) => sizes_any A c L w h
    have C2 := fun (w : World) (h : NodesAt w w.heap.size A L) => rsizes_any A c L w h
    rw [hl] at C1 C2 F1 F2 R1 R2
    have hK : (sizesF L).length ≤ 1000000000000 := by have := sizes_len_le L; omega
    obtain ⟨K, hk⟩ : ∃ K, sizesF L = K := ⟨_, rfl⟩
    rw [hk] at C1 C2 hK
    obtain ⟨M, hM⟩ : ∃ M, K.length = M := ⟨_, rfl⟩
    rw [hM] at C1 C2 hK
    have HM := Lib.hid hM
    clear h hL hl hk hM
    generalize formedF L = bf at *
    generalize rightF L = br at *
    have e1 : (bf == bf) = true := by simp
    have e2 : (br == br) = true := by simp
    go_enter Try.func8, Try.ntmps8
    go_wp2_with fail
    refine (few_any A c n _).mono ?_
    rintro e0 w0 ⟨rfl, rfl⟩
    rw [hd]
    go_wp2_with fail
    refine (F1 _ HL.out).mono ?_
    rintro e5 w5 ⟨rfl, hb5⟩
    have HB5 := Lib.hid hb5
    clear hb5
    go_wp2_with fail
    refine (F2 _ ((HL.out.below HB5.out).more HB5.out.size)).mono ?_
    rintro e6 w6 ⟨rfl, hb6⟩
    have HB6 := Lib.hid (below_then HB5.out hb6)
    clear hb6
    go_wp2_with fail
    refine (R1 _ ((HL.out.below HB6.out).more HB6.out.size)).mono ?_
    rintro e7 w7 ⟨rfl, hb7⟩
    have HB7 := Lib.hid (below_then HB6.out hb7)
    clear hb7
    go_wp2_with fail
    refine (R2 _ ((HL.out.below HB7.out).more HB7.out.size)).mono ?_
    rintro e8 w8 ⟨rfl, hb8⟩
    have HB8 := Lib.hid (below_then HB7.out hb8)
    clear hb8
    go_wp2_with fail
    refine (C1 _ ((HL.out.below HB8.out).more HB8.out.size)).mono ?_
    rintro e3 w3 ⟨A3, c3, rfl, hrow, hb3⟩
    have HI3 := Lib.hid (row_at0 hrow hK)
    have HB3 := Lib.hid (below_then HB8.out hb3)
    clear hrow hb3
    go_wp2_with fail
    refine (C2 _ ((HL.out.below HB3.out).more HB3.out.size)).mono ?_
    rintro e4 w4 ⟨A4, c4, rfl, hrow, hb4⟩
    have HI4 := Lib.hid (row_at0 hrow hK)
    have HI5 := Lib.hid ((HI3.out.below hb4).more hb4.size)
    have HB4 := Lib.hid (below_then HB3.out hb4)
    have CI := ints_any A3 A4 c3 c4 K K w4 HI5.out HI4.out
    rw [same_self, HM.out] at CI
    clear hrow hb4 HI3 HI4 HI5
    go_wp2_with fail
    refine CI.mono ?_
    rintro e5 w9 ⟨rfl, hb5⟩
    have HB9 := Lib.hid (below_then HB4.out hb5)
    go_wp2_with fail
    refine (sure6_any _).mono ?_
    rintro e10 w10 ⟨rfl, hb10⟩
    have HB10 := below_then HB9.out hb10
    go_wp2
    go_ret
    exact ⟨rfl, HB10⟩
  · have hd := decide_eq_false hn
    clear h
    go_enter Try.func8, Try.ntmps8
    go_wp2_with fail
    refine (few_any A c n _).mono ?_
    rintro e0 w0 ⟨rfl, rfl⟩
    rw [hd]
    go_wp2_with fail
    refine (sure6_any _).mono ?_
    rintro e1 w1 ⟨rfl, hb1⟩
    go_wp2
    go_ret
    exact ⟨rfl, hb1⟩
end Go.Proofs.Ytgkfdjfoakbibaa
