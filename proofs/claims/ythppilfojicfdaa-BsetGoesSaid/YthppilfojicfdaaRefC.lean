/- The walk of gimletref01's Runs. -/
import Derived.Test.YthppilfojicfdaaProg
import Derived.WalkKit
import Derived.WalkSpells
import Derived.WalkLawsBesides
import Derived.Handy
import Derived.Lib.Hide
import Derived.Test.YthppilfojicfdaaRefB
namespace Go.Proofs.Ythppilfojicfdaa
open Go.RowKit SetP

theorem runsB_lastOf (f : Nat → Bool) (k : Nat) (h : f k = true) : ∃ l a, runsB f (k + 1) = l ++ [(a, (k : Int))] := by
  induction k with
  | zero => exact ⟨[], 0, by simp [runsB, h]⟩
  | succ k ih =>
    rw [runsB, h]
    by_cases e : f k = true
    · obtain ⟨l, a, hl⟩ := ih e
      refine ⟨l, a, ?_⟩
      simp only [Nat.add_sub_cancel, e, Bool.and_true, if_true]
      rw [if_pos (by simp), hl, setLast_snoc]
    · refine ⟨runsB f (k + 1), ((k + 1 : Nat) : Int), ?_⟩
      have e' : f k = false := by simpa using e
      simp [e']

theorem pairCells_at1 (l : List (Int × Int)) (a b : Int) : (pairCells (l ++ [(a, b)]))[l.length * 2 + 1]? = some (.int .u8 b) := by
  rw [pairCells_snoc, List.getElem?_append_right (by rw [pairCells_length]; omega), pairCells_length]
  rw [show l.length * 2 + 1 - l.length * 2 = 1 by omega]; rfl
theorem pairCells_set1 (l : List (Int × Int)) (a b c : Int) : (pairCells (l ++ [(a, b)])).set (l.length * 2 + 1) (.int .u8 c) = pairCells (l ++ [(a, c)]) := by
  rw [pairCells_snoc, pairCells_snoc, List.set_append_right _ _ (by rw [pairCells_length]; omega), pairCells_length]
  rw [show l.length * 2 + 1 - l.length * 2 = 1 by omega]; rfl

set_option maxRecDepth 100000 in
set_option maxHeartbeats 2000000 in
theorem rruns_any (f : Nat → Bool) (w : World) :
    Calls Try.prog 19 #[setV f] w (RetRow 32 2 (runsF f).length (pairCells (runsF f)) w) := by
  obtain ⟨i0, hi, hz0, hz1, hz2⟩ := info_parts info_pair
  have HI := Lib.hid hi; clear hi
  have HZ0 := Lib.hid hz0; clear hz0
  have HZ1 := Lib.hid hz1; clear hz1
  have HZ2 := Lib.hid hz2; clear hz2
  go_enter Try.func19, Try.ntmps19
  go_wp2
  go_loopw [3, 4] (fun s i wr => ∃ (k : Nat) (A : Option Addr) (c : Nat), k ≤ 256 ∧ i = .int .i64 k ∧ s = .slice A (runsB f k).length c ∧ wr.ownsRow (w.heap.size + 1) 32 2 (.slice A (runsB f k).length c) (runsB f k).length (pairCells (runsB f k)) ∧
      Slab wr w.heap.size (cells4 f) 24 ∧ Below w.heap.size w wr) (fun _ i _ => (256 - intOf i).toNat)
  case atStart => exact ⟨0, none, 0, by omega, rfl, rfl, World.ownsRow_nil _ _ _ _, Slab.new _ _ _, by (repeat' (first | (with_reducible exact Below.refl _ _) | (with_reducible assumption) | (with_reducible refine Below.alloc ?_ ?_ _) | (with_reducible refine Below.drew ?_) | (with_reducible refine below_set ?_ ?_ _) | (with_reducible refine below_call ?_ ?_ (by assumption)) | (with_reducible exact Below.size (by assumption)) | omega | go_size))⟩
  case round =>
    obtain ⟨k, A, c, hk, rfl, rfl, hown, o0, hB⟩ := hrel
    have HB := Lib.hid hB; clear hB
    have hlen := runsB_length f k
    have hz0 := o0.lt
    obtain ⟨c0, f0⟩ := Slab.facts (o0)
    by_cases hlt : k < 256
    · go_wp2_with fail
      refine (rhas_any f k (by omega) (by omega) _).mono ?_
      rintro e1 w1 ⟨rfl, hb1⟩
      have hz1 := hb1.size
      have HB1 := Lib.hid (below_then (by first | exact HB.out | exact HB.out.drew | exact below_drewN HB.out _) hb1)
      cases hfk : f k with
      | true =>
        have HF := Lib.hid hfk; clear hfk
        rw [show (k : Int).toNat = k from rfl, HF.out]
        have hown1 := row_call hown hb1
        have o1 := o0.call hb1
        clear hown o0 c0 f0 hb1
        obtain ⟨c0, f0⟩ := o1.facts
        rcases Nat.eq_zero_or_pos k with rfl | hpos
        · go_wp2_with (at_builtin; go_must (refine wpList_append_elem _ rfl (.tmp 29) (.tmp 35) 30 rfl (w.heap.size + 1) 32 i0 _ _ _ Try.underlying30 HI.out HZ0.out HZ1.out HZ2.out rfl (by decide) _ _ _ _ rfl hown1 #[.int .u8 0, .int .u8 0] _ rfl (by first | rfl | simp) rfl (by simp [Value.oneCell']) (by unfold maxLen; omega) (by omega) (by first | omega | (simp; omega)) ?_); intro A4 q4 w4 hown4 hbl4)
          have e1 : runsB f 1 = [(0, 0)] := by simp [runsB, HF.out]
          have e0 : runsB f 0 = [] := rfl
          go_roundw
          case rel =>
            refine ⟨1, A4, q4, by omega, rfl, by rw [e1]; rfl, ?_, o1.below hbl4 (by omega), HB1.out.trans (hbl4.mono (by omega))⟩
            rw [e1]; exact hown4
          case measure => simp [intOf]
        · obtain ⟨k, rfl⟩ : ∃ k', k = k' + 1 := ⟨k - 1, by omega⟩
          go_wp2_with fail
          refine (rhas_any f k (by omega) (by omega) _).mono ?_
          rintro e2 w2 ⟨rfl, hb2⟩
          have hz2 := hb2.size
          have HB2 := Lib.hid (below_then (by first | exact HB1.out | exact HB1.out.drew | exact below_drewN HB1.out _) hb2)
          have hown2 := row_call hown1 hb2
          have o2 := o1.call hb2
          clear hown1 o1 c0 f0 hb2
          obtain ⟨c0, f0⟩ := o2.facts
          cases hgk : f k with
          | true =>
            have HG := Lib.hid hgk; clear hgk
            rw [show (k : Int).toNat = k from rfl, HG.out]
            obtain ⟨l, a, hl⟩ := runsB_lastOf f k HG.out
            have HL := Lib.hid hl
            rw [hl] at hown2 hlen ⊢
            clear hl
            have hn : (l ++ [(a, (k : Int))]).length = l.length + 1 := by simp
            rw [hn] at hown2 hlen ⊢
            have HN := Lib.hid hn; clear hn
            obtain ⟨g, cur, rfl, hg, hc, hs, hcz, ht⟩ := row_at hown2 (by omega)
            have HC := Lib.hid hcz; clear hcz
            have HT := Lib.hid ht; clear ht
            have hcell : w2.cell? ⟨g, l.length * 2 + 1, none⟩ = some (.int .u8 k) := (hown2.cellAt _ (by omega)).trans (pairCells_at1 l a k)
            have hfr : w2.frozen? ⟨g, l.length * 2 + 1, none⟩ = false := hs.frozen _
            have hown3 := hown2.stored (l.length * 2 + 1) (.int .u8 ((k : Int) + 1))
            rw [pairCells_set1] at hown3
            have he : runsB f (k + 1 + 1) = l ++ [(a, (k : Int) + 1)] := by
              rw [runsB, HF.out]
              simp only [Nat.add_sub_cancel, HG.out, Bool.and_true, if_true]
              rw [if_pos (by simp), HL.out, setLast_snoc]
              rfl
            have hn2 : (l ++ [(a, (k : Int) + 1)]).length = l.length + 1 := by simp
            have HE := Lib.hid he; clear he
            have HN2 := Lib.hid hn2; clear hn2
            have HR := Lib.hid hown3; clear hown3 hown2 hs
            go_wp2
            go_roundw
            case rel =>
              refine ⟨k + 1 + 1, some ⟨g, 0, none⟩, c, by omega, by go_num, by rw [HE.out, HN2.out], ?_, o2.far (by omega) _, below_set HB2.out (by omega) _⟩
              rw [HE.out, HN2.out]
              exact HR.out.1
            case measure => simp [intOf]; omega
          | false =>
            have HG := Lib.hid hgk; clear hgk
            rw [show (k : Int).toNat = k from rfl, HG.out]
            go_wp2_with (at_builtin; go_must (refine wpList_append_elem _ rfl (.tmp 29) (.tmp 35) 30 rfl (w.heap.size + 1) 32 i0 _ _ _ Try.underlying30 HI.out HZ0.out HZ1.out HZ2.out rfl (by decide) _ _ _ _ rfl hown2 #[.int .u8 ((k : Int) + 1), .int .u8 ((k : Int) + 1)] _ rfl (by first | rfl | simp) rfl (by simp [Value.oneCell']) (by unfold maxLen; omega) (by omega) (by first | omega | (simp; omega)) ?_); intro A4 q4 w4 hown4 hbl4)
            have he : runsB f (k + 1 + 1) = runsB f (k + 1) ++ [((k : Int) + 1, (k : Int) + 1)] := by
              rw [runsB, HF.out]
              simp only [Nat.add_sub_cancel, HG.out, Bool.and_false, if_true]
              rfl
            have hln : (runsB f (k + 1 + 1)).length = (runsB f (k + 1)).length + 1 := by rw [he]; simp
            go_roundw
            case rel =>
              refine ⟨k + 1 + 1, A4, q4, by omega, by go_num, by rw [hln], ?_, o2.below hbl4 (by omega), HB2.out.trans (hbl4.mono (by omega))⟩
              rw [hln, he, pairCells_snoc]
              exact hown4
            case measure => simp [intOf]; omega
      | false =>
        have HF := Lib.hid hfk; clear hfk
        rw [show (k : Int).toNat = k from rfl, HF.out]
        have he : runsB f (k + 1) = runsB f k := by rw [runsB, HF.out]; simp
        have HE := Lib.hid he; clear he
        go_wp2
        go_roundw
        case rel => exact ⟨k + 1, A, c, by omega, by go_num, by rw [HE.out], by rw [HE.out]; exact row_call hown hb1, o0.call hb1, HB1.out⟩
        case measure => simp [intOf]; omega
    · obtain rfl : k = 256 := by omega
      go_wp2
      go_ret
      exact ⟨A, c, rfl, row_mono hown (by omega), HB.out⟩
end Go.Proofs.Ythppilfojicfdaa
