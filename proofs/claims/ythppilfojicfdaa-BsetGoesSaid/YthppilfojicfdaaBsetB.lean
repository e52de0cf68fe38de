/- Walks of the package bset: the next byte, the runs. -/
import Derived.Test.YthppilfojicfdaaProg
import Derived.WalkKit
import Derived.WalkSpells
import Derived.WalkLawsBesides
import Derived.Handy
import Derived.Lib.Hide
import Derived.Test.YthppilfojicfdaaBsetA
import Derived.Deep.RegionHeld3
namespace Go.Proofs.Ythppilfojicfdaa
open Go.RowKit SetP

set_option maxHeartbeats 1000000 in
theorem next_neg (f : Nat → Bool) (from_ : Int) (hf0 : -9223372036854775808 ≤ from_) (hf1 : from_ < 0) (w : World) :
    Calls Try.prog 21 #[setV f, .int .i64 from_] w fun e w' => e = .returned (.int .i64 (nextF f from_)) ∧ Below w.heap.size w w' := by
  go_enter Try.func21, Try.ntmps21
  go_wp2
  go_loopw [5] (fun i wr => ∃ k : Int, 0 ≤ k ∧ from_ ≤ k ∧ (k ≤ 256 ∨ k = from_) ∧ i = .int .i64 k ∧ Slab wr w.heap.size (cells4 f) 24 ∧ Below w.heap.size w wr ∧ (∀ x : Nat, from_ ≤ x → (x : Int) < k → f x = false)) (fun i _ => (256 - intOf i).toNat)
  case atStart =>
    exact ⟨0, by omega, by omega, by omega, rfl, Slab.new _ _ _, by (repeat' (first | (with_reducible exact Below.refl _ _) | (with_reducible assumption) | (with_reducible refine Below.alloc ?_ ?_ _) | (with_reducible refine Below.drew ?_) | (with_reducible refine below_set ?_ ?_ _) | (with_reducible refine below_call ?_ ?_ (by assumption)) | (with_reducible exact Below.size (by assumption)) | omega | go_size)), fun x h1 h2 => by omega⟩
  case round =>
    obtain ⟨k, hk0, hk, hk', rfl, o0, hb, hs⟩ := hrel
    obtain ⟨c0, f0⟩ := Slab.facts (o0)
    have HB := Lib.hid hb; clear hb
    have HK := Lib.hid hk'; clear hk'
    have HS := Lib.hid hs; clear hs
    by_cases hlt : k < 256
    · cases hfk : f k.toNat with
      | true =>
        have HF := Lib.hid hfk; clear hfk
        go_wp2_with fail
        refine (has_any f k (by omega) (by omega) _).mono ?_
        rintro e1 w1 ⟨rfl, hb1⟩
        rw [HF.out]
        go_wp2
        go_ret
        have he : nextF f from_ = k := by
          rw [nextF_some (n := k.toNat) (by omega) (by omega) HF.out fun x h1 h2 => HS.out x h1 (by omega)]
          omega
        refine ⟨by rw [he]; rfl, ?_⟩
        have hb := HB.out
        (repeat' (first | (with_reducible exact Below.refl _ _) | (with_reducible assumption) | (with_reducible refine Below.alloc ?_ ?_ _) | (with_reducible refine Below.drew ?_) | (with_reducible refine below_set ?_ ?_ _) | (with_reducible refine below_call ?_ ?_ (by assumption)) | (with_reducible exact Below.size (by assumption)) | omega | go_size))
      | false =>
        have HF := Lib.hid hfk; clear hfk
        go_wp2_with fail
        refine (has_any f k (by omega) (by omega) _).mono ?_
        rintro e1 w1 ⟨rfl, hb1⟩
        rw [HF.out]
        go_wp2
        go_roundw
        case rel =>
          have hb := HB.out
          refine ⟨k + 1, by omega, by omega, by omega, rfl, o0.call hb1, by (repeat' (first | (with_reducible exact Below.refl _ _) | (with_reducible assumption) | (with_reducible refine Below.alloc ?_ ?_ _) | (with_reducible refine Below.drew ?_) | (with_reducible refine below_set ?_ ?_ _) | (with_reducible refine below_call ?_ ?_ (by assumption)) | (with_reducible exact Below.size (by assumption)) | omega | go_size)), fun x h1 h2 => ?_⟩
          by_cases e : (x : Int) = k
          · rw [← HF.out, ← e]; rfl
          · exact HS.out x h1 (by omega)
        case measure => simp [intOf]; omega
    · go_wp2
      go_ret
      have he : nextF f from_ = -1 := nextF_none fun x h1 h2 => HS.out x h1 (by omega)
      exact ⟨by rw [he]; rfl, HB.out⟩
set_option maxHeartbeats 1000000 in
theorem next_pos (f : Nat → Bool) (from_ : Int) (hf0 : 0 ≤ from_) (hf1 : from_ ≤ 9223372036854775807) (w : World) :
    Calls Try.prog 21 #[setV f, .int .i64 from_] w fun e w' => e = .returned (.int .i64 (nextF f from_)) ∧ Below w.heap.size w w' := by
  go_enter Try.func21, Try.ntmps21
  go_wp2
  go_loopw [5] (fun i wr => ∃ k : Int, 0 ≤ k ∧ from_ ≤ k ∧ (k ≤ 256 ∨ k = from_) ∧ i = .int .i64 k ∧ Slab wr w.heap.size (cells4 f) 24 ∧ Below w.heap.size w wr ∧ (∀ x : Nat, from_ ≤ x → (x : Int) < k → f x = false)) (fun i _ => (256 - intOf i).toNat)
  case atStart =>
    exact ⟨from_, by omega, by omega, by omega, rfl, Slab.new _ _ _, by (repeat' (first | (with_reducible exact Below.refl _ _) | (with_reducible assumption) | (with_reducible refine Below.alloc ?_ ?_ _) | (with_reducible refine Below.drew ?_) | (with_reducible refine below_set ?_ ?_ _) | (with_reducible refine below_call ?_ ?_ (by assumption)) | (with_reducible exact Below.size (by assumption)) | omega | go_size)), fun x h1 h2 => by omega⟩
  case round =>
    obtain ⟨k, hk0, hk, hk', rfl, o0, hb, hs⟩ := hrel
    obtain ⟨c0, f0⟩ := Slab.facts (o0)
    have HB := Lib.hid hb; clear hb
    have HK := Lib.hid hk'; clear hk'
    have HS := Lib.hid hs; clear hs
    by_cases hlt : k < 256
    · cases hfk : f k.toNat with
      | true =>
        have HF := Lib.hid hfk; clear hfk
        go_wp2_with fail
        refine (has_any f k (by omega) (by omega) _).mono ?_
        rintro e1 w1 ⟨rfl, hb1⟩
        rw [HF.out]
        go_wp2
        go_ret
        have he : nextF f from_ = k := by
          rw [nextF_some (n := k.toNat) (by omega) (by omega) HF.out fun x h1 h2 => HS.out x h1 (by omega)]
          omega
        refine ⟨by rw [he]; rfl, ?_⟩
        have hb := HB.out
        (repeat' (first | (with_reducible exact Below.refl _ _) | (with_reducible assumption) | (with_reducible refine Below.alloc ?_ ?_ _) | (with_reducible refine Below.drew ?_) | (with_reducible refine below_set ?_ ?_ _) | (with_reducible refine below_call ?_ ?_ (by assumption)) | (with_reducible exact Below.size (by assumption)) | omega | go_size))
      | false =>
        have HF := Lib.hid hfk; clear hfk
        go_wp2_with fail
        refine (has_any f k (by omega) (by omega) _).mono ?_
        rintro e1 w1 ⟨rfl, hb1⟩
        rw [HF.out]
        go_wp2
        go_roundw
        case rel =>
          have hb := HB.out
          refine ⟨k + 1, by omega, by omega, by omega, rfl, o0.call hb1, by (repeat' (first | (with_reducible exact Below.refl _ _) | (with_reducible assumption) | (with_reducible refine Below.alloc ?_ ?_ _) | (with_reducible refine Below.drew ?_) | (with_reducible refine below_set ?_ ?_ _) | (with_reducible refine below_call ?_ ?_ (by assumption)) | (with_reducible exact Below.size (by assumption)) | omega | go_size)), fun x h1 h2 => ?_⟩
          by_cases e : (x : Int) = k
          · rw [← HF.out, ← e]; rfl
          · exact HS.out x h1 (by omega)
        case measure => simp [intOf]; omega
    · go_wp2
      go_ret
      have he : nextF f from_ = -1 := nextF_none fun x h1 h2 => HS.out x h1 (by omega)
      exact ⟨by rw [he]; rfl, HB.out⟩
theorem next_any (f : Nat → Bool) (from_ : Int) (hf0 : -9223372036854775808 ≤ from_) (hf1 : from_ ≤ 9223372036854775807) (w : World) :
    Calls Try.prog 21 #[setV f, .int .i64 from_] w fun e w' => e = .returned (.int .i64 (nextF f from_)) ∧ Below w.heap.size w w' := by
  by_cases h : from_ < 0
  · exact next_neg f from_ hf0 h w
  · exact next_pos f from_ (by omega) hf1 w
def mAll (v : Value) : Nat := if intOf v < 0 then 0 else (257 - intOf v).toNat
theorem mAll_eq (z : Int) : mAll (.int .i64 z) = if z < 0 then 0 else (257 - z).toNat := rfl
theorem mAll_lt' (f : Nat → Bool) (m : Nat) (k : Int) (hm : m < 256) (hk : (m : Int) < k) : mAll (.int .i64 (nextF f k)) < mAll (.int .i64 m) := by
  rw [mAll_eq, mAll_eq]
  rcases nextF_cases f k with ⟨e, _⟩ | ⟨q, e, h, _⟩
  · rw [e, if_pos (by omega), if_neg (by omega)]; omega
  · rw [e, if_neg (by omega), if_neg (by omega)]; omega
theorem mAll_lt (f : Nat → Bool) (m : Nat) (hm : m < 256) : mAll (.int .i64 (nextF f ((m : Int) + 1))) < mAll (.int .i64 m) := mAll_lt' f m _ hm (by omega)

theorem info_pair : (Try.prog.info? 32).map (fun i => (i.zero, i.size, i.bytes)) = some (some (.agg #[.int .u8 0, .int .u8 0]), 2, 2) := by kernel_rfl

set_option maxHeartbeats 2000000 in
theorem runs_any (f : Nat → Bool) (w : World) :
    Calls Try.prog 18 #[setV f] w (RetRow 32 2 (runsF f).length (pairCells (runsF f)) w) := by
  obtain ⟨i0, hi, hz0, hz1, hz2⟩ := info_parts info_pair
  have HI := Lib.hid hi; clear hi
  have HZ0 := Lib.hid hz0; clear hz0
  have HZ1 := Lib.hid hz1; clear hz1
  have HZ2 := Lib.hid hz2; clear hz2
  go_enter Try.func18, Try.ntmps18
  go_wp2_with fail
  refine (not_any f _).mono ?_
  rintro e1 w1 ⟨rfl, hb1⟩
  have o1 : Slab w1 w.heap.size (cells4 f) 24 := (Slab.new _ _ _).call hb1
  obtain ⟨c1, f1⟩ := Slab.facts (o1)
  have hl1_0 : w.heap.size < w1.heap.size := (by have := hb1.size; first | omega | (simp at this; omega))
  go_wp2_with fail
  have o3 : Slab (w1.alloc (.cells (cells4 (fun x => !f x)) 24)) w1.heap.size (cells4 (fun x => !f x)) 24 := Slab.new _ _ _
  refine (next_any f 0 (by omega) (by omega) _).mono ?_
  rintro e2 w2 ⟨rfl, hb2⟩
  have o1' : Slab w2 w.heap.size (cells4 f) 24 := (o1.alloc _).call hb2
  have o3' : Slab w2 w1.heap.size (cells4 (fun x => !f x)) 24 := o3.call hb2
  have hB2 : Below w.heap.size w w2 := by (repeat' (first | (with_reducible exact Below.refl _ _) | (with_reducible assumption) | (with_reducible refine Below.alloc ?_ ?_ _) | (with_reducible refine Below.drew ?_) | (with_reducible refine below_set ?_ ?_ _) | (with_reducible refine below_call ?_ ?_ (by assumption)) | (with_reducible exact Below.size (by assumption)) | omega | go_size))
  have hz2 : w1.heap.size + 1 ≤ w2.heap.size := by simpa using hb2.size
  clear o1 o3 c1 f1 hb1 hb2
  have HL := Lib.hid hl1_0; clear hl1_0
  generalize w1.heap.size = g2 at *
  clear w1
  obtain ⟨nb0, nb1⟩ := nextF_bounds f 0
  go_wp2_with fail
  go_loopw [3, 5] (fun s b wr => ∃ (k : Nat) (A : Option Addr) (c : Nat), k ≤ 256 ∧ (k = 0 ∨ f k = false) ∧ b = .int .i64 (nextF f k) ∧ s = .slice A (runsB f k).length c ∧ wr.ownsRow (g2 + 1) 32 2 (.slice A (runsB f k).length c) (runsB f k).length (pairCells (runsB f k)) ∧
      Slab wr w.heap.size (cells4 f) 24 ∧ Slab wr g2 (cells4 (fun x => !f x)) 24 ∧ Below w.heap.size w wr ∧ g2 + 1 ≤ wr.heap.size) (fun _ b _ => mAll b)
  case atStart => exact ⟨0, none, 0, by omega, .inl rfl, rfl, rfl, World.ownsRow_nil _ _ _ _, o1', o3', hB2, hz2⟩
  case round =>
    clear o1' o3' hB2 hz2
    obtain ⟨k, A, c, hk, hh, rfl, rfl, hown, o1, o2, hB, hz⟩ := hrel
    have HH := Lib.hid hh; clear hh
    have HB := Lib.hid hB; clear hB
    have hlen := runsB_length f k
    obtain ⟨c1, f1⟩ := Slab.facts (o1)
    obtain ⟨c2, f2⟩ := Slab.facts (o2)
    rcases nextF_cases f k with ⟨e, _⟩ | ⟨b, e, _, hb256, _⟩
    · have HE := Lib.hid e; clear e
      rw [HE.out]
      go_wp2
      go_ret
      have hL := HL.out
      have he : runsF f = runsB f k := runsB_end hk HE.out
      rw [he]
      exact ⟨A, c, rfl, row_mono hown (by omega), HB.out⟩
    · have HE := Lib.hid e; clear e
      rw [HE.out]
      go_wp2_with fail
      refine (next_any (fun x => !f x) b (by omega) (by omega) _).mono ?_
      rintro e3 w3 ⟨rfl, hb3⟩
      rcases nextF_cases (fun x => !f x) b with ⟨e', _⟩ | ⟨n, e', _, hn256, _⟩
      · have HE' := Lib.hid e'; clear e'
        rw [HE'.out]
        have hown3 := row_call hown hb3
        have hz3 := hb3.size
        go_wp2_with (at_builtin; go_must (refine wpList_append_elem _ rfl (.tmp 18) (.tmp 22) 30 rfl (g2 + 1) 32 i0 _ _ _ Try.underlying30 HI.out HZ0.out HZ1.out HZ2.out rfl (by decide) _ _ _ _ rfl hown3 #[.int .u8 b, .int .u8 255] _ rfl (by first | rfl | simp) rfl (by simp [Value.oneCell']) (by unfold maxLen; omega) (by omega) (by first | omega | (simp; omega)) ?_); intro A4 q4 w4 hown4 hbl4)
        go_ret
        have hL := HL.out
        have hB3 : Below w.heap.size w w3 := below_call HB.out (by omega) hb3
        have he : runsF f = runsB f k ++ [((b : Int), 255)] := runsB_last hk HH.out HE.out HE'.out
        rw [he, pairCells_snoc, List.length_append]
        exact ⟨A4, q4, rfl, row_mono hown4 (by omega), hB3.trans (hbl4.mono (by omega))⟩
      · have HE' := Lib.hid e'; clear e'
        rw [HE'.out]
        have hown3 := row_call hown hb3
        have hz3 := hb3.size
        obtain ⟨hst, hbn, _, hfn⟩ := runsB_step hk HH.out HE.out HE'.out
        have HS := Lib.hid hst; clear hst
        have HF := Lib.hid hfn; clear hfn
        have hL := HL.out
        go_wp2_with (at_builtin; go_must (refine wpList_append_elem _ rfl (.tmp 24) (.tmp 31) 30 rfl (g2 + 1) 32 i0 _ _ _ Try.underlying30 HI.out HZ0.out HZ1.out HZ2.out rfl (by decide) _ _ _ _ rfl hown3 #[.int .u8 b, .int .u8 ((n : Int) - 1)] _ rfl (by first | rfl | simp) rfl (by simp [Value.oneCell']) (by unfold maxLen; omega) (by omega) (by first | omega | (simp; omega)) ?_); intro A4 q4 w4 hown4 hbl4; have o5 := (o1.call hb3).below hbl4 (by omega); obtain ⟨c5, f5⟩ := Slab.facts (o5))
        refine (next_any f n (by omega) (by omega) _).mono ?_
        rintro e7 w7 ⟨rfl, hb7⟩
        have hL := HL.out
        have hB3 : Below w.heap.size w w3 := below_call HB.out (by omega) hb3
        have hB4 : Below w.heap.size w w4 := hB3.trans (hbl4.mono (by omega))
        have hz4 := hbl4.size
        have hB7 : Below w.heap.size w w7 := hB4.trans (hb7.mono hB4.size)
        have hz7 := hb7.size
        have o6 := ((o2.call hb3).below hbl4 (by omega)).call hb7
        have o8 := o5.call hb7
        have hown7 := row_call hown4 hb7
        rw [← pairCells_snoc, ← HS.out] at hown7
        have hln : (runsB f k).length + 1 = (runsB f n).length := by rw [HS.out]; simp
        rw [hln] at hown7 ⊢
        have HLN := Lib.hid hln; clear hln
        clear hown3 hown4 hown hB3 hB4 hbl4 hb3
        go_wp2
        go_roundw
        case rel => exact ⟨n, A4, q4, by omega, .inr HF.out, rfl, rfl, hown7, o8, o6, hB7, by omega⟩
        case measure => exact mAll_lt' f b n hb256 (by omega)
end Go.Proofs.Ythppilfojicfdaa
