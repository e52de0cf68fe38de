/- More walks of the package gimletref01. -/
import Derived.Test.YthppilfojicfdaaProg
import Derived.WalkKit
import Derived.WalkSpells
import Derived.WalkLawsBesides
import Derived.Handy
import Derived.Lib.Hide
import Derived.Test.YthppilfojicfdaaRefA
namespace Go.Proofs.Ythppilfojicfdaa
open Go.RowKit SetP

set_option maxRecDepth 100000 in
set_option maxHeartbeats 2000000 in
theorem rnot_any (f : Nat → Bool) (w : World) :
    Calls Try.prog 35 #[setV f] w fun e w' => e = .returned (setV fun x => !f x) ∧ Below w.heap.size w w' := by
  have HE := Lib.hid (show setV (fun x => rangeF 0 255 x && !f x) = setV (fun x => !f x) from setV_ext fun x hx => by
    have : rangeF 0 255 x = true := by unfold rangeF; simp; omega
    rw [this]; rfl)
  go_enter Try.func35, Try.ntmps35
  go_wp2_with fail
  have o0 : Slab ((w.alloc (.cells (cells4 f) 24)).alloc (.cells zero4 24)) w.heap.size (cells4 f) 24 := (Slab.new _ _ _).alloc _
  have o1 : Slab ((w.alloc (.cells (cells4 f) 24)).alloc (.cells zero4 24)) (w.heap.size + 1) zero4 24 := Slab.newAt _ _ _ (by simp)
  have HB := Lib.hid (show Below w.heap.size w ((w.alloc (.cells (cells4 f) 24)).alloc (.cells zero4 24)) by (repeat' (first | (with_reducible exact Below.refl _ _) | (with_reducible assumption) | (with_reducible refine Below.alloc ?_ ?_ _) | (with_reducible refine Below.drew ?_) | (with_reducible refine below_set ?_ ?_ _) | (with_reducible refine below_call ?_ ?_ (by assumption)) | (with_reducible exact Below.size (by assumption)) | omega | go_size)))
  go_region_held3 (fun w' => (∀ i, w'.cell? ⟨w.heap.size, i, none⟩ = (cells4 f)[i]?)) (first | exact o0.cell | exact ((((((o0).far (by omega) _).far (by omega) _).far (by omega) _).far (by omega) _)).cell)
    (first
      | (go_at_call 30; refine (rrange_any 0 255 (by omega) (by omega) (by omega) (by omega) _).mono ?_; rintro e1 w1 ⟨rfl, hb1⟩; have HB := Lib.hid (below_then (by first | exact HB.out | exact HB.out.drew | exact below_drewN HB.out _) hb1); have o0 := o0.callD hb1 rfl; have o1 := o1.callD hb1 rfl; have hz := o1.lt)
      | (go_at_call 31; refine (rboth_less _ _ _).mono ?_; rintro e1 w1 ⟨rfl, hb1⟩; have HB := Lib.hid (below_then (by first | exact HB.out | exact HB.out.drew | exact below_drewN HB.out _) hb1); have o0 := o0.callD hb1 rfl; have o1 := o1.callD hb1 rfl; have hz := o1.lt; obtain ⟨c1, f1⟩ := Slab.facts (o1)))
  go_wp2
  refine bodyPost_ret (v := setV fun x => rangeF 0 255 x && !f x) (by simp [results, Try.results35, go_sem, c1]) rfl ⟨by rw [HE.out], ?_⟩
  have hb := HB.out
  (repeat' (first | (with_reducible exact Below.refl _ _) | (with_reducible assumption) | (with_reducible refine Below.alloc ?_ ?_ _) | (with_reducible refine Below.drew ?_) | (with_reducible refine below_set ?_ ?_ _) | (with_reducible refine below_call ?_ ?_ (by assumption)) | (with_reducible exact Below.size (by assumption)) | omega | go_size))

set_option maxRecDepth 100000 in
set_option maxHeartbeats 2000000 in
theorem rwith_some (f : Nat → Bool) (b off c : Nat) (l : List Int) (w : World) (hn' : l.length ≤ 9223372036854775807) (hb : b < w.heap.size) (hc : ∀ i, i < l.length → w.cell? ⟨b, off + i, none⟩ = some (.int .u8 (l.getD i 0)))
    (hl : ∀ i, i < l.length → 0 ≤ l.getD i 0 ∧ l.getD i 0 < 256) :
    Calls Try.prog 29 #[setV f, .slice (some ⟨b, off, none⟩) l.length c] w fun e w' => e = .returned (setV (addL f l)) ∧ Below w.heap.size w w' := by
  have Hc := Lib.hid hc; clear hc
  have Hl := Lib.hid hl; clear hl
  go_enter Try.func29, Try.ntmps29
  go_wp2
  go_loopw [5] (fun i wr => ∃ k : Nat, k ≤ l.length ∧ i = .int .i64 k ∧ Slab wr w.heap.size (cells4 (addL f (l.take k))) 24 ∧ Slab wr (w.heap.size + 1) zero4 24 ∧ Below w.heap.size w wr) (fun i _ => l.length - (intOf i).toNat)
  case atStart => exact ⟨0, Nat.zero_le _, rfl, (Slab.new _ _ _).alloc _, Slab.newAt _ _ _ (by simp), by (repeat' (first | (with_reducible exact Below.refl _ _) | (with_reducible assumption) | (with_reducible refine Below.alloc ?_ ?_ _) | (with_reducible refine Below.drew ?_) | (with_reducible refine below_set ?_ ?_ _) | (with_reducible refine below_call ?_ ?_ (by assumption)) | (with_reducible exact Below.size (by assumption)) | omega | go_size))⟩
  case round =>
    obtain ⟨k, hk, rfl, o0, o1, hB⟩ := hrel
    have hz := o1.lt
    by_cases hlt : k < l.length
    · have hcell := (hB.cell (p := ⟨b, off + k, none⟩) hb).trans (Hc.out k hlt)
      have HB := Lib.hid hB; clear hB
      obtain ⟨x0, x1⟩ := Hl.out k hlt
      have HS := Lib.hid (addL_snoc f l k hlt)
      generalize l.getD k 0 = x at *
      generalize addL f (l.take k) = F at *
      have hcell2 : wr.cell? ⟨w.heap.size, (x / 64).toNat, none⟩ = some (.int .u64 (wd F (x.toNat / 64))) := by
        rw [show (x / 64).toNat = x.toNat / 64 by omega]
        exact (o0.cell _).trans (cells4_at F _ (by omega))
      have hfr : wr.frozen? ⟨w.heap.size, (x / 64).toNat, none⟩ = false := o0.frozen _
      have hx0 := wd_nonneg F (x.toNat / 64)
      go_wp2
      go_region
      go_wp2
      go_roundw
      case rel =>
        refine ⟨k + 1, by omega, by go_num, ?_, o1.far (by omega) _, (below_set HB.out (by omega) _).drew⟩
        have h2 := o0.set (x.toNat / 64) (.int .u64 (wd (addB F x.toNat) (x.toNat / 64)))
        rw [cells4_set F x.toNat (by omega)] at h2
        rw [HS.out, wd_add _ x x0 _ rfl, show (x / 64).toNat = x.toNat / 64 by omega]
        exact h2
      case measure => simp [intOf]; omega
    · have he : l.take k = l := List.take_of_length_le (by omega)
      have He := Lib.hid he; clear he
      have HB := Lib.hid hB; clear hB
      obtain ⟨c0, f0⟩ := Slab.facts (o0)
      obtain ⟨c1, f1⟩ := Slab.facts (o1)
      have hz0 : w.heap.size < wr.heap.size := o0.lt
      go_wp2
      refine bodyPost_ret (v := setV (addL f (l.take k))) (by simp [results, Try.results29, go_sem, c1]) rfl ⟨by rw [He.out], ?_⟩
      have hb := HB.out
      (repeat' (first | (with_reducible exact Below.refl _ _) | (with_reducible assumption) | (with_reducible refine Below.alloc ?_ ?_ _) | (with_reducible refine Below.drew ?_) | (with_reducible refine below_set ?_ ?_ _) | (with_reducible refine below_call ?_ ?_ (by assumption)) | (with_reducible exact Below.size (by assumption)) | omega | go_size))

set_option maxHeartbeats 400000 in
theorem rwith_none (f : Nat → Bool) (w : World) :
    Calls Try.prog 29 #[setV f, .slice none 0 0] w fun e w' => e = .returned (setV f) ∧ Below w.heap.size w w' := by
  go_enter Try.func29, Try.ntmps29
  go_wp2
  go_rounds 1
  refine bodyPost_ret (v := setV f) (by simp [results, Try.results29, go_sem]) rfl ⟨rfl, ?_⟩
  (repeat' (first | (with_reducible exact Below.refl _ _) | (with_reducible assumption) | (with_reducible refine Below.alloc ?_ ?_ _) | (with_reducible refine Below.drew ?_) | (with_reducible refine below_set ?_ ?_ _) | (with_reducible refine below_call ?_ ?_ (by assumption)) | (with_reducible exact Below.size (by assumption)) | omega | go_size))

set_option maxRecDepth 100000 in
set_option maxHeartbeats 2000000 in
theorem rnext_any (f : Nat → Bool) (from_ : Int) (w : World) :
    Calls Try.prog 22 #[setV f, .int .i64 from_] w fun e w' => e = .returned (.int .i64 (nextF f from_)) ∧ Below w.heap.size w w' := by
  go_enter Try.func22, Try.ntmps22
  go_wp2
  go_loopw [5] (fun i wr => ∃ k : Nat, k ≤ 256 ∧ i = .int .i64 k ∧ Slab wr w.heap.size (cells4 f) 24 ∧ Below w.heap.size w wr ∧ (∀ x : Nat, from_ ≤ x → x < k → f x = false)) (fun i _ => (256 - intOf i).toNat)
  case atStart => exact ⟨0, by omega, rfl, Slab.new _ _ _, by (repeat' (first | (with_reducible exact Below.refl _ _) | (with_reducible assumption) | (with_reducible refine Below.alloc ?_ ?_ _) | (with_reducible refine Below.drew ?_) | (with_reducible refine below_set ?_ ?_ _) | (with_reducible refine below_call ?_ ?_ (by assumption)) | (with_reducible exact Below.size (by assumption)) | omega | go_size)), fun x _ h => by omega⟩
  case round =>
    obtain ⟨k, hk, rfl, o0, hB, hs⟩ := hrel
    have HB := Lib.hid hB; clear hB
    have HS := Lib.hid hs; clear hs
    obtain ⟨c0, f0⟩ := Slab.facts (o0)
    by_cases hlt : k < 256
    · by_cases hge : from_ ≤ k
      · cases hfk : f k with
        | true =>
          have HF := Lib.hid hfk; clear hfk
          go_wp2_with fail
          refine (rhas_any f k (by omega) (by omega) _).mono ?_
          rintro e1 w1 ⟨rfl, hb1⟩
          rw [show (k : Int).toNat = k from rfl, HF.out]
          go_wp2
          go_ret
          have he : nextF f from_ = k := nextF_some hge hlt HF.out fun x h1 h2 => HS.out x h1 h2
          refine ⟨by rw [he]; rfl, ?_⟩
          have hb := HB.out
          (repeat' (first | (with_reducible exact Below.refl _ _) | (with_reducible assumption) | (with_reducible refine Below.alloc ?_ ?_ _) | (with_reducible refine Below.drew ?_) | (with_reducible refine below_set ?_ ?_ _) | (with_reducible refine below_call ?_ ?_ (by assumption)) | (with_reducible exact Below.size (by assumption)) | omega | go_size))
        | false =>
          have HF := Lib.hid hfk; clear hfk
          go_wp2_with fail
          refine (rhas_any f k (by omega) (by omega) _).mono ?_
          rintro e1 w1 ⟨rfl, hb1⟩
          rw [show (k : Int).toNat = k from rfl, HF.out]
          go_wp2
          go_roundw
          case rel =>
            have hb := HB.out
            refine ⟨k + 1, by omega, by go_num, o0.call hb1, by (repeat' (first | (with_reducible exact Below.refl _ _) | (with_reducible assumption) | (with_reducible refine Below.alloc ?_ ?_ _) | (with_reducible refine Below.drew ?_) | (with_reducible refine below_set ?_ ?_ _) | (with_reducible refine below_call ?_ ?_ (by assumption)) | (with_reducible exact Below.size (by assumption)) | omega | go_size)), fun x h1 h2 => ?_⟩
            by_cases e : x = k
            · rw [e]; exact HF.out
            · exact HS.out x h1 (by omega)
          case measure => simp [intOf]; omega
      · have hge' : decide (from_ ≤ (k : Int)) = false := by simpa using hge
        go_wp2
        go_roundw
        case rel => exact ⟨k + 1, by omega, by go_num, o0, HB.out, fun x h1 h2 => by omega⟩
        case measure => simp [intOf]; omega
    · go_wp2
      go_ret
      have he : nextF f from_ = -1 := nextF_none fun x h1 h2 => HS.out x h1 (by omega)
      exact ⟨by rw [he]; rfl, HB.out⟩

theorem info_byte : (Try.prog.info? 5).map (fun i => (i.zero, i.size, i.bytes)) = some (some (.int .u8 0), 1, 1) := by kernel_rfl

set_option maxRecDepth 100000 in
set_option maxHeartbeats 2000000 in
theorem rall_any (f : Nat → Bool) (w : World) :
    Calls Try.prog 16 #[setV f] w (RetRow 5 1 (bytesF f).length ((bytesF f).map (Value.int .u8)) w) := by
  obtain ⟨i0, hi, hz0, hz1, hz2⟩ := info_parts info_byte
  have HI := Lib.hid hi; clear hi
  have HZ0 := Lib.hid hz0; clear hz0
  have HZ1 := Lib.hid hz1; clear hz1
  have HZ2 := Lib.hid hz2; clear hz2
  go_enter Try.func16, Try.ntmps16
  go_wp2
  go_loopw [3, 4] (fun s i wr => ∃ (k : Nat) (A : Option Addr) (c : Nat), k ≤ 256 ∧ i = .int .i64 k ∧ s = .slice A (upto f k).length c ∧ wr.ownsRow (w.heap.size + 1) 5 1 (.slice A (upto f k).length c) (upto f k).length ((upto f k).map (Value.int .u8)) ∧
      Slab wr w.heap.size (cells4 f) 24 ∧ Below w.heap.size w wr) (fun _ i _ => (256 - intOf i).toNat)
  case atStart => exact ⟨0, none, 0, by omega, rfl, rfl, World.ownsRow_nil _ _ _ _, Slab.new _ _ _, by (repeat' (first | (with_reducible exact Below.refl _ _) | (with_reducible assumption) | (with_reducible refine Below.alloc ?_ ?_ _) | (with_reducible refine Below.drew ?_) | (with_reducible refine below_set ?_ ?_ _) | (with_reducible refine below_call ?_ ?_ (by assumption)) | (with_reducible exact Below.size (by assumption)) | omega | go_size))⟩
  case round =>
    obtain ⟨k, A, c, hk, rfl, rfl, hown, o0, hB⟩ := hrel
    have HB := Lib.hid hB; clear hB
    have hlen := upto_length f k
    have hz0 := o0.lt
    obtain ⟨c0, f0⟩ := Slab.facts (o0)
    by_cases hlt : k < 256
    · go_wp2_with fail
      refine (rhas_any f k (by omega) (by omega) _).mono ?_
      rintro e1 w1 ⟨rfl, hb1⟩
      have hz1 := hb1.size
      have HB1 := Lib.hid (below_then (by first | exact HB.out | exact HB.out.drew | exact below_drewN HB.out _) hb1)
      cases hfk : f k with
      | true =>
        have HF := Lib.hid hfk; clear hfk
        rw [show (k : Int).toNat = k from rfl, HF.out]
        have hown3 := row_call hown hb1
        go_wp2_with (at_builtin; go_must (refine wpList_append_elem _ rfl (.tmp 12) (.tmp 15) 25 rfl (w.heap.size + 1) 5 i0 _ _ _ Try.underlying25 HI.out HZ0.out HZ1.out HZ2.out rfl (by decide) _ _ _ _ rfl hown3 #[.int .u8 k] _ rfl (by first | rfl | simp) rfl (by simp [Value.oneCell']) (by unfold maxLen; omega) (by omega) (by first | omega | (simp; omega)) ?_); intro A4 q4 w4 hown4 hbl4)
        have he : upto f (k + 1) = upto f k ++ [(k : Int)] := by rw [upto_succ, HF.out]; rfl
        have hln : (upto f k).length + 1 = (upto f (k + 1)).length := by rw [he]; simp
        have he2 : (upto f k).map (Value.int .u8) ++ [Value.int .u8 k] = (upto f (k + 1)).map (Value.int .u8) := by rw [he]; simp
        have hown5 : w4.ownsRow (w.heap.size + 1) 5 1 (.slice A4 (upto f (k + 1)).length q4) (upto f (k + 1)).length ((upto f (k + 1)).map (Value.int .u8)) := by
          rw [← he2, ← hln]; exact hown4
        rw [hln]
        have HX := Lib.hid hln; clear hln he he2
        go_wp2
        go_roundw
        case rel => exact ⟨k + 1, A4, q4, by omega, by go_num, rfl, hown5, (o0.call hb1).below hbl4 (by omega), HB1.out.trans (hbl4.mono (by omega))⟩
        case measure => simp [intOf]; omega
      | false =>
        have HF := Lib.hid hfk; clear hfk
        rw [show (k : Int).toNat = k from rfl, HF.out]
        have he : upto f (k + 1) = upto f k := by rw [upto_succ, HF.out]; simp
        have HE := Lib.hid he; clear he
        go_wp2
        go_roundw
        case rel => exact ⟨k + 1, A, c, by omega, by go_num, by rw [HE.out], by rw [HE.out]; exact row_call hown hb1, o0.call hb1, HB1.out⟩
        case measure => simp [intOf]; omega
    · obtain rfl : k = 256 := by omega
      go_wp2
      go_ret
      exact ⟨A, c, rfl, row_mono hown (by omega), HB.out⟩
end Go.Proofs.Ythppilfojicfdaa
