/- Walks of the package bracket: Read. -/
import Derived.Test.YthppilfojicfdaaProg
import Derived.WalkKit
import Derived.WalkSpells
import Derived.WalkLawsBesides
import Derived.Handy
import Derived.Lib.Hide
import Derived.Test.YthppilfojicfdaaBrkB
import Derived.WalkMore
namespace Go.Proofs.Ythppilfojicfdaa
open Go.RowKit SetP BrkP Go.Sort
/-- An answer of Read. -/
abbrev bresV (a : Ans) : Value := .tuple #[setV a.set, .int .i64 a.stop, .int .i64 a.err, .int .i64 a.place]
theorem hp_hat (s : ByteArray) (k : Nat) (hk : k ≤ s.size) : hpF (s.extract k s.size) ⟨#[94]⟩ = (bt s k == 94) := by
  unfold hpF
  by_cases h : k < s.size
  · have e : decide ((ByteArray.mk #[94]).size ≤ (s.extract k s.size).size) = true := by
      have : (s.extract k s.size).size = s.size - k := by simp
      rw [this]; show decide (1 ≤ s.size - k) = true; simp; omega
    rw [e, bt_at s k h]
    simp only [Bool.true_and, ByteArray.toList_eq]
    have e2 : ((s.extract k s.size).extract 0 (ByteArray.mk #[94]).size).data.toList = [s[k]] := by
      show ((s.extract k s.size).extract 0 1).data.toList = _
      have hd := List.drop_eq_getElem_cons (i := k) (l := s.data.toList) (by simpa using h)
      have : ((s.extract k s.size).extract 0 1).data.toList = (s.data.toList.drop k).take 1 := by
        simp [ByteArray.data_extract]
        omega
      rw [this, hd]; rfl
    rw [e2]
    show ([s[k]] == [94]) = (s[k] == 94)
    simp
  · have e : decide ((ByteArray.mk #[94]).size ≤ (s.extract k s.size).size) = false := by
      have : (s.extract k s.size).size = s.size - k := by simp
      rw [this]; show decide (1 ≤ s.size - k) = false; simp; omega
    have e2 : bt s k = 0 := by
      unfold bt
      rw [List.getD_eq_getElem?_getD, List.getElem?_eq_none (by simp; omega)]; rfl
    rw [e, e2]; rfl
theorem closeF_bad {s : ByteArray} {from_ j p : Nat} {f : Nat → Bool} {e : Int} (h : closeF s from_ j f = .bad e p) : e ≠ 0 := by
  unfold closeF at h
  split at h
  · cases h; decide
  · split at h
    · cases h; decide
    · split at h
      · cases h
      · cases h; decide
theorem classGo_badE {s : ByteArray} {from_ p : Nat} {f : Nat → Bool} {e : Int} (j : Nat) (h : classGo s from_ f j = .bad e p) : e ≠ 0 := by
  induction hn : s.size - j using Nat.strongRecOn generalizing j with
  | _ n ih =>
    rw [classGo] at h
    split at h
    · cases h; decide
    · split at h
      · exact closeF_bad h
      · split at h
        · exact ih (s.size - (j + 1)) (by omega) (j + 1) h rfl
        · cases h; decide
theorem spanF_bad {s : ByteArray} {i p : Nat} {f : Nat → Bool} {c : UInt8} {e : Int} (h : spanF s i f c = .bad e p) : e ≠ 0 := by
  unfold spanF at h
  split at h
  · cases h; decide
  split at h
  · cases h
  split at h
  · cases h; decide
  split at h
  · cases h
  split at h
  · cases h; decide
  split at h
  · cases h; decide
  split at h
  · cases h; decide
  · cases h
theorem thingF_bad {s : ByteArray} {i p : Nat} {f : Nat → Bool} {e : Int} (h : thingF s i f = .bad e p) : e ≠ 0 := by
  unfold thingF at h
  split at h
  · split at h
    · cases h; decide
    · split at h
      · exact classGo_badE _ h
      · split at h
        · cases h; decide
        · exact spanF_bad h
  · exact spanF_bad h
theorem loopF_out {s : ByteArray} {first i : Nat} {f : Nat → Bool} (h : s.size ≤ i) : loopF s first i f = .bad 2 s.size := by rw [loopF, dif_pos h]
theorem loopF_end {s : ByteArray} {first i : Nat} {f : Nat → Bool} (h : i < s.size) (hb : (bt s i == 93) = true) (hf : first < i) : loopF s first i f = .go (i + 1) f := by
  rw [loopF, dif_neg (by omega), if_pos (by rw [hb]; simpa using hf)]
set_option maxRecDepth 100000 in
set_option maxHeartbeats 2000000 in
theorem bread_any (s : ByteArray) (a : Int) (hs : s.size ≤ 4611686018427387000) (w : World) :
    Calls Try.prog 47 #[.string s, .int .i64 a] w fun e w' => e = .returned (bresV (readB s a)) ∧ Below w.heap.size w w' := by
  obtain ⟨R, hR⟩ : ∃ R, readB s a = R := ⟨_, rfl⟩
  rw [hR]
  have HR := Lib.hid hR; clear hR
  cases h0 : decide (a < 0) with
  | true =>
    have k0 : a < 0 := by simpa using h0
    have K0 := Lib.hid k0; clear k0
    go_enter Try.func47, Try.ntmps47
    obtain ⟨c0, f0⟩ := Slab.facts (Slab.new w zero4 24)
    go_wp2
    go_step3
    go_wp2
    rw [Exit.noGoto_ret]
    refine bodyPost_ret (v := bresV ⟨fun _ => false, 0, 1, 0⟩) (by simp [results, Try.results47, go_sem, wd_zero, c0]) rfl ⟨by rw [← HR.out]; unfold readB; rw [if_pos (.inl K0.out)], by (repeat' (first | (with_reducible exact Below.refl _ _) | (with_reducible assumption) | (with_reducible refine Below.alloc ?_ ?_ _) | (with_reducible refine Below.drew ?_) | (with_reducible refine below_set ?_ ?_ _) | (with_reducible refine below_call ?_ ?_ (by assumption)) | (with_reducible exact Below.size (by assumption)) | omega | go_size))⟩
  | false =>
  cases h1 : decide ((s.size : Int) ≤ a) with
  | true =>
    have k0 : (s.size : Int) ≤ a := by simpa using h1
    have K0 := Lib.hid k0; clear k0
    go_enter Try.func47, Try.ntmps47
    obtain ⟨c0, f0⟩ := Slab.facts (Slab.new w zero4 24)
    go_wp2
    go_step3
    go_wp2
    rw [Exit.noGoto_ret]
    refine bodyPost_ret (v := bresV ⟨fun _ => false, 0, 1, 0⟩) (by simp [results, Try.results47, go_sem, wd_zero, c0]) rfl ⟨by rw [← HR.out]; unfold readB; rw [if_pos (.inr K0.out)], by (repeat' (first | (with_reducible exact Below.refl _ _) | (with_reducible assumption) | (with_reducible refine Below.alloc ?_ ?_ _) | (with_reducible refine Below.drew ?_) | (with_reducible refine below_set ?_ ?_ _) | (with_reducible refine below_call ?_ ?_ (by assumption)) | (with_reducible exact Below.size (by assumption)) | omega | go_size))⟩
  | false =>
  have h0' : 0 ≤ a := by simpa using h0
  have h1' : a < s.size := by simpa using h1
  clear h0 h1
  obtain ⟨a, rfl⟩ := Int.eq_ofNat_of_zero_le h0'
  have hlt : a < s.size := by omega
  have hbt := Lib.hid (bt_at s a hlt)
  cases hy : (bt s a == 91) with
  | false =>
    have HY := Lib.hid hy
    rw [hbt.out] at hy
    have y : (((s[a]).toNat : Int) == 91) = false := (beq_int (s[a]) 91).trans hy
    have yn : (((s[a]).toNat : Int) != 91) = !false := by
      have := bne_int (s[a]) 91
      rw [hy] at this
      exact this
    clear hy
    go_enter Try.func47, Try.ntmps47
    obtain ⟨c0, f0⟩ := Slab.facts (Slab.new w zero4 24)
    go_wp2
    go_step3
    go_wp2
    rw [Exit.noGoto_ret]
    refine bodyPost_ret (v := bresV ⟨fun _ => false, 0, 1, 0⟩) (by simp [results, Try.results47, go_sem, wd_zero, c0]) rfl ⟨by rw [← HR.out]; unfold readB; rw [if_neg (by omega), if_pos (by show (bt s a != 91) = true; unfold bne; rw [HY.out]; rfl)], by (repeat' (first | (with_reducible exact Below.refl _ _) | (with_reducible assumption) | (with_reducible refine Below.alloc ?_ ?_ _) | (with_reducible refine Below.drew ?_) | (with_reducible refine below_set ?_ ?_ _) | (with_reducible refine below_call ?_ ?_ (by assumption)) | (with_reducible exact Below.size (by assumption)) | omega | go_size))⟩
  | true =>
  have HY := Lib.hid hy
  rw [hbt.out] at hy
  have y : (((s[a]).toNat : Int) == 91) = true := (beq_int (s[a]) 91).trans hy
  have yn : (((s[a]).toNat : Int) != 91) = !true := by
    have := bne_int (s[a]) 91
    rw [hy] at this
    exact this
  clear hy
  have d0 : decide ((a : Int) < 0) = false := by simp
  have d1 : decide (s.size ≤ a) = false := by simpa using hlt
  clear h0' h1'
  have hp := hp_hat s (a + 1) (by omega)
  have CH := hp_any (s.extract (a + 1) s.size) ⟨#[94]⟩ (by have := extract_size s (a + 1) s.size; omega) (by decide)
  rw [hp] at CH
  have HCH := Lib.hid CH; clear CH hp
  go_enter Try.func47, Try.ntmps47
  go_wp2
  go_step3
  go_wp2_with fail
  refine (HCH.out _).mono ?_
  rintro e1 w1 ⟨rfl, rfl⟩
  cases hn : (bt s (a + 1) == 94) with
  | true =>
    have HN := Lib.hid hn; clear hn
    go_wp2
    go_step3
    go_wp2
    have o0 : RdAt ((w.alloc (.cells zero4 24)).alloc (.cells #[.string s, .int .i64 ((a : Int) + 1 + 1), .int .u64 0, .int .u64 0, .int .u64 0, .int .u64 0, .int .i64 0, .int .i64 0] 79)) (w.heap.size + 1) s ((a : Int) + 1 + 1) (fun _ => false) 0 0 := by
      simp only [RdAt, rdCells, wd_zero]; exact Slab.newAt _ _ _ (by simp)
    have p0 : Slab ((w.alloc (.cells zero4 24)).alloc (.cells #[.string s, .int .i64 ((a : Int) + 1 + 1), .int .u64 0, .int .u64 0, .int .u64 0, .int .u64 0, .int .i64 0, .int .i64 0] 79)) w.heap.size zero4 24 := (Slab.new _ _ _).alloc _
    have HB0 : Below w.heap.size w ((w.alloc (.cells zero4 24)).alloc (.cells #[.string s, .int .i64 ((a : Int) + 1 + 1), .int .u64 0, .int .u64 0, .int .u64 0, .int .u64 0, .int .i64 0, .int .i64 0] 79)) := by (repeat' (first | (with_reducible exact Below.refl _ _) | (with_reducible assumption) | (with_reducible refine Below.alloc ?_ ?_ _) | (with_reducible refine Below.drew ?_) | (with_reducible refine below_set ?_ ?_ _) | (with_reducible refine below_call ?_ ?_ (by assumption)) | (with_reducible exact Below.size (by assumption)) | omega | go_size))
    obtain ⟨Q, hQ⟩ : ∃ Q, loopF s (a + 2) (a + 2) (fun _ => false) = Q := ⟨_, rfl⟩
    have ha : R = ansOf true Q := by
      rw [← HR.out, ← hQ]; unfold readB
      rw [if_neg (by omega), if_neg (by show ¬ (bt s a != 91) = true; unfold bne; rw [HY.out]; simp)]
      show (if (bt s (a + 1) == 94) = true then _ else _) = _
      rw [HN.out]; rfl
    have HA := Lib.hid ha; clear ha
    have HQ := Lib.hid hQ; clear hQ
    go_loopw [11] (fun _ wr => ∃ (k : Nat) (f : Nat → Bool), a + 2 ≤ k ∧ (k ≤ s.size ∨ k = a + 2) ∧ RdAt wr (w.heap.size + 1) s k f 0 0 ∧ Slab wr w.heap.size zero4 24 ∧ Below w.heap.size w wr ∧ loopF s (a + 2) k f = Q)
      (fun _ wr => s.size + 2 - (intOf ((wr.cell? ⟨w.heap.size + 1, 1, none⟩).getD undef)).toNat)
    case atStart => exact ⟨a + 2, _, Nat.le_refl _, .inr rfl, o0, p0, HB0, HQ.out⟩
    case round =>
      clear o0 p0 HB0
      obtain ⟨k, f, hk0, hk1, o, p, hB, hL⟩ := hrel
      have hne : w.heap.size ≠ w.heap.size + 1 := by omega
      have hgl := o.lt
      have HL := Lib.hid hL; clear hL
      have HB := Lib.hid hB; clear hB
      have hk2 : k ≤ 4611686018427387900 := by omega
      have HK := Lib.hid hk1; clear hk1
      obtain ⟨c1, f1⟩ := Slab.facts (o)
      by_cases hlt : s.size ≤ k
      · go_wp2_with fail
        refine (at_out s k f 0 0 (w.heap.size + 1) _ o k hlt (by omega)).mono ?_
        rintro e2 w2 ⟨rfl, o2, h2⟩
        have p2 := p.only h2 hne
        have HB2 := Lib.hid (below_only HB.out h2 (by omega) (by omega))
        clear o p h2 c1 f1 HB
        obtain ⟨c5, f5⟩ := Slab.facts (o2)
        obtain ⟨c6, f6⟩ := Slab.facts (p2)
        have e5n : ((2 : Int) != 0) = true := by simp; try omega
        have e5q : ((2 : Int) == 0) = false := by simp; try omega
        go_wp2_with fail
        go_region_held3 (fun w' => w'.cell? ⟨w.heap.size + 1, 6, none⟩ = some (.int .i64 2) ∧ w'.cell? ⟨w.heap.size + 1, 7, none⟩ = some (.int .i64 (s.size : Int))) (simp [*, go_sem]) (fail)
        all_goals
          go_wp2
          rw [Exit.noGoto_ret]
          obtain ⟨c9, f9⟩ := ((((((p2).set 0 (.int .u64 0)).set 1 (.int .u64 0)).set 2 (.int .u64 0)).set 3 (.int .u64 0)).drew).facts
          refine bodyPost_ret (v := bresV ⟨fun _ => false, 0, 2, (s.size : Int)⟩) (by simp [results, Try.results47, go_sem, wd_zero, c9]) rfl ⟨congrArg (fun r => Ending.returned (bresV r)) ?_, ?_⟩
          · rw [HA.out, ← HL.out]; rw [loopF_out hlt]; rfl
          · have hb := HB2.out
            (repeat' (first | (with_reducible exact Below.refl _ _) | (with_reducible assumption) | (with_reducible refine Below.alloc ?_ ?_ _) | (with_reducible refine Below.drew ?_) | (with_reducible refine below_set ?_ ?_ _) | (with_reducible refine below_call ?_ ?_ (by assumption)) | (with_reducible exact Below.size (by assumption)) | omega | go_size))
      · have hlt' : k < s.size := by omega
        go_wp2_with fail
        refine (at_in s k f 0 0 (w.heap.size + 1) _ o k hlt' (by omega)).mono ?_
        rintro e2 w2 ⟨rfl, rfl⟩
        cases hb : (bt s k == 93) with
        | true =>
          have b : (((bt s k).toNat : Int) == 93) = true := (beq_int (bt s k) 93).trans hb
          have bn : (((bt s k).toNat : Int) != 93) = !true := by
            have := bne_int (bt s k) 93
            rw [hb] at this
            exact this
          have HBt := Lib.hid hb; clear hb
          cases hf : decide (((a : Int) + 1 + 1) < (k : Int)) with
          | true =>
            have hfk : a + 2 < k := by simp at hf; omega
            go_wp2_with fail
            refine (not_any f _).mono ?_
            rintro e4 w4 ⟨rfl, hb4⟩
            have o4 := o.call hb4
            have p4 := p.call hb4
            have HB4 := Lib.hid (below_then HB.out hb4)
            clear hb4 o p c1 f1 HB
            have o5 := RdAt.put o4 (fun x => !f x)
            have p5 := (((p4.far (b := w.heap.size + 1) hne (i := 2) (.int .u64 (wd (fun x => !f x) 0))).far (b := w.heap.size + 1) hne (i := 3) (.int .u64 (wd (fun x => !f x) 1))).far (b := w.heap.size + 1) hne (i := 4) (.int .u64 (wd (fun x => !f x) 2))).far (b := w.heap.size + 1) hne (i := 5) (.int .u64 (wd (fun x => !f x) 3))
            obtain ⟨c4, f4⟩ := Slab.facts (o4)
            obtain ⟨c5, f5⟩ := Slab.facts (o5)
            obtain ⟨c6, f6⟩ := Slab.facts (p5)
            have xk : IntKind.i64.wrap ((k : Int) + 1) = (k : Int) + 1 := IntWalk.i64_in _ (by omega)
            go_wp2_with fail
            go_region_held3 (fun w' => w'.cell? ⟨w.heap.size + 1, 1, none⟩ = some (.int .i64 (k : Int)) ∧ w'.cell? ⟨w.heap.size + 1, 2, none⟩ = some (.int .u64 (wd (fun x => !f x) 0)) ∧ w'.cell? ⟨w.heap.size + 1, 3, none⟩ = some (.int .u64 (wd (fun x => !f x) 1)) ∧ w'.cell? ⟨w.heap.size + 1, 4, none⟩ = some (.int .u64 (wd (fun x => !f x) 2)) ∧ w'.cell? ⟨w.heap.size + 1, 5, none⟩ = some (.int .u64 (wd (fun x => !f x) 3))) (simp [*, go_sem]) (fail)
            all_goals
              go_wp2
              rw [Exit.noGoto_ret]
              obtain ⟨c9, f9⟩ := ((((((p5).set 0 (.int .u64 (wd (fun x => !f x) 0))).set 1 (.int .u64 (wd (fun x => !f x) 1))).set 2 (.int .u64 (wd (fun x => !f x) 2))).set 3 (.int .u64 (wd (fun x => !f x) 3))).drew).facts
              refine bodyPost_ret (v := bresV ⟨(fun x => !f x), (k : Int) + 1, 0, 0⟩) (by simp [results, Try.results47, go_sem, c9]) rfl ⟨congrArg (fun r => Ending.returned (bresV r)) ?_, ?_⟩
              · rw [HA.out, ← HL.out, loopF_end hlt' HBt.out hfk]; rfl
              · have hb := HB4.out
                (repeat' (first | (with_reducible exact Below.refl _ _) | (with_reducible assumption) | (with_reducible refine Below.alloc ?_ ?_ _) | (with_reducible refine Below.drew ?_) | (with_reducible refine below_set ?_ ?_ _) | (with_reducible refine below_call ?_ ?_ (by assumption)) | (with_reducible exact Below.size (by assumption)) | omega | go_size))
          | false =>
            have hfk : ¬ a + 2 < k := by simp at hf; omega
            have he : (bt s k == 93 && decide (a + 2 < k)) = false := by rw [decide_eq_false hfk]; simp
            have HE := Lib.hid he; clear he
            go_wp2_with fail
            refine (thing_any s k f (w.heap.size + 1) _ o hlt' hs).mono ?_
            rintro e3 w3 ⟨rfl, r3, h3⟩
            have p3 := p.only h3 hne
            have HB3 := Lib.hid (below_only HB.out h3 (by omega) (by omega))
            have oc := o.cell 1
            clear p h3 c1 f1 HB o
            cases ht : thingF s k f with
            | go i' f' =>
              rw [ht] at r3
              have r4 : RdAt w3 (w.heap.size + 1) s i' f' 0 0 := r3
              obtain ⟨g1, g2⟩ := thingF_go ht
              have HT := Lib.hid ht; clear ht r3
              have oc' := Lib.hid oc; clear oc
              obtain ⟨c4, f4⟩ := Slab.facts (r4)
              have rc := Lib.hid (r4.cell 1)
              go_wp2
              go_roundw
              case rel => exact ⟨i', f', by omega, .inl g2, r4, p3, HB3.out, by rw [← HL.out, loopF_step hlt' HE.out, HT.out]⟩
              case measure =>
                rw [oc'.out, rc.out]
                simp [intOf]; omega
            | bad e' p' =>
              rw [ht] at r3
              obtain ⟨i', f', r4⟩ := r3
              have hb0 := thingF_bad ht
              have HT := Lib.hid ht; clear ht oc
              obtain ⟨c5, f5⟩ := Slab.facts (r4)
              obtain ⟨c6, f6⟩ := Slab.facts (p3)
              have e5n : ((e' : Int) != 0) = true := by simp; try omega
              have e5q : ((e' : Int) == 0) = false := by simp; try omega
              go_wp2_with fail
              go_region_held3 (fun w' => w'.cell? ⟨w.heap.size + 1, 6, none⟩ = some (.int .i64 e') ∧ w'.cell? ⟨w.heap.size + 1, 7, none⟩ = some (.int .i64 (p' : Int))) (simp [*, go_sem]) (fail)
              all_goals
                go_wp2
                rw [Exit.noGoto_ret]
                obtain ⟨c9, f9⟩ := ((((((p3).set 0 (.int .u64 0)).set 1 (.int .u64 0)).set 2 (.int .u64 0)).set 3 (.int .u64 0)).drew).facts
                refine bodyPost_ret (v := bresV ⟨fun _ => false, 0, e', (p' : Int)⟩) (by simp [results, Try.results47, go_sem, wd_zero, c9]) rfl ⟨congrArg (fun r => Ending.returned (bresV r)) ?_, ?_⟩
                · rw [HA.out, ← HL.out]; rw [loopF_step hlt' HE.out, HT.out]; rfl
                · have hb := HB3.out
                  (repeat' (first | (with_reducible exact Below.refl _ _) | (with_reducible assumption) | (with_reducible refine Below.alloc ?_ ?_ _) | (with_reducible refine Below.drew ?_) | (with_reducible refine below_set ?_ ?_ _) | (with_reducible refine below_call ?_ ?_ (by assumption)) | (with_reducible exact Below.size (by assumption)) | omega | go_size))
        | false =>
          have b : (((bt s k).toNat : Int) == 93) = false := (beq_int (bt s k) 93).trans hb
          have bn : (((bt s k).toNat : Int) != 93) = !false := by
            have := bne_int (bt s k) 93
            rw [hb] at this
            exact this
          have he : (bt s k == 93 && decide (a + 2 < k)) = false := by rw [hb]; simp
          have HE := Lib.hid he; clear he hb
          go_wp2_with fail
          refine (thing_any s k f (w.heap.size + 1) _ o hlt' hs).mono ?_
          rintro e3 w3 ⟨rfl, r3, h3⟩
          have p3 := p.only h3 hne
          have HB3 := Lib.hid (below_only HB.out h3 (by omega) (by omega))
          have oc := o.cell 1
          clear p h3 c1 f1 HB o
          cases ht : thingF s k f with
          | go i' f' =>
            rw [ht] at r3
            have r4 : RdAt w3 (w.heap.size + 1) s i' f' 0 0 := r3
            obtain ⟨g1, g2⟩ := thingF_go ht
            have HT := Lib.hid ht; clear ht r3
            have oc' := Lib.hid oc; clear oc
            obtain ⟨c4, f4⟩ := Slab.facts (r4)
            have rc := Lib.hid (r4.cell 1)
            go_wp2
            go_roundw
            case rel => exact ⟨i', f', by omega, .inl g2, r4, p3, HB3.out, by rw [← HL.out, loopF_step hlt' HE.out, HT.out]⟩
            case measure =>
              rw [oc'.out, rc.out]
              simp [intOf]; omega
          | bad e' p' =>
            rw [ht] at r3
            obtain ⟨i', f', r4⟩ := r3
            have hb0 := thingF_bad ht
            have HT := Lib.hid ht; clear ht oc
            obtain ⟨c5, f5⟩ := Slab.facts (r4)
            obtain ⟨c6, f6⟩ := Slab.facts (p3)
            have e5n : ((e' : Int) != 0) = true := by simp; try omega
            have e5q : ((e' : Int) == 0) = false := by simp; try omega
            go_wp2_with fail
            go_region_held3 (fun w' => w'.cell? ⟨w.heap.size + 1, 6, none⟩ = some (.int .i64 e') ∧ w'.cell? ⟨w.heap.size + 1, 7, none⟩ = some (.int .i64 (p' : Int))) (simp [*, go_sem]) (fail)
            all_goals
              go_wp2
              rw [Exit.noGoto_ret]
              obtain ⟨c9, f9⟩ := ((((((p3).set 0 (.int .u64 0)).set 1 (.int .u64 0)).set 2 (.int .u64 0)).set 3 (.int .u64 0)).drew).facts
              refine bodyPost_ret (v := bresV ⟨fun _ => false, 0, e', (p' : Int)⟩) (by simp [results, Try.results47, go_sem, wd_zero, c9]) rfl ⟨congrArg (fun r => Ending.returned (bresV r)) ?_, ?_⟩
              · rw [HA.out, ← HL.out]; rw [loopF_step hlt' HE.out, HT.out]; rfl
              · have hb := HB3.out
                (repeat' (first | (with_reducible exact Below.refl _ _) | (with_reducible assumption) | (with_reducible refine Below.alloc ?_ ?_ _) | (with_reducible refine Below.drew ?_) | (with_reducible refine below_set ?_ ?_ _) | (with_reducible refine below_call ?_ ?_ (by assumption)) | (with_reducible exact Below.size (by assumption)) | omega | go_size))
  | false =>
    have HN := Lib.hid hn; clear hn
    go_wp2
    go_step3
    go_wp2
    have o0 : RdAt ((w.alloc (.cells zero4 24)).alloc (.cells #[.string s, .int .i64 ((a : Int) + 1), .int .u64 0, .int .u64 0, .int .u64 0, .int .u64 0, .int .i64 0, .int .i64 0] 79)) (w.heap.size + 1) s ((a : Int) + 1) (fun _ => false) 0 0 := by
      simp only [RdAt, rdCells, wd_zero]; exact Slab.newAt _ _ _ (by simp)
    have p0 : Slab ((w.alloc (.cells zero4 24)).alloc (.cells #[.string s, .int .i64 ((a : Int) + 1), .int .u64 0, .int .u64 0, .int .u64 0, .int .u64 0, .int .i64 0, .int .i64 0] 79)) w.heap.size zero4 24 := (Slab.new _ _ _).alloc _
    have HB0 : Below w.heap.size w ((w.alloc (.cells zero4 24)).alloc (.cells #[.string s, .int .i64 ((a : Int) + 1), .int .u64 0, .int .u64 0, .int .u64 0, .int .u64 0, .int .i64 0, .int .i64 0] 79)) := by (repeat' (first | (with_reducible exact Below.refl _ _) | (with_reducible assumption) | (with_reducible refine Below.alloc ?_ ?_ _) | (with_reducible refine Below.drew ?_) | (with_reducible refine below_set ?_ ?_ _) | (with_reducible refine below_call ?_ ?_ (by assumption)) | (with_reducible exact Below.size (by assumption)) | omega | go_size))
    obtain ⟨Q, hQ⟩ : ∃ Q, loopF s (a + 1) (a + 1) (fun _ => false) = Q := ⟨_, rfl⟩
    have ha : R = ansOf false Q := by
      rw [← HR.out, ← hQ]; unfold readB
      rw [if_neg (by omega), if_neg (by show ¬ (bt s a != 91) = true; unfold bne; rw [HY.out]; simp)]
      show (if (bt s (a + 1) == 94) = true then _ else _) = _
      rw [HN.out]; rfl
    have HA := Lib.hid ha; clear ha
    have HQ := Lib.hid hQ; clear hQ
    go_loopw [11] (fun _ wr => ∃ (k : Nat) (f : Nat → Bool), a + 1 ≤ k ∧ (k ≤ s.size ∨ k = a + 1) ∧ RdAt wr (w.heap.size + 1) s k f 0 0 ∧ Slab wr w.heap.size zero4 24 ∧ Below w.heap.size w wr ∧ loopF s (a + 1) k f = Q)
      (fun _ wr => s.size + 2 - (intOf ((wr.cell? ⟨w.heap.size + 1, 1, none⟩).getD undef)).toNat)
    case atStart => exact ⟨a + 1, _, Nat.le_refl _, .inr rfl, o0, p0, HB0, HQ.out⟩
    case round =>
      clear o0 p0 HB0
      obtain ⟨k, f, hk0, hk1, o, p, hB, hL⟩ := hrel
      have hne : w.heap.size ≠ w.heap.size + 1 := by omega
      have hgl := o.lt
      have HL := Lib.hid hL; clear hL
      have HB := Lib.hid hB; clear hB
      have hk2 : k ≤ 4611686018427387900 := by omega
      have HK := Lib.hid hk1; clear hk1
      obtain ⟨c1, f1⟩ := Slab.facts (o)
      by_cases hlt : s.size ≤ k
      · go_wp2_with fail
        refine (at_out s k f 0 0 (w.heap.size + 1) _ o k hlt (by omega)).mono ?_
        rintro e2 w2 ⟨rfl, o2, h2⟩
        have p2 := p.only h2 hne
        have HB2 := Lib.hid (below_only HB.out h2 (by omega) (by omega))
        clear o p h2 c1 f1 HB
        obtain ⟨c5, f5⟩ := Slab.facts (o2)
        obtain ⟨c6, f6⟩ := Slab.facts (p2)
        have e5n : ((2 : Int) != 0) = true := by simp; try omega
        have e5q : ((2 : Int) == 0) = false := by simp; try omega
        go_wp2_with fail
        go_region_held3 (fun w' => w'.cell? ⟨w.heap.size + 1, 6, none⟩ = some (.int .i64 2) ∧ w'.cell? ⟨w.heap.size + 1, 7, none⟩ = some (.int .i64 (s.size : Int))) (simp [*, go_sem]) (fail)
        all_goals
          go_wp2
          rw [Exit.noGoto_ret]
          obtain ⟨c9, f9⟩ := ((((((p2).set 0 (.int .u64 0)).set 1 (.int .u64 0)).set 2 (.int .u64 0)).set 3 (.int .u64 0)).drew).facts
          refine bodyPost_ret (v := bresV ⟨fun _ => false, 0, 2, (s.size : Int)⟩) (by simp [results, Try.results47, go_sem, wd_zero, c9]) rfl ⟨congrArg (fun r => Ending.returned (bresV r)) ?_, ?_⟩
          · rw [HA.out, ← HL.out]; rw [loopF_out hlt]; rfl
          · have hb := HB2.out
            (repeat' (first | (with_reducible exact Below.refl _ _) | (with_reducible assumption) | (with_reducible refine Below.alloc ?_ ?_ _) | (with_reducible refine Below.drew ?_) | (with_reducible refine below_set ?_ ?_ _) | (with_reducible refine below_call ?_ ?_ (by assumption)) | (with_reducible exact Below.size (by assumption)) | omega | go_size))
      · have hlt' : k < s.size := by omega
        go_wp2_with fail
        refine (at_in s k f 0 0 (w.heap.size + 1) _ o k hlt' (by omega)).mono ?_
        rintro e2 w2 ⟨rfl, rfl⟩
        cases hb : (bt s k == 93) with
        | true =>
          have b : (((bt s k).toNat : Int) == 93) = true := (beq_int (bt s k) 93).trans hb
          have bn : (((bt s k).toNat : Int) != 93) = !true := by
            have := bne_int (bt s k) 93
            rw [hb] at this
            exact this
          have HBt := Lib.hid hb; clear hb
          cases hf : decide (((a : Int) + 1) < (k : Int)) with
          | true =>
            have hfk : a + 1 < k := by simp at hf; omega
            obtain ⟨c6, f6⟩ := Slab.facts (p)
            have xk : IntKind.i64.wrap ((k : Int) + 1) = (k : Int) + 1 := IntWalk.i64_in _ (by omega)
            go_wp2_with fail
            go_region_held3 (fun w' => w'.cell? ⟨w.heap.size + 1, 1, none⟩ = some (.int .i64 (k : Int)) ∧ w'.cell? ⟨w.heap.size + 1, 2, none⟩ = some (.int .u64 (wd f 0)) ∧ w'.cell? ⟨w.heap.size + 1, 3, none⟩ = some (.int .u64 (wd f 1)) ∧ w'.cell? ⟨w.heap.size + 1, 4, none⟩ = some (.int .u64 (wd f 2)) ∧ w'.cell? ⟨w.heap.size + 1, 5, none⟩ = some (.int .u64 (wd f 3))) (simp [*, go_sem]) (fail)
            all_goals
              go_wp2
              rw [Exit.noGoto_ret]
              obtain ⟨c9, f9⟩ := ((((((p).set 0 (.int .u64 (wd f 0))).set 1 (.int .u64 (wd f 1))).set 2 (.int .u64 (wd f 2))).set 3 (.int .u64 (wd f 3))).drew).facts
              refine bodyPost_ret (v := bresV ⟨f, (k : Int) + 1, 0, 0⟩) (by simp [results, Try.results47, go_sem, c9]) rfl ⟨congrArg (fun r => Ending.returned (bresV r)) ?_, ?_⟩
              · rw [HA.out, ← HL.out, loopF_end hlt' HBt.out hfk]; rfl
              · have hb := HB.out
                (repeat' (first | (with_reducible exact Below.refl _ _) | (with_reducible assumption) | (with_reducible refine Below.alloc ?_ ?_ _) | (with_reducible refine Below.drew ?_) | (with_reducible refine below_set ?_ ?_ _) | (with_reducible refine below_call ?_ ?_ (by assumption)) | (with_reducible exact Below.size (by assumption)) | omega | go_size))
          | false =>
            have hfk : ¬ a + 1 < k := by simp at hf; omega
            have he : (bt s k == 93 && decide (a + 1 < k)) = false := by rw [decide_eq_false hfk]; simp
            have HE := Lib.hid he; clear he
            go_wp2_with fail
            refine (thing_any s k f (w.heap.size + 1) _ o hlt' hs).mono ?_
            rintro e3 w3 ⟨rfl, r3, h3⟩
            have p3 := p.only h3 hne
            have HB3 := Lib.hid (below_only HB.out h3 (by omega) (by omega))
            have oc := o.cell 1
            clear p h3 c1 f1 HB o
            cases ht : thingF s k f with
            | go i' f' =>
              rw [ht] at r3
              have r4 : RdAt w3 (w.heap.size + 1) s i' f' 0 0 := r3
              obtain ⟨g1, g2⟩ := thingF_go ht
              have HT := Lib.hid ht; clear ht r3
              have oc' := Lib.hid oc; clear oc
              obtain ⟨c4, f4⟩ := Slab.facts (r4)
              have rc := Lib.hid (r4.cell 1)
              go_wp2
              go_roundw
              case rel => exact ⟨i', f', by omega, .inl g2, r4, p3, HB3.out, by rw [← HL.out, loopF_step hlt' HE.out, HT.out]⟩
              case measure =>
                rw [oc'.out, rc.out]
                simp [intOf]; omega
            | bad e' p' =>
              rw [ht] at r3
              obtain ⟨i', f', r4⟩ := r3
              have hb0 := thingF_bad ht
              have HT := Lib.hid ht; clear ht oc
              obtain ⟨c5, f5⟩ := Slab.facts (r4)
              obtain ⟨c6, f6⟩ := Slab.facts (p3)
              have e5n : ((e' : Int) != 0) = true := by simp; try omega
              have e5q : ((e' : Int) == 0) = false := by simp; try omega
              go_wp2_with fail
              go_region_held3 (fun w' => w'.cell? ⟨w.heap.size + 1, 6, none⟩ = some (.int .i64 e') ∧ w'.cell? ⟨w.heap.size + 1, 7, none⟩ = some (.int .i64 (p' : Int))) (simp [*, go_sem]) (fail)
              all_goals
                go_wp2
                rw [Exit.noGoto_ret]
                obtain ⟨c9, f9⟩ := ((((((p3).set 0 (.int .u64 0)).set 1 (.int .u64 0)).set 2 (.int .u64 0)).set 3 (.int .u64 0)).drew).facts
                refine bodyPost_ret (v := bresV ⟨fun _ => false, 0, e', (p' : Int)⟩) (by simp [results, Try.results47, go_sem, wd_zero, c9]) rfl ⟨congrArg (fun r => Ending.returned (bresV r)) ?_, ?_⟩
                · rw [HA.out, ← HL.out]; rw [loopF_step hlt' HE.out, HT.out]; rfl
                · have hb := HB3.out
                  (repeat' (first | (with_reducible exact Below.refl _ _) | (with_reducible assumption) | (with_reducible refine Below.alloc ?_ ?_ _) | (with_reducible refine Below.drew ?_) | (with_reducible refine below_set ?_ ?_ _) | (with_reducible refine below_call ?_ ?_ (by assumption)) | (with_reducible exact Below.size (by assumption)) | omega | go_size))
        | false =>
          have b : (((bt s k).toNat : Int) == 93) = false := (beq_int (bt s k) 93).trans hb
          have bn : (((bt s k).toNat : Int) != 93) = !false := by
            have := bne_int (bt s k) 93
            rw [hb] at this
            exact this
          have he : (bt s k == 93 && decide (a + 1 < k)) = false := by rw [hb]; simp
          have HE := Lib.hid he; clear he hb
          go_wp2_with fail
          refine (thing_any s k f (w.heap.size + 1) _ o hlt' hs).mono ?_
          rintro e3 w3 ⟨rfl, r3, h3⟩
          have p3 := p.only h3 hne
          have HB3 := Lib.hid (below_only HB.out h3 (by omega) (by omega))
          have oc := o.cell 1
          clear p h3 c1 f1 HB o
          cases ht : thingF s k f with
          | go i' f' =>
            rw [ht] at r3
            have r4 : RdAt w3 (w.heap.size + 1) s i' f' 0 0 := r3
            obtain ⟨g1, g2⟩ := thingF_go ht
            have HT := Lib.hid ht; clear ht r3
            have oc' := Lib.hid oc; clear oc
            obtain ⟨c4, f4⟩ := Slab.facts (r4)
            have rc := Lib.hid (r4.cell 1)
            go_wp2
            go_roundw
            case rel => exact ⟨i', f', by omega, .inl g2, r4, p3, HB3.out, by rw [← HL.out, loopF_step hlt' HE.out, HT.out]⟩
            case measure =>
              rw [oc'.out, rc.out]
              simp [intOf]; omega
          | bad e' p' =>
            rw [ht] at r3
            obtain ⟨i', f', r4⟩ := r3
            have hb0 := thingF_bad ht
            have HT := Lib.hid ht; clear ht oc
            obtain ⟨c5, f5⟩ := Slab.facts (r4)
            obtain ⟨c6, f6⟩ := Slab.facts (p3)
            have e5n : ((e' : Int) != 0) = true := by simp; try omega
            have e5q : ((e' : Int) == 0) = false := by simp; try omega
            go_wp2_with fail
            go_region_held3 (fun w' => w'.cell? ⟨w.heap.size + 1, 6, none⟩ = some (.int .i64 e') ∧ w'.cell? ⟨w.heap.size + 1, 7, none⟩ = some (.int .i64 (p' : Int))) (simp [*, go_sem]) (fail)
            all_goals
              go_wp2
              rw [Exit.noGoto_ret]
              obtain ⟨c9, f9⟩ := ((((((p3).set 0 (.int .u64 0)).set 1 (.int .u64 0)).set 2 (.int .u64 0)).set 3 (.int .u64 0)).drew).facts
              refine bodyPost_ret (v := bresV ⟨fun _ => false, 0, e', (p' : Int)⟩) (by simp [results, Try.results47, go_sem, wd_zero, c9]) rfl ⟨congrArg (fun r => Ending.returned (bresV r)) ?_, ?_⟩
              · rw [HA.out, ← HL.out]; rw [loopF_step hlt' HE.out, HT.out]; rfl
              · have hb := HB3.out
                (repeat' (first | (with_reducible exact Below.refl _ _) | (with_reducible assumption) | (with_reducible refine Below.alloc ?_ ?_ _) | (with_reducible refine Below.drew ?_) | (with_reducible refine below_set ?_ ?_ _) | (with_reducible refine below_call ?_ ?_ (by assumption)) | (with_reducible exact Below.size (by assumption)) | omega | go_size))
end Go.Proofs.Ythppilfojicfdaa
