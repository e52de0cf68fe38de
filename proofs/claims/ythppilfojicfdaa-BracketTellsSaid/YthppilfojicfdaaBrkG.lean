/- Walks of the package gimletref03: Read. -/
import Derived.Test.YthppilfojicfdaaProg
import Derived.WalkKit
import Derived.WalkSpells
import Derived.WalkLawsBesides
import Derived.Handy
import Derived.Lib.Hide
import Derived.Test.YthppilfojicfdaaBrkF
import Derived.Test.YthppilfojicfdaaRefB
namespace Go.Proofs.Ythppilfojicfdaa
open Go.RowKit SetP BrkP
theorem wpList_store_slab {P : Program} {ops : Array Oper} {rest : List Oper} {op : Oper} {a : Act} {w : World} {Q : Exit → Act → World → Prop} (hgd : op.guard = none) (ty : TypeId) (x y : Operand) (ho : op.op = .store ty x y)
    (g : Nat) (cells cs : Array Value) (t : TypeId) (hx : a.eval x = .pointer (some ⟨g, 0, none⟩)) (hy : a.eval y = .agg cells)
    (o : Slab w g cs t) (hz : cells.size = cs.size) (hi : (P.info? ty).map (·.size) = some cells.size) (h1 : cells.all (·.oneCell') = true)
    (h : ∀ w', Slab w' g cells t → Only g w w' → wpList P ops Q rest (a.put op.dst undef) w') : wpList P ops Q (op :: rest) a w := by
  refine wpList_store_mid hgd ty x y ho g 0 cells hx hy (there_slab o hz) hi h1 (h _ (slab_setCells o hz) ?_)
  have key : ∀ (vs : List Value) (k : Nat) (u : World), Only g w u → Only g w (u.setCells g k vs) := by
    intro vs
    induction vs with
    | nil => exact fun _ _ h => h
    | cons v r ih => exact fun k u h => ih (k + 1) _ (h.set k v)
  exact key _ _ _ (Only.refl _ _)
abbrev rbresV (a : Ans) : Value := .tuple #[setV a.set, .int .i64 a.stop, .int .i64 a.err, .int .i64 a.place]
def mSt (n : Nat) (g : Nat) (wr : World) : Nat := match wr.cell? ⟨g, 7, none⟩ with
  | some (.bool true) => 0
  | _ => n + 3 - (intOf ((wr.cell? ⟨g, 4, none⟩).getD undef)).toNat
theorem mSt_eq {n g : Nat} {wr : World} {f : Nat → Bool} {k e p : Int} {en nt : Bool} {t : TypeId} (h : Slab wr g (stCells f k e p en nt) t) : mSt n g wr = if en then 0 else n + 3 - k.toNat := by
  unfold mSt
  rw [h.cell 7, h.cell 4]
  cases en <;> rfl
theorem loopF_out' {s : ByteArray} {first i : Nat} {f : Nat → Bool} (h : s.size ≤ i) : loopF s first i f = .bad 2 s.size := by rw [loopF, dif_pos h]
theorem loopF_end' {s : ByteArray} {first i : Nat} {f : Nat → Bool} (h : i < s.size) (hb : (bt s i == 93) = true) (hf : first < i) : loopF s first i f = .go (i + 1) f := by
  rw [loopF, dif_neg (by omega), if_pos (by rw [hb]; simpa using hf)]
theorem closeF_bad' {s : ByteArray} {from_ j p : Nat} {f : Nat → Bool} {e : Int} (h : closeF s from_ j f = .bad e p) : e ≠ 0 := by
  unfold closeF at h
  split at h
  · cases h; decide
  · split at h
    · cases h; decide
    · split at h
      · cases h
      · cases h; decide
theorem classGo_badE' {s : ByteArray} {from_ p : Nat} {f : Nat → Bool} {e : Int} (j : Nat) (h : classGo s from_ f j = .bad e p) : e ≠ 0 := by
  induction hn : s.size - j using Nat.strongRecOn generalizing j with
  | _ n ih =>
    rw [classGo] at h
    split at h
    · cases h; decide
    · split at h
      · exact closeF_bad' h
      · split at h
        · exact ih (s.size - (j + 1)) (by omega) (j + 1) h rfl
        · cases h; decide
theorem spanF_bad' {s : ByteArray} {i p : Nat} {f : Nat → Bool} {c : UInt8} {e : Int} (h : spanF s i f c = .bad e p) : e ≠ 0 := by
  unfold spanF at h
  split at h
  · cases h; decide
  split at h
  · cases h
  split at h
  · cases h; decide
  split at h
  · cases h
  split at h
  · cases h; decide
  split at h
  · cases h; decide
  split at h
  · cases h; decide
  · cases h
theorem thingF_bad' {s : ByteArray} {i p : Nat} {f : Nat → Bool} {e : Int} (h : thingF s i f = .bad e p) : e ≠ 0 := by
  unfold thingF at h
  split at h
  · split at h
    · cases h; decide
    · split at h
      · exact classGo_badE' _ h
      · split at h
        · cases h; decide
        · exact spanF_bad' h
  · exact spanF_bad' h
theorem stPut {w : World} {g : Nat} {f : Nat → Bool} {k e p : Int} {en nt : Bool} (o : Slab w g (stCells f k e p en nt) 83) (h : Nat → Bool) :
    Slab ((((w.setCell ⟨g, 0, none⟩ (.int .u64 (wd h 0))).setCell ⟨g, 1, none⟩ (.int .u64 (wd h 1))).setCell ⟨g, 2, none⟩ (.int .u64 (wd h 2))).setCell ⟨g, 3, none⟩ (.int .u64 (wd h 3))) g (stCells h k e p en nt) 83 :=
  (((o.set 0 _).set 1 _).set 2 _).set 3 _
set_option maxRecDepth 100000 in
set_option maxHeartbeats 2000000 in
theorem rread3_any (s : ByteArray) (a : Int) (hs : s.size ≤ 4611686018427387000) (w : World) :
    Calls Try.prog 48 #[.string s, .int .i64 a] w fun e w' => e = .returned (rbresV (readB s a)) ∧ Below w.heap.size w w' := by
  obtain ⟨R, hR⟩ : ∃ R, readB s a = R := ⟨_, rfl⟩
  rw [hR]
  have HR := Lib.hid hR; clear hR
  cases h0 : decide (a < 0) with
  | true =>
    have k0 : a < 0 := by simpa using h0
    have K0 := Lib.hid k0; clear k0
    go_enter Try.func48, Try.ntmps48
    obtain ⟨c0, f0⟩ := Slab.facts (Slab.new w (cells4 fun _ => false) 24)
    go_wp2
    refine bodyPost_ret (v := rbresV ⟨fun _ => false, 0, 1, 0⟩) (by simp [results, Try.results48, go_sem, wd_zero]) rfl ⟨by rw [← HR.out]; unfold readB; rw [if_pos (.inl K0.out)], by (repeat' (first | (with_reducible exact Below.refl _ _) | (with_reducible assumption) | (with_reducible refine Below.alloc ?_ ?_ _) | (with_reducible refine Below.drew ?_) | (with_reducible refine below_set ?_ ?_ _) | (with_reducible refine below_call ?_ ?_ (by assumption)) | (with_reducible exact Below.size (by assumption)) | omega | go_size))⟩
  | false =>
  cases h1 : decide ((s.size : Int) ≤ a) with
  | true =>
    have k0 : (s.size : Int) ≤ a := by simpa using h1
    have K0 := Lib.hid k0; clear k0
    go_enter Try.func48, Try.ntmps48
    obtain ⟨c0, f0⟩ := Slab.facts (Slab.new w (cells4 fun _ => false) 24)
    go_wp2
    refine bodyPost_ret (v := rbresV ⟨fun _ => false, 0, 1, 0⟩) (by simp [results, Try.results48, go_sem, wd_zero]) rfl ⟨by rw [← HR.out]; unfold readB; rw [if_pos (.inr K0.out)], by (repeat' (first | (with_reducible exact Below.refl _ _) | (with_reducible assumption) | (with_reducible refine Below.alloc ?_ ?_ _) | (with_reducible refine Below.drew ?_) | (with_reducible refine below_set ?_ ?_ _) | (with_reducible refine below_call ?_ ?_ (by assumption)) | (with_reducible exact Below.size (by assumption)) | omega | go_size))⟩
  | false =>
  have h0' : 0 ≤ a := by simpa using h0
  have h1' : a < s.size := by simpa using h1
  clear h0 h1
  obtain ⟨a, rfl⟩ := Int.eq_ofNat_of_zero_le h0'
  have hlt : a < s.size := by omega
  have hbt := Lib.hid (bt_at s a hlt)
  cases hy : (bt s a == 91) with
  | false =>
    have HY := Lib.hid hy
    rw [hbt.out] at hy
    have y : (((s[a]).toNat : Int) == 91) = false := (beq_int' (s[a]) 91).trans hy
    have yn : (((s[a]).toNat : Int) != 91) = !false := by
      have := bne_int' (s[a]) 91
      rw [hy] at this
      exact this
    clear hy
    go_enter Try.func48, Try.ntmps48
    obtain ⟨c0, f0⟩ := Slab.facts (Slab.new w (cells4 fun _ => false) 24)
    go_wp2
    refine bodyPost_ret (v := rbresV ⟨fun _ => false, 0, 1, 0⟩) (by simp [results, Try.results48, go_sem, wd_zero]) rfl ⟨by rw [← HR.out]; unfold readB; rw [if_neg (by omega), if_pos (by show (bt s a != 91) = true; unfold bne; rw [HY.out]; rfl)], by (repeat' (first | (with_reducible exact Below.refl _ _) | (with_reducible assumption) | (with_reducible refine Below.alloc ?_ ?_ _) | (with_reducible refine Below.drew ?_) | (with_reducible refine below_set ?_ ?_ _) | (with_reducible refine below_call ?_ ?_ (by assumption)) | (with_reducible exact Below.size (by assumption)) | omega | go_size))⟩
  | true =>
  have HY := Lib.hid hy
  rw [hbt.out] at hy
  have y : (((s[a]).toNat : Int) == 91) = true := (beq_int' (s[a]) 91).trans hy
  have yn : (((s[a]).toNat : Int) != 91) = !true := by
    have := bne_int' (s[a]) 91
    rw [hy] at this
    exact this
  clear hy
  have d0 : decide ((a : Int) < 0) = false := by simp
  have d1 : decide (s.size ≤ a) = false := by simpa using hlt
  clear h0' h1'
  cases hn : (bt s (a + 1) == 94) with
  | true =>
    have k1 : a + 1 < s.size := by
      by_cases h : a + 1 < s.size
      · exact h
      · exfalso
        have : bt s (a + 1) = 0 := by
          unfold bt
          rw [List.getD_eq_getElem?_getD, List.getElem?_eq_none (by simp; omega)]; rfl
        rw [this] at hn; exact absurd hn (by decide)
    have d2 : decide (a + 1 < s.size) = true := by simpa using k1
    have HN := Lib.hid hn
    rw [bt_at s (a + 1) k1] at hn
    have n : (((s[a + 1]).toNat : Int) == 94) = true := (beq_int' (s[a + 1]) 94).trans hn
    have nn : (((s[a + 1]).toNat : Int) != 94) = !true := by
      have := bne_int' (s[a + 1]) 94
      rw [hn] at this
      exact this
    clear hn
    go_enter Try.func48, Try.ntmps48
    go_wp2
    have o0 : Slab ((w.alloc (.cells zero4 24)).alloc (.cells #[.int .u64 0, .int .u64 0, .int .u64 0, .int .u64 0, .int .i64 ((a : Int) + 2), .int .i64 0, .int .i64 0, .bool false, .bool true] 83)) (w.heap.size + 1) (stCells (fun _ => false) ((a : Int) + 2) 0 0 false true) 83 := by
      simp only [stCells, wd_zero]; exact Slab.newAt _ _ _ (by simp)
    have p0 : Slab ((w.alloc (.cells zero4 24)).alloc (.cells #[.int .u64 0, .int .u64 0, .int .u64 0, .int .u64 0, .int .i64 ((a : Int) + 2), .int .i64 0, .int .i64 0, .bool false, .bool true] 83)) w.heap.size zero4 24 := (Slab.new _ _ _).alloc _
    have HB0 : Below w.heap.size w ((w.alloc (.cells zero4 24)).alloc (.cells #[.int .u64 0, .int .u64 0, .int .u64 0, .int .u64 0, .int .i64 ((a : Int) + 2), .int .i64 0, .int .i64 0, .bool false, .bool true] 83)) := by (repeat' (first | (with_reducible exact Below.refl _ _) | (with_reducible assumption) | (with_reducible refine Below.alloc ?_ ?_ _) | (with_reducible refine Below.drew ?_) | (with_reducible refine below_set ?_ ?_ _) | (with_reducible refine below_call ?_ ?_ (by assumption)) | (with_reducible exact Below.size (by assumption)) | omega | go_size))
    obtain ⟨Q, hQ⟩ : ∃ Q, loopF s (a + 2) (a + 2) (fun _ => false) = Q := ⟨_, rfl⟩
    have ha : R = ansOf true Q := by
      rw [← HR.out, ← hQ]; unfold readB
      rw [if_neg (by omega), if_neg (by show ¬ (bt s a != 91) = true; unfold bne; rw [HY.out]; simp)]
      show (if (bt s (a + 1) == 94) = true then _ else _) = _
      rw [HN.out]; rfl
    have HA := Lib.hid ha; clear ha
    have HQ := Lib.hid hQ; clear hQ
    obtain ⟨nt, hnt⟩ : ∃ nt : Bool, nt = true := ⟨_, rfl⟩
    go_loopw [9] (fun x wr => ∃ (k : Nat) (f : Nat → Bool) (en first : Bool), x = .bool first ∧ Slab wr (w.heap.size + 1) (stCells f k 0 0 en nt) 83 ∧ Slab wr w.heap.size zero4 24 ∧ Below w.heap.size w wr ∧
        ((en = false ∧ a + 2 ≤ k ∧ (k ≤ s.size ∨ k = a + 2) ∧ first = decide (k = a + 2) ∧ loopF s (a + 2) k f = Q) ∨ (en = true ∧ k ≤ s.size ∧ Q = .go k f)))
      (fun _ wr => mSt s.size (w.heap.size + 1) wr)
    case atStart => subst hnt; exact ⟨a + 2, _, false, true, rfl, o0, p0, HB0, .inl ⟨rfl, Nat.le_refl _, .inr rfl, by simp, HQ.out⟩⟩
    case round =>
      clear o0 p0 HB0
      obtain ⟨k, f, en, first, rfl, o, p, hB, hor⟩ := hrel
      have hne : w.heap.size ≠ w.heap.size + 1 := by omega
      have hgl := o.lt
      have HB := Lib.hid hB; clear hB
      rcases hor with ⟨rfl, hk0, hk1, hfi, hL⟩ | ⟨rfl, hk, hQ⟩
      · have HL := Lib.hid hL; clear hL
        have hk2 : k ≤ 4611686018427387000 := by omega
        have HK := Lib.hid hk1; clear hk1
        have C := rthing_any s k f nt first hs hk2
        have hfe : (!first) = decide (a + 2 < k) := by rw [hfi, Bool.eq_iff_iff]; simp; omega
        have HF := Lib.hid hfe; clear hfe hfi
        clear hnt
        unfold rthing at C
        by_cases hlt : s.size ≤ k
        · rw [if_pos hlt] at C
          obtain ⟨c1, f1⟩ := Slab.facts (o)
          obtain ⟨c2, f2⟩ := Slab.facts (p)
          have e5n : ((2 : Int) != 0) = true := by simp; try omega
          have e5q : ((2 : Int) == 0) = false := by simp; try omega
          go_wp2_with fail
          refine (C _).mono ?_
          rintro e3 w3 ⟨rfl, hb3⟩
          have o3 := o.call hb3
          have p3 := p.call hb3
          have HB3 := Lib.hid (below_then HB.out hb3)
          clear hb3
          clear o p c1 f1 c2 f2 HB C
          go_wp2_with (refine wpList_store_slab ?r1 83 (.tmp 8) (.tmp 50) ?r2 (w.heap.size + 1) (badCells 2 (s.size : Int)) _ _ ?r3 ?r4 o3 ?r5 ?r6 ?r7 ?_; (case r1 => rfl); (case r2 => rfl); (case r3 => rfl); (case r4 => rfl); (case r5 => rfl); (case r6 => kernel_rfl); (case r7 => simp [Value.oneCell']); intro W4 o4 ho4; have p4 := p3.only ho4 hne; have HB4 := Lib.hid (below_only HB3.out ho4 (Nat.le_succ _) HB3.out.size); clear o3 p3 HB3 ho4; obtain ⟨c5, f5⟩ := o4.facts; obtain ⟨c6, f6⟩ := p4.facts)
          go_region_held3 (fun w' => w'.cell? ⟨w.heap.size + 1, 5, none⟩ = some (.int .i64 2) ∧ w'.cell? ⟨w.heap.size + 1, 6, none⟩ = some (.int .i64 (s.size : Int))) (simp [*, go_sem]) (fail)
          all_goals
            go_wp2
            refine bodyPost_ret (v := rbresV ⟨fun _ => false, 0, 2, (s.size : Int)⟩) (by simp [results, Try.results48, go_sem, wd_zero, c6, f6]) rfl ⟨congrArg (fun r => Ending.returned (rbresV r)) ?_, ?_⟩
            · rw [HA.out, ← HL.out]; rw [loopF_out' hlt]; rfl
            · have hb := HB4.out
              (repeat' (first | (with_reducible exact Below.refl _ _) | (with_reducible assumption) | (with_reducible refine Below.alloc ?_ ?_ _) | (with_reducible refine Below.drew ?_) | (with_reducible refine below_set ?_ ?_ _) | (with_reducible refine below_call ?_ ?_ (by assumption)) | (with_reducible exact Below.size (by assumption)) | omega | go_size))
        · rw [if_neg hlt] at C
          have hlt' : k < s.size := by omega
          cases hb : (bt s k == 93 && !first) with
          | true =>
            rw [hb, if_pos rfl] at C
            simp only [Bool.and_eq_true] at hb
            have hfk : a + 2 < k := by have := HF.out; rw [hb.2] at this; simpa using this.symm
            have hend := loopF_end' (first := a + 2) (f := f) hlt' hb.1 hfk
            have HEnd := Lib.hid hend; clear hend hb
            obtain ⟨c1, f1⟩ := Slab.facts (o)
            obtain ⟨c2, f2⟩ := Slab.facts (p)
            go_wp2_with fail
            refine (C _).mono ?_
            rintro e3 w3 ⟨rfl, hb3⟩
            have o3 := o.call hb3
            have p3 := p.call hb3
            have HB3 := Lib.hid (below_then HB.out hb3)
            clear hb3
            have ho := Lib.hid o
            clear o p c1 f1 c2 f2 HB C
            go_wp2_with (refine wpList_store_slab ?r1 83 (.tmp 8) (.tmp 50) ?r2 (w.heap.size + 1) (stCells f (k + 1 : Nat) 0 0 true nt) _ _ ?r3 ?r4 o3 ?r5 ?r6 ?r7 ?_; (case r1 => rfl); (case r2 => rfl); (case r3 => rfl); (case r4 => rfl); (case r5 => rfl); (case r6 => kernel_rfl); (case r7 => simp [Value.oneCell']); intro W4 o4 ho4; have p4 := p3.only ho4 hne; have HB4 := Lib.hid (below_only HB3.out ho4 (Nat.le_succ _) HB3.out.size); clear o3 p3 HB3 ho4; obtain ⟨c5, f5⟩ := o4.facts; obtain ⟨c6, f6⟩ := p4.facts)
            go_roundw
            case rel =>
              refine ⟨k + 1, f, true, false, rfl, o4, p4, HB4.out, ?_⟩
              exact .inr ⟨rfl, by omega, by rw [← HL.out, HEnd.out]⟩
            case measure =>
              rw [mSt_eq ho.out, mSt_eq o4]
              simp; try omega
          | false =>
            rw [hb, if_neg (by simp)] at C
            have he : (bt s k == 93 && decide (a + 2 < k)) = false := by rw [← HF.out]; exact hb
            have hst := loopF_step (f := f) hlt' he
            have HE := Lib.hid hst; clear hst he hb
            cases ht : thingF s k f with
            | go i' f' =>
              rw [ht] at C
              obtain ⟨g1, g2⟩ := thingF_go ht
              have HT := Lib.hid ht; clear ht
              obtain ⟨c1, f1⟩ := Slab.facts (o)
              obtain ⟨c2, f2⟩ := Slab.facts (p)
              go_wp2_with fail
              refine (C _).mono ?_
              rintro e3 w3 ⟨rfl, hb3⟩
              have o3 := o.call hb3
              have p3 := p.call hb3
              have HB3 := Lib.hid (below_then HB.out hb3)
              clear hb3
              have ho := Lib.hid o
              clear o p c1 f1 c2 f2 HB C
              go_wp2_with (refine wpList_store_slab ?r1 83 (.tmp 8) (.tmp 50) ?r2 (w.heap.size + 1) (stCells f' (i' : Nat) 0 0 false nt) _ _ ?r3 ?r4 o3 ?r5 ?r6 ?r7 ?_; (case r1 => rfl); (case r2 => rfl); (case r3 => rfl); (case r4 => rfl); (case r5 => rfl); (case r6 => kernel_rfl); (case r7 => simp [Value.oneCell']); intro W4 o4 ho4; have p4 := p3.only ho4 hne; have HB4 := Lib.hid (below_only HB3.out ho4 (Nat.le_succ _) HB3.out.size); clear o3 p3 HB3 ho4; obtain ⟨c5, f5⟩ := o4.facts; obtain ⟨c6, f6⟩ := p4.facts)
              go_roundw
              case rel =>
                refine ⟨i', f', false, false, rfl, o4, p4, HB4.out, ?_⟩
                exact .inl ⟨rfl, by omega, .inl g2, by symm; simp; omega, by rw [← HL.out, HE.out, HT.out]⟩
              case measure =>
                rw [mSt_eq ho.out, mSt_eq o4]
                simp; try omega
            | bad e' p' =>
              rw [ht] at C
              have hb0 := thingF_bad' ht
              have HT := Lib.hid ht; clear ht
              obtain ⟨c1, f1⟩ := Slab.facts (o)
              obtain ⟨c2, f2⟩ := Slab.facts (p)
              have e5n : ((e' : Int) != 0) = true := by simp; try omega
              have e5q : ((e' : Int) == 0) = false := by simp; try omega
              go_wp2_with fail
              refine (C _).mono ?_
              rintro e3 w3 ⟨rfl, hb3⟩
              have o3 := o.call hb3
              have p3 := p.call hb3
              have HB3 := Lib.hid (below_then HB.out hb3)
              clear hb3
              clear o p c1 f1 c2 f2 HB C
              go_wp2_with (refine wpList_store_slab ?r1 83 (.tmp 8) (.tmp 50) ?r2 (w.heap.size + 1) (badCells e' (p' : Int)) _ _ ?r3 ?r4 o3 ?r5 ?r6 ?r7 ?_; (case r1 => rfl); (case r2 => rfl); (case r3 => rfl); (case r4 => rfl); (case r5 => rfl); (case r6 => kernel_rfl); (case r7 => simp [Value.oneCell']); intro W4 o4 ho4; have p4 := p3.only ho4 hne; have HB4 := Lib.hid (below_only HB3.out ho4 (Nat.le_succ _) HB3.out.size); clear o3 p3 HB3 ho4; obtain ⟨c5, f5⟩ := o4.facts; obtain ⟨c6, f6⟩ := p4.facts)
              go_region_held3 (fun w' => w'.cell? ⟨w.heap.size + 1, 5, none⟩ = some (.int .i64 e') ∧ w'.cell? ⟨w.heap.size + 1, 6, none⟩ = some (.int .i64 (p' : Int))) (simp [*, go_sem]) (fail)
              all_goals
                go_wp2
                refine bodyPost_ret (v := rbresV ⟨fun _ => false, 0, e', (p' : Int)⟩) (by simp [results, Try.results48, go_sem, wd_zero, c6, f6]) rfl ⟨congrArg (fun r => Ending.returned (rbresV r)) ?_, ?_⟩
                · rw [HA.out, ← HL.out]; rw [HE.out, HT.out]; rfl
                · have hb := HB4.out
                  (repeat' (first | (with_reducible exact Below.refl _ _) | (with_reducible assumption) | (with_reducible refine Below.alloc ?_ ?_ _) | (with_reducible refine Below.drew ?_) | (with_reducible refine below_set ?_ ?_ _) | (with_reducible refine below_call ?_ ?_ (by assumption)) | (with_reducible exact Below.size (by assumption)) | omega | go_size))
      · have HQ2 := Lib.hid hQ; clear hQ
        subst hnt
        obtain ⟨c1, f1⟩ := Slab.facts (o)
        obtain ⟨c2, f2⟩ := Slab.facts (p)
        go_wp2_with fail
        refine (rnot_any f _).mono ?_
        rintro e4 w4 ⟨rfl, hb4⟩
        have o4 := o.call hb4
        have p4 := p.call hb4
        have HB4 := Lib.hid (below_then HB.out hb4)
        clear hb4 o p c1 f1 c2 f2 HB
        have o5 := stPut o4 (fun x => !f x)
        have p5 := (((p4.far (b := w.heap.size + 1) hne (i := 0) (.int .u64 (wd (fun x => !f x) 0))).far (b := w.heap.size + 1) hne (i := 1) (.int .u64 (wd (fun x => !f x) 1))).far (b := w.heap.size + 1) hne (i := 2) (.int .u64 (wd (fun x => !f x) 2))).far (b := w.heap.size + 1) hne (i := 3) (.int .u64 (wd (fun x => !f x) 3))
        obtain ⟨c4, f4⟩ := Slab.facts (o4)
        obtain ⟨c5, f5⟩ := Slab.facts (o5)
        obtain ⟨c6, f6⟩ := Slab.facts (p5)
        go_wp2_with fail
        go_region_held3 (fun w' => w'.cell? ⟨w.heap.size + 1, 4, none⟩ = some (.int .i64 (k : Int)) ∧ w'.cell? ⟨w.heap.size + 1, 0, none⟩ = some (.int .u64 (wd (fun x => !f x) 0)) ∧ w'.cell? ⟨w.heap.size + 1, 1, none⟩ = some (.int .u64 (wd (fun x => !f x) 1)) ∧ w'.cell? ⟨w.heap.size + 1, 2, none⟩ = some (.int .u64 (wd (fun x => !f x) 2)) ∧ w'.cell? ⟨w.heap.size + 1, 3, none⟩ = some (.int .u64 (wd (fun x => !f x) 3))) (simp [*, go_sem]) (fail)
        all_goals
          go_wp2
          obtain ⟨c9, f9⟩ := ((((((p5).set 0 (.int .u64 (wd (fun x => !f x) 0))).set 1 (.int .u64 (wd (fun x => !f x) 1))).set 2 (.int .u64 (wd (fun x => !f x) 2))).set 3 (.int .u64 (wd (fun x => !f x) 3))).drew).facts
          refine bodyPost_ret (v := rbresV ⟨(fun x => !f x), (k : Int), 0, 0⟩) (by simp [results, Try.results48, go_sem, c9]) rfl ⟨congrArg (fun r => Ending.returned (rbresV r)) ?_, ?_⟩
          · rw [HA.out, HQ2.out]; rfl
          · have hb := HB4.out
            (repeat' (first | (with_reducible exact Below.refl _ _) | (with_reducible assumption) | (with_reducible refine Below.alloc ?_ ?_ _) | (with_reducible refine Below.drew ?_) | (with_reducible refine below_set ?_ ?_ _) | (with_reducible refine below_call ?_ ?_ (by assumption)) | (with_reducible exact Below.size (by assumption)) | omega | go_size))
  | false =>
    have HN := Lib.hid hn
    by_cases k1 : a + 1 < s.size
    · have d2 : decide (a + 1 < s.size) = true := by simpa using k1
      rw [bt_at s (a + 1) k1] at hn
      have n : (((s[a + 1]).toNat : Int) == 94) = false := (beq_int' (s[a + 1]) 94).trans hn
      have nn : (((s[a + 1]).toNat : Int) != 94) = !false := by
        have := bne_int' (s[a + 1]) 94
        rw [hn] at this
        exact this
      clear hn
      go_enter Try.func48, Try.ntmps48
      go_wp2
      have o0 : Slab ((w.alloc (.cells zero4 24)).alloc (.cells #[.int .u64 0, .int .u64 0, .int .u64 0, .int .u64 0, .int .i64 ((a : Int) + 1), .int .i64 0, .int .i64 0, .bool false, .bool false] 83)) (w.heap.size + 1) (stCells (fun _ => false) ((a : Int) + 1) 0 0 false false) 83 := by
        simp only [stCells, wd_zero]; exact Slab.newAt _ _ _ (by simp)
      have p0 : Slab ((w.alloc (.cells zero4 24)).alloc (.cells #[.int .u64 0, .int .u64 0, .int .u64 0, .int .u64 0, .int .i64 ((a : Int) + 1), .int .i64 0, .int .i64 0, .bool false, .bool false] 83)) w.heap.size zero4 24 := (Slab.new _ _ _).alloc _
      have HB0 : Below w.heap.size w ((w.alloc (.cells zero4 24)).alloc (.cells #[.int .u64 0, .int .u64 0, .int .u64 0, .int .u64 0, .int .i64 ((a : Int) + 1), .int .i64 0, .int .i64 0, .bool false, .bool false] 83)) := by (repeat' (first | (with_reducible exact Below.refl _ _) | (with_reducible assumption) | (with_reducible refine Below.alloc ?_ ?_ _) | (with_reducible refine Below.drew ?_) | (with_reducible refine below_set ?_ ?_ _) | (with_reducible refine below_call ?_ ?_ (by assumption)) | (with_reducible exact Below.size (by assumption)) | omega | go_size))
      obtain ⟨Q, hQ⟩ : ∃ Q, loopF s (a + 1) (a + 1) (fun _ => false) = Q := ⟨_, rfl⟩
      have ha : R = ansOf false Q := by
        rw [← HR.out, ← hQ]; unfold readB
        rw [if_neg (by omega), if_neg (by show ¬ (bt s a != 91) = true; unfold bne; rw [HY.out]; simp)]
        show (if (bt s (a + 1) == 94) = true then _ else _) = _
        rw [HN.out]; rfl
      have HA := Lib.hid ha; clear ha
      have HQ := Lib.hid hQ; clear hQ
      obtain ⟨nt, hnt⟩ : ∃ nt : Bool, nt = false := ⟨_, rfl⟩
      go_loopw [9] (fun x wr => ∃ (k : Nat) (f : Nat → Bool) (en first : Bool), x = .bool first ∧ Slab wr (w.heap.size + 1) (stCells f k 0 0 en nt) 83 ∧ Slab wr w.heap.size zero4 24 ∧ Below w.heap.size w wr ∧
          ((en = false ∧ a + 1 ≤ k ∧ (k ≤ s.size ∨ k = a + 1) ∧ first = decide (k = a + 1) ∧ loopF s (a + 1) k f = Q) ∨ (en = true ∧ k ≤ s.size ∧ Q = .go k f)))
        (fun _ wr => mSt s.size (w.heap.size + 1) wr)
      case atStart => subst hnt; exact ⟨a + 1, _, false, true, rfl, o0, p0, HB0, .inl ⟨rfl, Nat.le_refl _, .inr rfl, by simp, HQ.out⟩⟩
      case round =>
        clear o0 p0 HB0
        obtain ⟨k, f, en, first, rfl, o, p, hB, hor⟩ := hrel
        have hne : w.heap.size ≠ w.heap.size + 1 := by omega
        have hgl := o.lt
        have HB := Lib.hid hB; clear hB
        rcases hor with ⟨rfl, hk0, hk1, hfi, hL⟩ | ⟨rfl, hk, hQ⟩
        · have HL := Lib.hid hL; clear hL
          have hk2 : k ≤ 4611686018427387000 := by omega
          have HK := Lib.hid hk1; clear hk1
          have C := rthing_any s k f nt first hs hk2
          have hfe : (!first) = decide (a + 1 < k) := by rw [hfi, Bool.eq_iff_iff]; simp; omega
          have HF := Lib.hid hfe; clear hfe hfi
          clear hnt
          unfold rthing at C
          by_cases hlt : s.size ≤ k
          · rw [if_pos hlt] at C
            obtain ⟨c1, f1⟩ := Slab.facts (o)
            obtain ⟨c2, f2⟩ := Slab.facts (p)
            have e5n : ((2 : Int) != 0) = true := by simp; try omega
            have e5q : ((2 : Int) == 0) = false := by simp; try omega
            go_wp2_with fail
            refine (C _).mono ?_
            rintro e3 w3 ⟨rfl, hb3⟩
            have o3 := o.call hb3
            have p3 := p.call hb3
            have HB3 := Lib.hid (below_then HB.out hb3)
            clear hb3
            clear o p c1 f1 c2 f2 HB C
            go_wp2_with (refine wpList_store_slab ?r1 83 (.tmp 8) (.tmp 50) ?r2 (w.heap.size + 1) (badCells 2 (s.size : Int)) _ _ ?r3 ?r4 o3 ?r5 ?r6 ?r7 ?_; (case r1 => rfl); (case r2 => rfl); (case r3 => rfl); (case r4 => rfl); (case r5 => rfl); (case r6 => kernel_rfl); (case r7 => simp [Value.oneCell']); intro W4 o4 ho4; have p4 := p3.only ho4 hne; have HB4 := Lib.hid (below_only HB3.out ho4 (Nat.le_succ _) HB3.out.size); clear o3 p3 HB3 ho4; obtain ⟨c5, f5⟩ := o4.facts; obtain ⟨c6, f6⟩ := p4.facts)
            go_region_held3 (fun w' => w'.cell? ⟨w.heap.size + 1, 5, none⟩ = some (.int .i64 2) ∧ w'.cell? ⟨w.heap.size + 1, 6, none⟩ = some (.int .i64 (s.size : Int))) (simp [*, go_sem]) (fail)
            all_goals
              go_wp2
              refine bodyPost_ret (v := rbresV ⟨fun _ => false, 0, 2, (s.size : Int)⟩) (by simp [results, Try.results48, go_sem, wd_zero, c6, f6]) rfl ⟨congrArg (fun r => Ending.returned (rbresV r)) ?_, ?_⟩
              · rw [HA.out, ← HL.out]; rw [loopF_out' hlt]; rfl
              · have hb := HB4.out
                (repeat' (first | (with_reducible exact Below.refl _ _) | (with_reducible assumption) | (with_reducible refine Below.alloc ?_ ?_ _) | (with_reducible refine Below.drew ?_) | (with_reducible refine below_set ?_ ?_ _) | (with_reducible refine below_call ?_ ?_ (by assumption)) | (with_reducible exact Below.size (by assumption)) | omega | go_size))
          · rw [if_neg hlt] at C
            have hlt' : k < s.size := by omega
            cases hb : (bt s k == 93 && !first) with
            | true =>
              rw [hb, if_pos rfl] at C
              simp only [Bool.and_eq_true] at hb
              have hfk : a + 1 < k := by have := HF.out; rw [hb.2] at this; simpa using this.symm
              have hend := loopF_end' (first := a + 1) (f := f) hlt' hb.1 hfk
              have HEnd := Lib.hid hend; clear hend hb
              obtain ⟨c1, f1⟩ := Slab.facts (o)
              obtain ⟨c2, f2⟩ := Slab.facts (p)
              go_wp2_with fail
              refine (C _).mono ?_
              rintro e3 w3 ⟨rfl, hb3⟩
              have o3 := o.call hb3
              have p3 := p.call hb3
              have HB3 := Lib.hid (below_then HB.out hb3)
              clear hb3
              have ho := Lib.hid o
              clear o p c1 f1 c2 f2 HB C
              go_wp2_with (refine wpList_store_slab ?r1 83 (.tmp 8) (.tmp 50) ?r2 (w.heap.size + 1) (stCells f (k + 1 : Nat) 0 0 true nt) _ _ ?r3 ?r4 o3 ?r5 ?r6 ?r7 ?_; (case r1 => rfl); (case r2 => rfl); (case r3 => rfl); (case r4 => rfl); (case r5 => rfl); (case r6 => kernel_rfl); (case r7 => simp [Value.oneCell']); intro W4 o4 ho4; have p4 := p3.only ho4 hne; have HB4 := Lib.hid (below_only HB3.out ho4 (Nat.le_succ _) HB3.out.size); clear o3 p3 HB3 ho4; obtain ⟨c5, f5⟩ := o4.facts; obtain ⟨c6, f6⟩ := p4.facts)
              go_roundw
              case rel =>
                refine ⟨k + 1, f, true, false, rfl, o4, p4, HB4.out, ?_⟩
                exact .inr ⟨rfl, by omega, by rw [← HL.out, HEnd.out]⟩
              case measure =>
                rw [mSt_eq ho.out, mSt_eq o4]
                simp; try omega
            | false =>
              rw [hb, if_neg (by simp)] at C
              have he : (bt s k == 93 && decide (a + 1 < k)) = false := by rw [← HF.out]; exact hb
              have hst := loopF_step (f := f) hlt' he
              have HE := Lib.hid hst; clear hst he hb
              cases ht : thingF s k f with
              | go i' f' =>
                rw [ht] at C
                obtain ⟨g1, g2⟩ := thingF_go ht
                have HT := Lib.hid ht; clear ht
                obtain ⟨c1, f1⟩ := Slab.facts (o)
                obtain ⟨c2, f2⟩ := Slab.facts (p)
                go_wp2_with fail
                refine (C _).mono ?_
                rintro e3 w3 ⟨rfl, hb3⟩
                have o3 := o.call hb3
                have p3 := p.call hb3
                have HB3 := Lib.hid (below_then HB.out hb3)
                clear hb3
                have ho := Lib.hid o
                clear o p c1 f1 c2 f2 HB C
                go_wp2_with (refine wpList_store_slab ?r1 83 (.tmp 8) (.tmp 50) ?r2 (w.heap.size + 1) (stCells f' (i' : Nat) 0 0 false nt) _ _ ?r3 ?r4 o3 ?r5 ?r6 ?r7 ?_; (case r1 => rfl); (case r2 => rfl); (case r3 => rfl); (case r4 => rfl); (case r5 => rfl); (case r6 => kernel_rfl); (case r7 => simp [Value.oneCell']); intro W4 o4 ho4; have p4 := p3.only ho4 hne; have HB4 := Lib.hid (below_only HB3.out ho4 (Nat.le_succ _) HB3.out.size); clear o3 p3 HB3 ho4; obtain ⟨c5, f5⟩ := o4.facts; obtain ⟨c6, f6⟩ := p4.facts)
                go_roundw
                case rel =>
                  refine ⟨i', f', false, false, rfl, o4, p4, HB4.out, ?_⟩
                  exact .inl ⟨rfl, by omega, .inl g2, by symm; simp; omega, by rw [← HL.out, HE.out, HT.out]⟩
                case measure =>
                  rw [mSt_eq ho.out, mSt_eq o4]
                  simp; try omega
              | bad e' p' =>
                rw [ht] at C
                have hb0 := thingF_bad' ht
                have HT := Lib.hid ht; clear ht
                obtain ⟨c1, f1⟩ := Slab.facts (o)
                obtain ⟨c2, f2⟩ := Slab.facts (p)
                have e5n : ((e' : Int) != 0) = true := by simp; try omega
                have e5q : ((e' : Int) == 0) = false := by simp; try omega
                go_wp2_with fail
                refine (C _).mono ?_
                rintro e3 w3 ⟨rfl, hb3⟩
                have o3 := o.call hb3
                have p3 := p.call hb3
                have HB3 := Lib.hid (below_then HB.out hb3)
                clear hb3
                clear o p c1 f1 c2 f2 HB C
                go_wp2_with (refine wpList_store_slab ?r1 83 (.tmp 8) (.tmp 50) ?r2 (w.heap.size + 1) (badCells e' (p' : Int)) _ _ ?r3 ?r4 o3 ?r5 ?r6 ?r7 ?_; (case r1 => rfl); (case r2 => rfl); (case r3 => rfl); (case r4 => rfl); (case r5 => rfl); (case r6 => kernel_rfl); (case r7 => simp [Value.oneCell']); intro W4 o4 ho4; have p4 := p3.only ho4 hne; have HB4 := Lib.hid (below_only HB3.out ho4 (Nat.le_succ _) HB3.out.size); clear o3 p3 HB3 ho4; obtain ⟨c5, f5⟩ := o4.facts; obtain ⟨c6, f6⟩ := p4.facts)
                go_region_held3 (fun w' => w'.cell? ⟨w.heap.size + 1, 5, none⟩ = some (.int .i64 e') ∧ w'.cell? ⟨w.heap.size + 1, 6, none⟩ = some (.int .i64 (p' : Int))) (simp [*, go_sem]) (fail)
                all_goals
                  go_wp2
                  refine bodyPost_ret (v := rbresV ⟨fun _ => false, 0, e', (p' : Int)⟩) (by simp [results, Try.results48, go_sem, wd_zero, c6, f6]) rfl ⟨congrArg (fun r => Ending.returned (rbresV r)) ?_, ?_⟩
                  · rw [HA.out, ← HL.out]; rw [HE.out, HT.out]; rfl
                  · have hb := HB4.out
                    (repeat' (first | (with_reducible exact Below.refl _ _) | (with_reducible assumption) | (with_reducible refine Below.alloc ?_ ?_ _) | (with_reducible refine Below.drew ?_) | (with_reducible refine below_set ?_ ?_ _) | (with_reducible refine below_call ?_ ?_ (by assumption)) | (with_reducible exact Below.size (by assumption)) | omega | go_size))
        · have HQ2 := Lib.hid hQ; clear hQ
          subst hnt
          obtain ⟨c1, f1⟩ := Slab.facts (o)
          obtain ⟨c2, f2⟩ := Slab.facts (p)
          go_wp2_with fail
          go_region_held3 (fun w' => w'.cell? ⟨w.heap.size + 1, 4, none⟩ = some (.int .i64 (k : Int)) ∧ w'.cell? ⟨w.heap.size + 1, 0, none⟩ = some (.int .u64 (wd f 0)) ∧ w'.cell? ⟨w.heap.size + 1, 1, none⟩ = some (.int .u64 (wd f 1)) ∧ w'.cell? ⟨w.heap.size + 1, 2, none⟩ = some (.int .u64 (wd f 2)) ∧ w'.cell? ⟨w.heap.size + 1, 3, none⟩ = some (.int .u64 (wd f 3))) (simp [*, go_sem]) (fail)
          all_goals
            go_wp2
            obtain ⟨c9, f9⟩ := ((((((p).set 0 (.int .u64 (wd f 0))).set 1 (.int .u64 (wd f 1))).set 2 (.int .u64 (wd f 2))).set 3 (.int .u64 (wd f 3))).drew).facts
            refine bodyPost_ret (v := rbresV ⟨f, (k : Int), 0, 0⟩) (by simp [results, Try.results48, go_sem, c9]) rfl ⟨congrArg (fun r => Ending.returned (rbresV r)) ?_, ?_⟩
            · rw [HA.out, HQ2.out]; rfl
            · have hb := HB.out
              (repeat' (first | (with_reducible exact Below.refl _ _) | (with_reducible assumption) | (with_reducible refine Below.alloc ?_ ?_ _) | (with_reducible refine Below.drew ?_) | (with_reducible refine below_set ?_ ?_ _) | (with_reducible refine below_call ?_ ?_ (by assumption)) | (with_reducible exact Below.size (by assumption)) | omega | go_size))
    · have d2 : decide (a + 1 < s.size) = false := by simpa using k1
      have d3 : decide ((a : Int) + 1 < (s.size : Int)) = false := by simp; omega
      clear hn k1
      go_enter Try.func48, Try.ntmps48
      go_wp2
      have o0 : Slab ((w.alloc (.cells zero4 24)).alloc (.cells #[.int .u64 0, .int .u64 0, .int .u64 0, .int .u64 0, .int .i64 ((a : Int) + 1), .int .i64 0, .int .i64 0, .bool false, .bool false] 83)) (w.heap.size + 1) (stCells (fun _ => false) ((a : Int) + 1) 0 0 false false) 83 := by
        simp only [stCells, wd_zero]; exact Slab.newAt _ _ _ (by simp)
      have p0 : Slab ((w.alloc (.cells zero4 24)).alloc (.cells #[.int .u64 0, .int .u64 0, .int .u64 0, .int .u64 0, .int .i64 ((a : Int) + 1), .int .i64 0, .int .i64 0, .bool false, .bool false] 83)) w.heap.size zero4 24 := (Slab.new _ _ _).alloc _
      have HB0 : Below w.heap.size w ((w.alloc (.cells zero4 24)).alloc (.cells #[.int .u64 0, .int .u64 0, .int .u64 0, .int .u64 0, .int .i64 ((a : Int) + 1), .int .i64 0, .int .i64 0, .bool false, .bool false] 83)) := by (repeat' (first | (with_reducible exact Below.refl _ _) | (with_reducible assumption) | (with_reducible refine Below.alloc ?_ ?_ _) | (with_reducible refine Below.drew ?_) | (with_reducible refine below_set ?_ ?_ _) | (with_reducible refine below_call ?_ ?_ (by assumption)) | (with_reducible exact Below.size (by assumption)) | omega | go_size))
      obtain ⟨Q, hQ⟩ : ∃ Q, loopF s (a + 1) (a + 1) (fun _ => false) = Q := ⟨_, rfl⟩
      have ha : R = ansOf false Q := by
        rw [← HR.out, ← hQ]; unfold readB
        rw [if_neg (by omega), if_neg (by show ¬ (bt s a != 91) = true; unfold bne; rw [HY.out]; simp)]
        show (if (bt s (a + 1) == 94) = true then _ else _) = _
        rw [HN.out]; rfl
      have HA := Lib.hid ha; clear ha
      have HQ := Lib.hid hQ; clear hQ
      obtain ⟨nt, hnt⟩ : ∃ nt : Bool, nt = false := ⟨_, rfl⟩
      go_loopw [9] (fun x wr => ∃ (k : Nat) (f : Nat → Bool) (en first : Bool), x = .bool first ∧ Slab wr (w.heap.size + 1) (stCells f k 0 0 en nt) 83 ∧ Slab wr w.heap.size zero4 24 ∧ Below w.heap.size w wr ∧
          ((en = false ∧ a + 1 ≤ k ∧ (k ≤ s.size ∨ k = a + 1) ∧ first = decide (k = a + 1) ∧ loopF s (a + 1) k f = Q) ∨ (en = true ∧ k ≤ s.size ∧ Q = .go k f)))
        (fun _ wr => mSt s.size (w.heap.size + 1) wr)
      case atStart => subst hnt; exact ⟨a + 1, _, false, true, rfl, o0, p0, HB0, .inl ⟨rfl, Nat.le_refl _, .inr rfl, by simp, HQ.out⟩⟩
      case round =>
        clear o0 p0 HB0
        obtain ⟨k, f, en, first, rfl, o, p, hB, hor⟩ := hrel
        have hne : w.heap.size ≠ w.heap.size + 1 := by omega
        have hgl := o.lt
        have HB := Lib.hid hB; clear hB
        rcases hor with ⟨rfl, hk0, hk1, hfi, hL⟩ | ⟨rfl, hk, hQ⟩
        · have HL := Lib.hid hL; clear hL
          have hk2 : k ≤ 4611686018427387000 := by omega
          have HK := Lib.hid hk1; clear hk1
          have C := rthing_any s k f nt first hs hk2
          have hfe : (!first) = decide (a + 1 < k) := by rw [hfi, Bool.eq_iff_iff]; simp; omega
          have HF := Lib.hid hfe; clear hfe hfi
          clear hnt
          unfold rthing at C
          by_cases hlt : s.size ≤ k
          · rw [if_pos hlt] at C
            obtain ⟨c1, f1⟩ := Slab.facts (o)
            obtain ⟨c2, f2⟩ := Slab.facts (p)
            have e5n : ((2 : Int) != 0) = true := by simp; try omega
            have e5q : ((2 : Int) == 0) = false := by simp; try omega
            go_wp2_with fail
            refine (C _).mono ?_
            rintro e3 w3 ⟨rfl, hb3⟩
            have o3 := o.call hb3
            have p3 := p.call hb3
            have HB3 := Lib.hid (below_then HB.out hb3)
            clear hb3
            clear o p c1 f1 c2 f2 HB C
            go_wp2_with (refine wpList_store_slab ?r1 83 (.tmp 8) (.tmp 50) ?r2 (w.heap.size + 1) (badCells 2 (s.size : Int)) _ _ ?r3 ?r4 o3 ?r5 ?r6 ?r7 ?_; (case r1 => rfl); (case r2 => rfl); (case r3 => rfl); (case r4 => rfl); (case r5 => rfl); (case r6 => kernel_rfl); (case r7 => simp [Value.oneCell']); intro W4 o4 ho4; have p4 := p3.only ho4 hne; have HB4 := Lib.hid (below_only HB3.out ho4 (Nat.le_succ _) HB3.out.size); clear o3 p3 HB3 ho4; obtain ⟨c5, f5⟩ := o4.facts; obtain ⟨c6, f6⟩ := p4.facts)
            go_region_held3 (fun w' => w'.cell? ⟨w.heap.size + 1, 5, none⟩ = some (.int .i64 2) ∧ w'.cell? ⟨w.heap.size + 1, 6, none⟩ = some (.int .i64 (s.size : Int))) (simp [*, go_sem]) (fail)
            all_goals
              go_wp2
              refine bodyPost_ret (v := rbresV ⟨fun _ => false, 0, 2, (s.size : Int)⟩) (by simp [results, Try.results48, go_sem, wd_zero, c6, f6]) rfl ⟨congrArg (fun r => Ending.returned (rbresV r)) ?_, ?_⟩
              · rw [HA.out, ← HL.out]; rw [loopF_out' hlt]; rfl
              · have hb := HB4.out
                (repeat' (first | (with_reducible exact Below.refl _ _) | (with_reducible assumption) | (with_reducible refine Below.alloc ?_ ?_ _) | (with_reducible refine Below.drew ?_) | (with_reducible refine below_set ?_ ?_ _) | (with_reducible refine below_call ?_ ?_ (by assumption)) | (with_reducible exact Below.size (by assumption)) | omega | go_size))
          · rw [if_neg hlt] at C
            have hlt' : k < s.size := by omega
            cases hb : (bt s k == 93 && !first) with
            | true =>
              rw [hb, if_pos rfl] at C
              simp only [Bool.and_eq_true] at hb
              have hfk : a + 1 < k := by have := HF.out; rw [hb.2] at this; simpa using this.symm
              have hend := loopF_end' (first := a + 1) (f := f) hlt' hb.1 hfk
              have HEnd := Lib.hid hend; clear hend hb
              obtain ⟨c1, f1⟩ := Slab.facts (o)
              obtain ⟨c2, f2⟩ := Slab.facts (p)
              go_wp2_with fail
              refine (C _).mono ?_
              rintro e3 w3 ⟨rfl, hb3⟩
              have o3 := o.call hb3
              have p3 := p.call hb3
              have HB3 := Lib.hid (below_then HB.out hb3)
              clear hb3
              have ho := Lib.hid o
              clear o p c1 f1 c2 f2 HB C
              go_wp2_with (refine wpList_store_slab ?r1 83 (.tmp 8) (.tmp 50) ?r2 (w.heap.size + 1) (stCells f (k + 1 : Nat) 0 0 true nt) _ _ ?r3 ?r4 o3 ?r5 ?r6 ?r7 ?_; (case r1 => rfl); (case r2 => rfl); (case r3 => rfl); (case r4 => rfl); (case r5 => rfl); (case r6 => kernel_rfl); (case r7 => simp [Value.oneCell']); intro W4 o4 ho4; have p4 := p3.only ho4 hne; have HB4 := Lib.hid (below_only HB3.out ho4 (Nat.le_succ _) HB3.out.size); clear o3 p3 HB3 ho4; obtain ⟨c5, f5⟩ := o4.facts; obtain ⟨c6, f6⟩ := p4.facts)
              go_roundw
              case rel =>
                refine ⟨k + 1, f, true, false, rfl, o4, p4, HB4.out, ?_⟩
                exact .inr ⟨rfl, by omega, by rw [← HL.out, HEnd.out]⟩
              case measure =>
                rw [mSt_eq ho.out, mSt_eq o4]
                simp; try omega
            | false =>
              rw [hb, if_neg (by simp)] at C
              have he : (bt s k == 93 && decide (a + 1 < k)) = false := by rw [← HF.out]; exact hb
              have hst := loopF_step (f := f) hlt' he
              have HE := Lib.hid hst; clear hst he hb
              cases ht : thingF s k f with
              | go i' f' =>
                rw [ht] at C
                obtain ⟨g1, g2⟩ := thingF_go ht
                have HT := Lib.hid ht; clear ht
                obtain ⟨c1, f1⟩ := Slab.facts (o)
                obtain ⟨c2, f2⟩ := Slab.facts (p)
                go_wp2_with fail
                refine (C _).mono ?_
                rintro e3 w3 ⟨rfl, hb3⟩
                have o3 := o.call hb3
                have p3 := p.call hb3
                have HB3 := Lib.hid (below_then HB.out hb3)
                clear hb3
                have ho := Lib.hid o
                clear o p c1 f1 c2 f2 HB C
                go_wp2_with (refine wpList_store_slab ?r1 83 (.tmp 8) (.tmp 50) ?r2 (w.heap.size + 1) (stCells f' (i' : Nat) 0 0 false nt) _ _ ?r3 ?r4 o3 ?r5 ?r6 ?r7 ?_; (case r1 => rfl); (case r2 => rfl); (case r3 => rfl); (case r4 => rfl); (case r5 => rfl); (case r6 => kernel_rfl); (case r7 => simp [Value.oneCell']); intro W4 o4 ho4; have p4 := p3.only ho4 hne; have HB4 := Lib.hid (below_only HB3.out ho4 (Nat.le_succ _) HB3.out.size); clear o3 p3 HB3 ho4; obtain ⟨c5, f5⟩ := o4.facts; obtain ⟨c6, f6⟩ := p4.facts)
                go_roundw
                case rel =>
                  refine ⟨i', f', false, false, rfl, o4, p4, HB4.out, ?_⟩
                  exact .inl ⟨rfl, by omega, .inl g2, by symm; simp; omega, by rw [← HL.out, HE.out, HT.out]⟩
                case measure =>
                  rw [mSt_eq ho.out, mSt_eq o4]
                  simp; try omega
              | bad e' p' =>
                rw [ht] at C
                have hb0 := thingF_bad' ht
                have HT := Lib.hid ht; clear ht
                obtain ⟨c1, f1⟩ := Slab.facts (o)
                obtain ⟨c2, f2⟩ := Slab.facts (p)
                have e5n : ((e' : Int) != 0) = true := by simp; try omega
                have e5q : ((e' : Int) == 0) = false := by simp; try omega
                go_wp2_with fail
                refine (C _).mono ?_
                rintro e3 w3 ⟨rfl, hb3⟩
                have o3 := o.call hb3
                have p3 := p.call hb3
                have HB3 := Lib.hid (below_then HB.out hb3)
                clear hb3
                clear o p c1 f1 c2 f2 HB C
                go_wp2_with (refine wpList_store_slab ?r1 83 (.tmp 8) (.tmp 50) ?r2 (w.heap.size + 1) (badCells e' (p' : Int)) _ _ ?r3 ?r4 o3 ?r5 ?r6 ?r7 ?_; (case r1 => rfl); (case r2 => rfl); (case r3 => rfl); (case r4 => rfl); (case r5 => rfl); (case r6 => kernel_rfl); (case r7 => simp [Value.oneCell']); intro W4 o4 ho4; have p4 := p3.only ho4 hne; have HB4 := Lib.hid (below_only HB3.out ho4 (Nat.le_succ _) HB3.out.size); clear o3 p3 HB3 ho4; obtain ⟨c5, f5⟩ := o4.facts; obtain ⟨c6, f6⟩ := p4.facts)
                go_region_held3 (fun w' => w'.cell? ⟨w.heap.size + 1, 5, none⟩ = some (.int .i64 e') ∧ w'.cell? ⟨w.heap.size + 1, 6, none⟩ = some (.int .i64 (p' : Int))) (simp [*, go_sem]) (fail)
                all_goals
                  go_wp2
                  refine bodyPost_ret (v := rbresV ⟨fun _ => false, 0, e', (p' : Int)⟩) (by simp [results, Try.results48, go_sem, wd_zero, c6, f6]) rfl ⟨congrArg (fun r => Ending.returned (rbresV r)) ?_, ?_⟩
                  · rw [HA.out, ← HL.out]; rw [HE.out, HT.out]; rfl
                  · have hb := HB4.out
                    (repeat' (first | (with_reducible exact Below.refl _ _) | (with_reducible assumption) | (with_reducible refine Below.alloc ?_ ?_ _) | (with_reducible refine Below.drew ?_) | (with_reducible refine below_set ?_ ?_ _) | (with_reducible refine below_call ?_ ?_ (by assumption)) | (with_reducible exact Below.size (by assumption)) | omega | go_size))
        · have HQ2 := Lib.hid hQ; clear hQ
          subst hnt
          obtain ⟨c1, f1⟩ := Slab.facts (o)
          obtain ⟨c2, f2⟩ := Slab.facts (p)
          go_wp2_with fail
          go_region_held3 (fun w' => w'.cell? ⟨w.heap.size + 1, 4, none⟩ = some (.int .i64 (k : Int)) ∧ w'.cell? ⟨w.heap.size + 1, 0, none⟩ = some (.int .u64 (wd f 0)) ∧ w'.cell? ⟨w.heap.size + 1, 1, none⟩ = some (.int .u64 (wd f 1)) ∧ w'.cell? ⟨w.heap.size + 1, 2, none⟩ = some (.int .u64 (wd f 2)) ∧ w'.cell? ⟨w.heap.size + 1, 3, none⟩ = some (.int .u64 (wd f 3))) (simp [*, go_sem]) (fail)
          all_goals
            go_wp2
            obtain ⟨c9, f9⟩ := ((((((p).set 0 (.int .u64 (wd f 0))).set 1 (.int .u64 (wd f 1))).set 2 (.int .u64 (wd f 2))).set 3 (.int .u64 (wd f 3))).drew).facts
            refine bodyPost_ret (v := rbresV ⟨f, (k : Int), 0, 0⟩) (by simp [results, Try.results48, go_sem, c9]) rfl ⟨congrArg (fun r => Ending.returned (rbresV r)) ?_, ?_⟩
            · rw [HA.out, HQ2.out]; rfl
            · have hb := HB.out
              (repeat' (first | (with_reducible exact Below.refl _ _) | (with_reducible assumption) | (with_reducible refine Below.alloc ?_ ?_ _) | (with_reducible refine Below.drew ?_) | (with_reducible refine below_set ?_ ?_ _) | (with_reducible refine below_call ?_ ?_ (by assumption)) | (with_reducible exact Below.size (by assumption)) | omega | go_size))
end Go.Proofs.Ythppilfojicfdaa
