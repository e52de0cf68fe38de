/- Walks of the package gimletref03: what the document says of brackets. -/
import Derived.Test.YtfcgmgpcbenfpaaGreatProg
import Derived.WalkKit
import Derived.WalkSpells
import Derived.WalkLawsBesides
import Derived.Handy
import Derived.Lib.Hide
import Derived.Test.YtfcgmgpcbenfpaaGreatMBkp
import Derived.Test.YtfcgmgpcbenfpaaGreatMClt
import Derived.Test.YtfcgmgpcbenfpaaGreatMCls
import Derived.Deep.RegionHeld3
import Derived.IntWalk
set_option linter.unusedVariables false
set_option linter.unusedSimpArgs false
namespace Go.Proofs.YtfcgmgpcbenfpaaGreat
open Go.RowKit SetP BrkP
theorem beq_int' (b k : UInt8) : ((b.toNat : Int) == (k.toNat : Int)) = (b == k) := by
  rw [Bool.eq_iff_iff]; simp [← UInt8.toNat_inj]; omega
theorem bne_int' (b k : UInt8) : ((b.toNat : Int) != (k.toNat : Int)) = !(b == k) := by
  unfold bne; rw [beq_int']
abbrev stCells (f : Nat → Bool) (pos e p : Int) (en nt : Bool) : Array Value := #[.int .u64 (wd f 0), .int .u64 (wd f 1), .int .u64 (wd f 2), .int .u64 (wd f 3), .int .i64 pos, .int .i64 e, .int .i64 p, .bool en, .bool nt]
abbrev stV (f : Nat → Bool) (pos e p : Int) (en nt : Bool) : Value := .agg (stCells f pos e p en nt)
abbrev badCells (e p : Int) : Array Value := #[.int .u64 0, .int .u64 0, .int .u64 0, .int .u64 0, .int .i64 0, .int .i64 e, .int .i64 p, .bool false, .bool false]
abbrev badV (e p : Int) : Value := .agg (badCells e p)
set_option maxRecDepth 100000 in
set_option maxHeartbeats 2000000 in
theorem special_any (b : UInt8) (w : World) : Calls Tryz.prog 114 #[.int .u8 (b.toNat : Int)] w fun e w' => e = .returned (.bool (marksB b)) ∧ w' = w := by
  have hm : marksB b = (((b.toNat : Int) == 58) || (((b.toNat : Int) == 46) || ((b.toNat : Int) == 61))) := by
    unfold marksB; rw [← beq_int' b 58, ← beq_int' b 46, ← beq_int' b 61]; rfl
  rw [hm]
  clear hm
  go_enter Tryz.func114, Tryz.ntmps114
  cases h1 : ((b.toNat : Int) == 58) with
  | true => go_wp2; go_ret; exact ⟨rfl, rfl⟩
  | false =>
  cases h2 : ((b.toNat : Int) == 46) with
  | true => go_wp2; go_ret; exact ⟨rfl, rfl⟩
  | false => go_wp2; go_ret; exact ⟨rfl, rfl⟩
set_option maxRecDepth 100000 in
set_option maxHeartbeats 2000000 in
theorem bad_any (e p : Int) (w : World) : Calls Tryz.prog 112 #[.int .i64 e, .int .i64 p] w fun e' w' => e' = .returned (badV e p) ∧ Below w.heap.size w w' := by
  go_enter Tryz.func112, Tryz.ntmps112
  go_wp2
  refine bodyPost_ret (v := badV e p) (by simp [results, Tryz.results112, go_sem]) rfl ⟨rfl, ?_⟩
  (repeat' (first | (with_reducible exact Below.refl _ _) | (with_reducible assumption) | (with_reducible refine Below.alloc ?_ ?_ _) | (with_reducible refine Below.drew ?_) | (with_reducible refine below_set ?_ ?_ _) | (with_reducible refine below_call ?_ ?_ (by assumption)) | (with_reducible exact Below.size (by assumption)) | omega | go_size))
set_option maxRecDepth 100000 in
set_option maxHeartbeats 2000000 in
theorem add_any (f : Nat → Bool) (pos : Int) (nt : Bool) (lo hi : UInt8) (q : Int) (w : World) :
    Calls Tryz.prog 115 #[stV f pos 0 0 false nt, .int .i64 (lo.toNat : Int), .int .i64 (hi.toNat : Int), .int .i64 q] w fun e' w' =>
      e' = .returned (stV (fun x => f x || rangeF lo.toNat hi.toNat x) q 0 0 false nt) ∧ Below w.heap.size w w' := by
  have hl := lo.toNat_lt
  have hh := hi.toNat_lt
  go_enter Tryz.func115, Tryz.ntmps115
  go_wp2_with fail
  have o0 : Slab ((w.alloc (.cells (stCells f pos 0 0 false nt) 148)).alloc (.cells #[.int .u64 0, .int .u64 0, .int .u64 0, .int .u64 0, .int .i64 0, .int .i64 0, .int .i64 0, .bool false, .bool false] 148)) w.heap.size (stCells f pos 0 0 false nt) 148 := (Slab.new _ _ _).alloc _
  have p0 : Slab ((w.alloc (.cells (stCells f pos 0 0 false nt) 148)).alloc (.cells #[.int .u64 0, .int .u64 0, .int .u64 0, .int .u64 0, .int .i64 0, .int .i64 0, .int .i64 0, .bool false, .bool false] 148)) (w.heap.size + 1) #[.int .u64 0, .int .u64 0, .int .u64 0, .int .u64 0, .int .i64 0, .int .i64 0, .int .i64 0, .bool false, .bool false] 148 := Slab.newAt _ _ _ (by simp)
  have HB0 : Below w.heap.size w ((w.alloc (.cells (stCells f pos 0 0 false nt) 148)).alloc (.cells #[.int .u64 0, .int .u64 0, .int .u64 0, .int .u64 0, .int .i64 0, .int .i64 0, .int .i64 0, .bool false, .bool false] 148)) := by (repeat' (first | (with_reducible exact Below.refl _ _) | (with_reducible assumption) | (with_reducible refine Below.alloc ?_ ?_ _) | (with_reducible refine Below.drew ?_) | (with_reducible refine below_set ?_ ?_ _) | (with_reducible refine below_call ?_ ?_ (by assumption)) | (with_reducible exact Below.size (by assumption)) | omega | go_size))
  have HB := Lib.hid HB0; clear HB0
  generalize hW : (w.alloc (.cells (stCells f pos 0 0 false nt) 148)).alloc (.cells #[.int .u64 0, .int .u64 0, .int .u64 0, .int .u64 0, .int .i64 0, .int .i64 0, .int .i64 0, .bool false, .bool false] 148) = W at *
  clear hW
  obtain ⟨c0, f0⟩ := Slab.facts (o0)
  go_region_with (first | (go_at_call 83; refine (rrange_any _ _ (by omega) (by omega) (by omega) (by omega) _).mono ?_; rintro e6 w6 ⟨rfl, hb6⟩; have o6 := o0.callD hb6 rfl; have p6 := p0.callD hb6 rfl; have HB6 := Lib.hid (below_then HB.out.drew hb6); clear hb6; obtain ⟨ca6, fa6⟩ := o6.facts) | (go_at_call 110; refine (rboth_or _ _ _).mono ?_; rintro e7 w7 ⟨rfl, hb7⟩; have o7 := o6.callD hb7 rfl; have p7 := p6.callD hb7 rfl; have HB7 := Lib.hid (below_then HB6.out hb7); clear hb7; obtain ⟨ca7, fa7⟩ := o7.facts))
  all_goals
    generalize hW8 : ((((w7.setCell ⟨w.heap.size, 0, none⟩ (.int .u64 (wd (fun x => f x || rangeF (lo.toNat : Int) (hi.toNat : Int) x) 0))).setCell ⟨w.heap.size, 1, none⟩ (.int .u64 (wd (fun x => f x || rangeF (lo.toNat : Int) (hi.toNat : Int) x) 1))).setCell ⟨w.heap.size, 2, none⟩ (.int .u64 (wd (fun x => f x || rangeF (lo.toNat : Int) (hi.toNat : Int) x) 2))).setCell ⟨w.heap.size, 3, none⟩ (.int .u64 (wd (fun x => f x || rangeF (lo.toNat : Int) (hi.toNat : Int) x) 3))) = W8
    have o8 : Slab W8 w.heap.size (stCells (fun x => f x || rangeF (lo.toNat : Int) (hi.toNat : Int) x) pos 0 0 false nt) 148 := hW8 ▸ ((((o7.set 0 _).set 1 _).set 2 _).set 3 _)
    have p8 : Slab W8 (w.heap.size + 1) _ 148 := hW8 ▸ ((((p7.far (by omega) _).far (by omega) _).far (by omega) _).far (by omega) _)
    have hb8 : Below w.heap.size w W8 := by
      rw [← hW8]
      exact below_set (below_set (below_set (below_set HB7.out (Nat.le_refl _) _) (Nat.le_refl _) _) (Nat.le_refl _) _) (Nat.le_refl _) _
    have HB8 := Lib.hid hb8
    clear hb8 hW8
    obtain ⟨c8, f8⟩ := Slab.facts (o8)
    obtain ⟨c9, f9⟩ := Slab.facts (p8)
    go_wp2
    refine bodyPost_ret (results_cell rfl rfl (load_slab (t := 148) (cs := stCells (fun x => f x || rangeF (lo.toNat : Int) (hi.toNat : Int) x) q 0 0 false nt) ?_ 148 Tryz.underlying148 rfl (by kernel_rfl))) rfl ⟨?_, ?_⟩
    · have p9 := p8.far (b := w.heap.size) (i := 4) (by omega) (.int .i64 q)
      exact slab_setCells (vs := stCells (fun x => f x || rangeF (lo.toNat : Int) (hi.toNat : Int) x) q 0 0 false nt) p9 rfl
    · rfl
    · have hb := HB8.out
      (repeat' (first | (with_reducible exact Below.refl _ _) | (with_reducible assumption) | (with_reducible refine Below.alloc ?_ ?_ _) | (with_reducible refine Below.drew ?_) | (with_reducible refine below_set ?_ ?_ _) | (with_reducible refine below_call ?_ ?_ (by assumption)) | (with_reducible exact Below.size (by assumption)) | omega | go_size))

/-- An answer of the document's, as a state. -/
abbrev resV3 (nt : Bool) : Res → Value
  | .go i f => stV f i 0 0 false nt
  | .bad e p => badV e p
theorem or_one (f : Nat → Bool) (c : UInt8) : (fun x => f x || rangeF (c.toNat : Int) (c.toNat : Int) x) = addB f c.toNat := by
  funext x
  unfold addB rangeF
  congr 1
  rw [Bool.eq_iff_iff]; simp; omega
theorem classGo_out' {s : ByteArray} {from_ j : Nat} {f : Nat → Bool} (h : s.size ≤ j) : classGo s from_ f j = .bad 2 s.size := by rw [classGo, dif_pos h]
theorem classGo_close' {s : ByteArray} {from_ j : Nat} {f : Nat → Bool} (h : j < s.size) (hb : (bt s j == 58) = true) : classGo s from_ f j = closeF s from_ j f := by rw [classGo, dif_neg (by omega), if_pos hb]
theorem classGo_on' {s : ByteArray} {from_ j : Nat} {f : Nat → Bool} (h : j < s.size) (hb : (bt s j == 58) = false) (hg : beginsF (s.extract from_ (j + 1)) = true) : classGo s from_ f j = classGo s from_ f (j + 1) := by
  rw [classGo, dif_neg (by omega), if_neg (by rw [hb]; simp), if_pos hg]
theorem classGo_bad' {s : ByteArray} {from_ j : Nat} {f : Nat → Bool} (h : j < s.size) (hb : (bt s j == 58) = false) (hg : beginsF (s.extract from_ (j + 1)) = false) : classGo s from_ f j = .bad 5 (j + 1) := by
  rw [classGo, dif_neg (by omega), if_neg (by rw [hb]; simp), if_neg (by rw [hg]; simp)]
set_option maxRecDepth 100000 in
set_option maxHeartbeats 6000000 in
theorem name_any (s : ByteArray) (i : Nat) (f : Nat → Bool) (nt : Bool) (hi : i < s.size) (hs : s.size ≤ 4611686018427387000) (w : World) :
    Calls Tryz.prog 113 #[.string s, stV f i 0 0 false nt] w fun e' w' => e' = .returned (resV3 nt (classGo s (i + 2) f (i + 2))) ∧ Below w.heap.size w w' := by
  obtain ⟨R, hR⟩ : ∃ R, classGo s (i + 2) f (i + 2) = R := ⟨_, rfl⟩
  rw [hR]
  have HR := Lib.hid hR; clear hR
  go_enter Tryz.func113, Tryz.ntmps113
  go_wp2
  have o0 : Slab ((w.alloc (.cells (stCells f i 0 0 false nt) 148)).alloc (.cells #[.int .u64 0, .int .u64 0, .int .u64 0, .int .u64 0, .int .i64 0, .int .i64 0, .int .i64 0, .bool false, .bool false] 148)) w.heap.size (stCells f i 0 0 false nt) 148 := (Slab.new _ _ _).alloc _
  have p0 : Slab ((w.alloc (.cells (stCells f i 0 0 false nt) 148)).alloc (.cells #[.int .u64 0, .int .u64 0, .int .u64 0, .int .u64 0, .int .i64 0, .int .i64 0, .int .i64 0, .bool false, .bool false] 148)) (w.heap.size + 1) #[.int .u64 0, .int .u64 0, .int .u64 0, .int .u64 0, .int .i64 0, .int .i64 0, .int .i64 0, .bool false, .bool false] 148 := Slab.newAt _ _ _ (by simp)
  have HB0 : Below w.heap.size w ((w.alloc (.cells (stCells f i 0 0 false nt) 148)).alloc (.cells #[.int .u64 0, .int .u64 0, .int .u64 0, .int .u64 0, .int .i64 0, .int .i64 0, .int .i64 0, .bool false, .bool false] 148)) := by (repeat' (first | (with_reducible exact Below.refl _ _) | (with_reducible assumption) | (with_reducible refine Below.alloc ?_ ?_ _) | (with_reducible refine Below.drew ?_) | (with_reducible refine below_set ?_ ?_ _) | (with_reducible refine below_call ?_ ?_ (by assumption)) | (with_reducible exact Below.size (by assumption)) | omega | go_size))
  have HB := Lib.hid HB0; clear HB0
  go_loopw [6] (fun x wr => ∃ k : Nat, i + 2 ≤ k ∧ (k ≤ s.size ∨ k = i + 2) ∧ x = .int .i64 k ∧ Slab wr w.heap.size (stCells f i 0 0 false nt) 148 ∧
    Slab wr (w.heap.size + 1) #[.int .u64 0, .int .u64 0, .int .u64 0, .int .u64 0, .int .i64 0, .int .i64 0, .int .i64 0, .bool false, .bool false] 148 ∧ Below w.heap.size w wr ∧ classGo s (i + 2) f k = R) (fun x _ => s.size + 2 - (intOf x).toNat)
  case atStart => exact ⟨i + 2, by omega, by omega, by go_num, o0, p0, HB.out, HR.out⟩
  case round =>
    clear o0 p0 HB
    obtain ⟨k, hik, hk, rfl, o, p, hB, hG⟩ := hrel
    have HG := Lib.hid hG; clear hG
    have HB := Lib.hid hB; clear hB
    have hk2 : k ≤ 4611686018427387904 := by omega
    have HK := Lib.hid hk; clear hk
    have hlo := o.lt
    have hlp := p.lt
    obtain ⟨c1, f1⟩ := Slab.facts (o)
    obtain ⟨c2, f2⟩ := Slab.facts (p)
    by_cases hlt : s.size ≤ k
    · have d0 : decide (k < s.size) = false := by simpa using hlt
      go_wp2_with fail
      refine (bad_any 2 s.size _).mono ?_
      rintro e9 w9 ⟨rfl, hb9⟩
      have q9 := p.callD hb9 rfl
      have HB9 := Lib.hid (below_then HB.out hb9)
      clear hb9
      obtain ⟨c9, f9⟩ := q9.facts
      go_wp2
      refine bodyPost_ret (results_cell rfl rfl (load_slab (t := 148) (cs := badCells 2 s.size) ?_ 148 Tryz.underlying148 rfl (by kernel_rfl))) rfl ⟨ret_v ?_, ?_⟩
      · exact slab_setCells (vs := badCells 2 s.size) q9 rfl
      · rw [← HG.out, classGo_out' hlt]
      · have hb := HB9.out
        (repeat' (first | (with_reducible exact Below.refl _ _) | (with_reducible assumption) | (with_reducible refine Below.alloc ?_ ?_ _) | (with_reducible refine Below.drew ?_) | (with_reducible refine below_set ?_ ?_ _) | (with_reducible refine below_call ?_ ?_ (by assumption)) | (with_reducible exact Below.size (by assumption)) | omega | go_size))
    · have hlt' : k < s.size := by omega
      have d0 : decide (k < s.size) = true := by simpa using hlt'
      have x1 : ((i : Int) + 2) ≤ k := by omega
      have x2 : decide ((i + 2 : Nat) ≤ k) = true := by simpa using hik
      have hbt := bt_at s k hlt'
      cases hy : (bt s k == 58) with
      | true =>
        have HY := Lib.hid hy
        rw [hbt] at hy
        have y : (((s[k]).toNat : Int) == 58) = true := (beq_int' (s[k]) 58).trans hy
        have yn : (((s[k]).toNat : Int) != 58) = !true := by
          have := bne_int' (s[k]) 58
          rw [hy] at this
          exact this
        clear hy hbt
        have C := rof2_any (s.extract (i + 2) k)
        unfold ofV at C
        cases hc : clsOf (s.extract (i + 2) k) with
        | none =>
          rw [hc] at C
          simp only at C
          have HC := Lib.hid hc; clear hc
          go_wp2_with fail
          refine (C _).mono ?_
          rintro e3 w3 ⟨rfl, hb3⟩
          have p3 := (p.call hb3).alloc (.cells zero4 49)
          have HB3' := below_then HB.out hb3
          have HB3 := Lib.hid (HB3'.alloc HB3'.size (.cells zero4 49))
          clear hb3 o p c1 f1 c2 f2 HB HB3' C
          go_wp2_with fail
          refine (bad_any 5 ((k : Int) + 1) _).mono ?_
          rintro e9 w9 ⟨rfl, hb9⟩
          have q9 := p3.callD hb9 rfl
          have HB9 := Lib.hid (below_then HB3.out hb9)
          clear hb9
          obtain ⟨c9, f9⟩ := q9.facts
          go_wp2
          refine bodyPost_ret (results_cell rfl rfl (load_slab (t := 148) (cs := badCells 5 ((k : Int) + 1)) ?_ 148 Tryz.underlying148 rfl (by kernel_rfl))) rfl ⟨ret_v ?_, ?_⟩
          · exact slab_setCells (vs := badCells 5 ((k : Int) + 1)) q9 rfl
          · rw [← HG.out, classGo_close' hlt' HY.out]; unfold closeF; rw [HC.out]; rfl
          · have hb := HB9.out
            (repeat' (first | (with_reducible exact Below.refl _ _) | (with_reducible assumption) | (with_reducible refine Below.alloc ?_ ?_ _) | (with_reducible refine Below.drew ?_) | (with_reducible refine below_set ?_ ?_ _) | (with_reducible refine below_call ?_ ?_ (by assumption)) | (with_reducible exact Below.size (by assumption)) | omega | go_size))
        | some n =>
          rw [hc] at C
          simp only at C
          have HC := Lib.hid hc; clear hc
          go_wp2_with fail
          refine (C _).mono ?_
          rintro e3 w3 ⟨rfl, hb3⟩
          have o3 := (o.call hb3).alloc (.cells (cells4 (cls n)) 49)
          have p3 := (p.call hb3).alloc (.cells (cells4 (cls n)) 49)
          have q3 : Slab (w3.alloc (.cells (cells4 (cls n)) 49)) w3.heap.size (cells4 (cls n)) 49 := Slab.new _ _ _
          have HB3' := below_then HB.out hb3
          have HB3 := Lib.hid (HB3'.alloc HB3'.size (.cells (cells4 (cls n)) 49))
          have hz3 := hb3.size
          clear hb3 o p c1 f1 c2 f2 HB HB3' C
          by_cases k1 : s.size ≤ k + 1
          · have d1 : decide (s.size ≤ k + 1) = true := by simpa using k1
            go_wp2_with fail
            refine (bad_any 2 s.size _).mono ?_
            rintro e9 w9 ⟨rfl, hb9⟩
            have q9 := p3.callD hb9 rfl
            have HB9 := Lib.hid (below_then HB3.out hb9)
            clear hb9
            obtain ⟨c9, f9⟩ := q9.facts
            go_wp2
            refine bodyPost_ret (results_cell rfl rfl (load_slab (t := 148) (cs := badCells 2 s.size) ?_ 148 Tryz.underlying148 rfl (by kernel_rfl))) rfl ⟨ret_v ?_, ?_⟩
            · exact slab_setCells (vs := badCells 2 s.size) q9 rfl
            · rw [← HG.out, classGo_close' hlt' HY.out]; unfold closeF; rw [HC.out]; simp only; rw [if_pos k1]
            · have hb := HB9.out
              (repeat' (first | (with_reducible exact Below.refl _ _) | (with_reducible assumption) | (with_reducible refine Below.alloc ?_ ?_ _) | (with_reducible refine Below.drew ?_) | (with_reducible refine below_set ?_ ?_ _) | (with_reducible refine below_call ?_ ?_ (by assumption)) | (with_reducible exact Below.size (by assumption)) | omega | go_size))
          · have k1' : k + 1 < s.size := by omega
            have d1 : decide (s.size ≤ k + 1) = false := by simpa using k1
            have hbt1 := bt_at s (k + 1) k1'
            cases hz : (bt s (k + 1) == 93) with
            | false =>
              have HZ := Lib.hid hz
              rw [hbt1] at hz
              have z : (((s[k + 1]).toNat : Int) == 93) = false := (beq_int' (s[k + 1]) 93).trans hz
              have zn : (((s[k + 1]).toNat : Int) != 93) = !false := by
                have := bne_int' (s[k + 1]) 93
                rw [hz] at this
                exact this
              clear hz hbt1
              go_wp2_with fail
              refine (bad_any 3 ((k : Int) + 2) _).mono ?_
              rintro e9 w9 ⟨rfl, hb9⟩
              have q9 := p3.callD hb9 rfl
              have HB9 := Lib.hid (below_then HB3.out hb9)
              clear hb9
              obtain ⟨c9, f9⟩ := q9.facts
              go_wp2
              refine bodyPost_ret (results_cell rfl rfl (load_slab (t := 148) (cs := badCells 3 ((k : Int) + 2)) ?_ 148 Tryz.underlying148 rfl (by kernel_rfl))) rfl ⟨ret_v ?_, ?_⟩
              · exact slab_setCells (vs := badCells 3 ((k : Int) + 2)) q9 rfl
              · rw [← HG.out, classGo_close' hlt' HY.out]; unfold closeF; rw [HC.out]; simp only; rw [if_neg k1, if_neg (by rw [HZ.out]; simp)]; rfl
              · have hb := HB9.out
                (repeat' (first | (with_reducible exact Below.refl _ _) | (with_reducible assumption) | (with_reducible refine Below.alloc ?_ ?_ _) | (with_reducible refine Below.drew ?_) | (with_reducible refine below_set ?_ ?_ _) | (with_reducible refine below_call ?_ ?_ (by assumption)) | (with_reducible exact Below.size (by assumption)) | omega | go_size))
            | true =>
              have HZ := Lib.hid hz
              rw [hbt1] at hz
              have z : (((s[k + 1]).toNat : Int) == 93) = true := (beq_int' (s[k + 1]) 93).trans hz
              have zn : (((s[k + 1]).toNat : Int) != 93) = !true := by
                have := bne_int' (s[k + 1]) 93
                rw [hz] at this
                exact this
              clear hz hbt1
              obtain ⟨c3, f3⟩ := Slab.facts (o3)
              obtain ⟨c4, f4⟩ := Slab.facts (q3)
              go_wp2_with fail
              refine (rboth_or _ _ _).mono ?_
              rintro e7 w7 ⟨rfl, hb7⟩
              have o7 := o3.callD hb7 rfl
              have p7 := p3.callD hb7 rfl
              have HB7 := Lib.hid (below_then HB3.out hb7)
              clear hb7 o3 p3 q3 HB3 c3 f3 c4 f4
              obtain ⟨c7, f7⟩ := Slab.facts (o7)
              obtain ⟨c6, f6⟩ := Slab.facts (p7)
              go_wp2
              refine bodyPost_ret (results_cell rfl rfl (load_slab (t := 148) (cs := stCells (fun x => f x || cls n x) ((k : Int) + 2) 0 0 false nt) ?_ 148 Tryz.underlying148 rfl (by kernel_rfl))) rfl ⟨ret_v ?_, ?_⟩
              · have p9 := ((((p7.far (b := w.heap.size) (i := 0) (by omega) (.int .u64 (wd (fun x => f x || cls n x) 0))).far (b := w.heap.size) (i := 1) (by omega) (.int .u64 (wd (fun x => f x || cls n x) 1))).far (b := w.heap.size) (i := 2) (by omega) (.int .u64 (wd (fun x => f x || cls n x) 2))).far (b := w.heap.size) (i := 3) (by omega) (.int .u64 (wd (fun x => f x || cls n x) 3))).far (b := w.heap.size) (i := 4) (by omega) (.int .i64 ((k : Int) + 2))
                exact slab_setCells (vs := stCells (fun x => f x || cls n x) ((k : Int) + 2) 0 0 false nt) p9 rfl
              · rw [← HG.out, classGo_close' hlt' HY.out]; unfold closeF; rw [HC.out]; simp only; rw [if_neg k1, if_pos HZ.out]; rfl
              · have hb := HB7.out
                (repeat' (first | (with_reducible exact Below.refl _ _) | (with_reducible assumption) | (with_reducible refine Below.alloc ?_ ?_ _) | (with_reducible refine Below.drew ?_) | (with_reducible refine below_set ?_ ?_ _) | (with_reducible refine below_call ?_ ?_ (by assumption)) | (with_reducible exact Below.size (by assumption)) | omega | go_size))
      | false =>
        have HY := Lib.hid hy
        rw [hbt] at hy
        have y : (((s[k]).toNat : Int) == 58) = false := (beq_int' (s[k]) 58).trans hy
        have yn : (((s[k]).toNat : Int) != 58) = !false := by
          have := bne_int' (s[k]) 58
          rw [hy] at this
          exact this
        clear hy hbt
        go_wp2_with fail
        refine (rbegins_any (s.extract (i + 2) (k + 1)) (by have : (s.extract (i + 2) (k + 1)).size ≤ s.size := by simp; omega
                                                            omega) _).mono ?_
        rintro e3 w3 ⟨rfl, hb3⟩
        have o3 := o.call hb3
        have p3 := p.call hb3
        have HB3 := Lib.hid (below_then HB.out hb3)
        clear hb3 o p c1 f1 c2 f2 HB
        cases hg : beginsF (s.extract (i + 2) (k + 1)) with
        | true =>
          have HBg := Lib.hid hg; clear hg
          go_wp2
          go_roundw
          case rel => exact ⟨k + 1, by omega, by omega, by go_num, o3, p3, HB3.out, by rw [← HG.out, classGo_on' hlt' HY.out HBg.out]⟩
          case measure => simp [intOf]; omega
        | false =>
          have HBg := Lib.hid hg; clear hg
          obtain ⟨c1, f1⟩ := Slab.facts (o3)
          obtain ⟨c2, f2⟩ := Slab.facts (p3)
          go_wp2_with fail
          refine (bad_any 5 ((k : Int) + 1) _).mono ?_
          rintro e9 w9 ⟨rfl, hb9⟩
          have q9 := p3.callD hb9 rfl
          have HB9 := Lib.hid (below_then HB3.out hb9)
          clear hb9
          obtain ⟨c9, f9⟩ := q9.facts
          go_wp2
          refine bodyPost_ret (results_cell rfl rfl (load_slab (t := 148) (cs := badCells 5 ((k : Int) + 1)) ?_ 148 Tryz.underlying148 rfl (by kernel_rfl))) rfl ⟨ret_v ?_, ?_⟩
          · exact slab_setCells (vs := badCells 5 ((k : Int) + 1)) q9 rfl
          · rw [← HG.out, classGo_bad' hlt' HY.out HBg.out]; rfl
          · have hb := HB9.out
            (repeat' (first | (with_reducible exact Below.refl _ _) | (with_reducible assumption) | (with_reducible refine Below.alloc ?_ ?_ _) | (with_reducible refine Below.drew ?_) | (with_reducible refine below_set ?_ ?_ _) | (with_reducible refine below_call ?_ ?_ (by assumption)) | (with_reducible exact Below.size (by assumption)) | omega | go_size))
end Go.Proofs.YtfcgmgpcbenfpaaGreat
