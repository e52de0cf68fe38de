/- Walks of the package lex: the words of one byte. -/
import Derived.Test.YtfcgmgpcbenfpaaGreatProg
import Derived.WalkKit
import Derived.WalkSpells
import Derived.WalkLawsBesides
import Derived.Handy
import Derived.Lib.Hide
import Derived.Test.YtfcgmgpcbenfpaaGreatLexP
import Derived.Test.YtfcgmgpcbenfpaaGreatMClt
import Derived.Test.YtfcgmgpcbenfpaaGreatMBka
import Derived.Test.YtfcgmgpcbenfpaaGreatMBra
import Derived.Laws.Externs
import Derived.Lib.Bytealg
import Derived.IntWalk
set_option linter.unusedVariables false
set_option linter.unusedSimpArgs false
namespace Go.Proofs.YtfcgmgpcbenfpaaGreat
open Go.RowKit SetP BrkP LexP
/-- A word's cells. -/
abbrev wdCells (x : Wd) : Array Value := #[.int .i64 x.kind, .int .i64 x.at_, .int .i64 x.stop, .int .u64 (wd x.set 0), .int .u64 (wd x.set 1), .int .u64 (wd x.set 2), .int .u64 (wd x.set 3), .int .i64 x.n, .int .i64 x.m]
abbrev wdV (x : Wd) : Value := .agg (wdCells x)
abbrev wansV (r : WAns) : Value := .tuple #[wdV r.word, .int .i64 r.err, .int .i64 r.place]
/-- What a call hands back that makes an answer. -/
def z9 : Array Value := wdCells wd0
theorem z9_eq : (#[.int .i64 0, .int .i64 0, .int .i64 0, .int .u64 0, .int .u64 0, .int .u64 0, .int .u64 0, .int .i64 0, .int .i64 0] : Array Value) = z9 := by
  unfold z9 wdCells wd0; rw [wd_zero, wd_zero, wd_zero, wd_zero]
theorem results_cell3 {P : Program} {fn : Func} {t : TypeId} {a b c : Tmp} (h : fn.results = #[.cell a t, .tmp b, .tmp c]) {tmps : Array Value} {w : World} {p : Addr} {v y z : Value} (hp : tmps.getD a undef = .pointer (some p))
    (hl : (loadVar t p).run P w = .ok v w) (hb : tmps.getD b undef = y) (hc : tmps.getD c undef = z) : (results fn tmps).run P w = .ok (.tuple #[v, y, z]) w := by
  subst hb hc
  have hp' : tmps[a]?.getD undef = .pointer (some p) := by simpa using hp
  simp [results, h, hp', asAddr, hl]
/-- The zero word's cells, as they are written. -/
theorem slab_z9 {w : World} {g : Nat} {t : TypeId} (h : Slab w g #[.int .i64 0, .int .i64 0, .int .i64 0, .int .u64 0, .int .u64 0, .int .u64 0, .int .u64 0, .int .i64 0, .int .i64 0] t) : Slab w g (wdCells wd0) t := by
  rw [z9_eq] at h; exact h
def RetW (r : WAns) (w : World) (e : Ending) (w' : World) : Prop := e = .returned (wansV r) ∧ Below w.heap.size w w'
set_option maxRecDepth 100000 in
set_option maxHeartbeats 2000000 in
theorem lone_any (f : Nat → Bool) (a e : Int) (w : World) :
    Calls Tryz.prog 166 #[setV f, .int .i64 a, .int .i64 e] w (RetW (oneA f a e) w) := by
  go_enter Tryz.func166, Tryz.ntmps166
  go_wp2
  refine bodyPost_ret (v := wansV (oneA f a e)) (by simp [results, Tryz.results166, go_sem, wd_zero, signA, oneA, badA, wd0, noSet, *]) rfl ⟨rfl, ?_⟩
  (repeat' (first | (with_reducible exact Below.refl _ _) | (with_reducible assumption) | (with_reducible refine Below.alloc ?_ ?_ _) | (with_reducible refine Below.drew ?_) | (with_reducible refine below_set ?_ ?_ _) | (with_reducible refine below_call ?_ ?_ (by assumption)) | (with_reducible exact Below.size (by assumption)) | omega | go_size))
set_option maxRecDepth 100000 in
set_option maxHeartbeats 2000000 in
theorem sign_any (k : Int) (s : ByteArray) (a : Nat) (ha : a < s.size) (hs : s.size ≤ 4611686018427380000) (w : World) :
    Calls Tryz.prog 150 #[.agg #[.int .i64 k], .string s, .int .i64 (a : Int)] w (RetW (signA k a) w) := by
  go_enter Tryz.func150, Tryz.ntmps150
  go_wp2
  refine bodyPost_ret (v := wansV (signA k a)) (by simp [results, Tryz.results150, go_sem, wd_zero, signA, oneA, badA, wd0, noSet, *]) rfl ⟨rfl, ?_⟩
  (repeat' (first | (with_reducible exact Below.refl _ _) | (with_reducible assumption) | (with_reducible refine Below.alloc ?_ ?_ _) | (with_reducible refine Below.drew ?_) | (with_reducible refine below_set ?_ ?_ _) | (with_reducible refine below_call ?_ ?_ (by assumption)) | (with_reducible exact Below.size (by assumption)) | omega | go_size))
set_option maxRecDepth 100000 in
set_option maxHeartbeats 2000000 in
theorem never_any (s : ByteArray) (a : Nat) (ha : a < s.size) (hs : s.size ≤ 4611686018427380000) (w : World) :
    Calls Tryz.prog 188 #[.agg #[], .string s, .int .i64 (a : Int)] w (RetW (badA 3 (a + 1)) w) := by
  go_enter Tryz.func188, Tryz.ntmps188
  go_wp2
  refine bodyPost_ret (v := wansV (badA 3 (a + 1))) (by simp [results, Tryz.results188, go_sem, wd_zero, signA, oneA, badA, wd0, noSet, *]) rfl ⟨rfl, ?_⟩
  (repeat' (first | (with_reducible exact Below.refl _ _) | (with_reducible assumption) | (with_reducible refine Below.alloc ?_ ?_ _) | (with_reducible refine Below.drew ?_) | (with_reducible refine below_set ?_ ?_ _) | (with_reducible refine below_call ?_ ?_ (by assumption)) | (with_reducible exact Below.size (by assumption)) | omega | go_size))
set_option maxRecDepth 100000 in
theorem with1z (c : UInt8) (g : Nat) (w : World) (o : Slab w g #[.int .u8 (c.toNat : Int)] 5) :
    Calls Tryz.prog 121 #[.agg #[.int .u64 0, .int .u64 0, .int .u64 0, .int .u64 0], .slice (some ⟨g, 0, none⟩) 1 1] w fun e w' => e = .returned (setV (addB noSet c.toNat)) ∧ Below w.heap.size w w' := by
  have hc : c.toNat < 256 := c.toNat_lt
  have h := with_one noSet c.toNat (by omega) (by omega) g 1 w (o.cell 0) o.lt
  unfold setV at h
  rw [wd_zero, wd_zero, wd_zero, wd_zero] at h
  exact h
set_option maxRecDepth 100000 in
set_option maxHeartbeats 2000000 in
theorem any_any (s : ByteArray) (a : Nat) (ha : a < s.size) (hs : s.size ≤ 4611686018427380000) (w : World) :
    Calls Tryz.prog 183 #[.agg #[], .string s, .int .i64 (a : Int)] w (RetW (oneA (rangeF 0 255) a (a + 1)) w) := by
  have o0 : Slab ((w.alloc (.cells #[] 121)).alloc (.cells #[.int .i64 0, .int .i64 0, .int .i64 0, .int .u64 0, .int .u64 0, .int .u64 0, .int .u64 0, .int .i64 0, .int .i64 0] 74)) (w.heap.size + 1) #[.int .i64 0, .int .i64 0, .int .i64 0, .int .u64 0, .int .u64 0, .int .u64 0, .int .u64 0, .int .i64 0, .int .i64 0] 74 := Slab.newAt _ _ _ (by simp)
  have hb0 : Below w.heap.size w ((w.alloc (.cells #[] 121)).alloc (.cells #[.int .i64 0, .int .i64 0, .int .i64 0, .int .u64 0, .int .u64 0, .int .u64 0, .int .u64 0, .int .i64 0, .int .i64 0] 74)) := by (repeat' (first | (with_reducible exact Below.refl _ _) | (with_reducible assumption) | (with_reducible refine Below.alloc ?_ ?_ _) | (with_reducible refine Below.drew ?_) | (with_reducible refine below_set ?_ ?_ _) | (with_reducible refine below_call ?_ ?_ (by assumption)) | (with_reducible exact Below.size (by assumption)) | omega | go_size))
  have HB0 := Lib.hid hb0
  clear hb0
  go_enter Tryz.func183, Tryz.ntmps183
  go_wp2_with fail
  refine (anyset_any _).mono ?_
  rintro e1 w1 ⟨rfl, hb1⟩
  have o1 := o0.call hb1
  have HB1 := Lib.hid (below_then HB0.out hb1)
  clear hb1 o0 HB0
  go_wp2_with fail
  refine (lone_any _ _ _ _).mono ?_
  rintro e2 w2 ⟨rfl, hb2⟩
  have o2 := o1.callD hb2 rfl
  have HB2 := Lib.hid (below_then HB1.out hb2)
  clear hb2
  clear o1 HB1
  obtain ⟨cz, fz⟩ := Slab.facts o2
  go_wp2
  refine bodyPost_ret (v := wansV ⟨⟨1, a, a + 1, rangeF 0 255, 0, 0⟩, 0, 0⟩) ?_ rfl ⟨rfl, ?_⟩
  refine results_cell3 rfl rfl (load_slab (t := 74) (cs := wdCells (⟨1, a, a + 1, rangeF 0 255, 0, 0⟩)) ?_ 74 Tryz.underlying74 rfl (by kernel_rfl)) rfl rfl
  · exact slab_setCells (vs := wdCells (⟨1, a, a + 1, rangeF 0 255, 0, 0⟩)) o2 rfl
  · have hb := HB2.out
    (repeat' (first | (with_reducible exact Below.refl _ _) | (with_reducible assumption) | (with_reducible refine Below.alloc ?_ ?_ _) | (with_reducible refine Below.drew ?_) | (with_reducible refine below_set ?_ ?_ _) | (with_reducible refine below_call ?_ ?_ (by assumption)) | (with_reducible exact Below.size (by assumption)) | omega | go_size))
set_option maxRecDepth 100000 in
set_option maxHeartbeats 2000000 in
theorem plain_any (s : ByteArray) (a : Nat) (ha : a < s.size) (hs : s.size ≤ 4611686018427380000) (w : World) :
    Calls Tryz.prog 190 #[.agg #[], .string s, .int .i64 (a : Int)] w (RetW (oneA (addB noSet (bt s a).toNat) a (a + 1)) w) := by
  rw [bt_at s a ha]
  have o0 : Slab ((w.alloc (.cells #[] 124)).alloc (.cells #[.int .i64 0, .int .i64 0, .int .i64 0, .int .u64 0, .int .u64 0, .int .u64 0, .int .u64 0, .int .i64 0, .int .i64 0] 74)) (w.heap.size + 1) #[.int .i64 0, .int .i64 0, .int .i64 0, .int .u64 0, .int .u64 0, .int .u64 0, .int .u64 0, .int .i64 0, .int .i64 0] 74 := Slab.newAt _ _ _ (by simp)
  have hb0 : Below w.heap.size w ((w.alloc (.cells #[] 124)).alloc (.cells #[.int .i64 0, .int .i64 0, .int .i64 0, .int .u64 0, .int .u64 0, .int .u64 0, .int .u64 0, .int .i64 0, .int .i64 0] 74)) := by (repeat' (first | (with_reducible exact Below.refl _ _) | (with_reducible assumption) | (with_reducible refine Below.alloc ?_ ?_ _) | (with_reducible refine Below.drew ?_) | (with_reducible refine below_set ?_ ?_ _) | (with_reducible refine below_call ?_ ?_ (by assumption)) | (with_reducible exact Below.size (by assumption)) | omega | go_size))
  have HB0 := Lib.hid hb0
  clear hb0
  go_enter Tryz.func190, Tryz.ntmps190
  have p0 : Slab (((w.alloc (.cells #[] 124)).alloc (.cells #[.int .i64 0, .int .i64 0, .int .i64 0, .int .u64 0, .int .u64 0, .int .u64 0, .int .u64 0, .int .i64 0, .int .i64 0] 74)).alloc (.cells #[.int .u8 ((s[a]).toNat : Int)] 5)) (w.heap.size + 1 + 1) #[.int .u8 ((s[a]).toNat : Int)] 5 := Slab.newAt _ _ _ (by simp)
  have o1 := o0.alloc (.cells #[.int .u8 ((s[a]).toNat : Int)] 5)
  have HB1 := Lib.hid (HB0.out.alloc HB0.out.size (.cells #[.int .u8 ((s[a]).toNat : Int)] 5))
  clear o0 HB0
  go_wp2_with fail
  refine (with1z (s[a]) _ _ p0).mono ?_
  rintro e2 w2 ⟨rfl, hb2⟩
  have o2 := o1.call hb2
  have HB2 := Lib.hid (below_then HB1.out hb2)
  clear hb2 o1 HB1 p0
  go_wp2_with fail
  refine (lone_any _ _ _ _).mono ?_
  rintro e3 w3 ⟨rfl, hb3⟩
  have o3 := o2.callD hb3 rfl
  have HB3 := Lib.hid (below_then HB2.out hb3)
  clear hb3
  clear o2 HB2
  obtain ⟨cz, fz⟩ := Slab.facts o3
  go_wp2
  refine bodyPost_ret (v := wansV ⟨⟨1, a, a + 1, addB noSet s[a].toNat, 0, 0⟩, 0, 0⟩) ?_ rfl ⟨rfl, ?_⟩
  refine results_cell3 rfl rfl (load_slab (t := 74) (cs := wdCells (⟨1, a, a + 1, addB noSet s[a].toNat, 0, 0⟩)) ?_ 74 Tryz.underlying74 rfl (by kernel_rfl)) rfl rfl
  · exact slab_setCells (vs := wdCells (⟨1, a, a + 1, addB noSet s[a].toNat, 0, 0⟩)) o3 rfl
  · have hb := HB3.out
    (repeat' (first | (with_reducible exact Below.refl _ _) | (with_reducible assumption) | (with_reducible refine Below.alloc ?_ ?_ _) | (with_reducible refine Below.drew ?_) | (with_reducible refine below_set ?_ ?_ _) | (with_reducible refine below_call ?_ ?_ (by assumption)) | (with_reducible exact Below.size (by assumption)) | omega | go_size))
set_option maxRecDepth 100000 in
set_option maxHeartbeats 2000000 in
theorem lbrk_any (s : ByteArray) (a : Nat) (ha : a < s.size) (hs : s.size ≤ 4611686018427380000) (w : World) :
    Calls Tryz.prog 163 #[.agg #[], .string s, .int .i64 (a : Int)] w (RetW (brkA a (readB s a)) w) := by
  have C := bread_any s a (by omega)
  generalize readB s a = R at *
  obtain ⟨f, st, er, pl⟩ := R
  have o0 : Slab ((w.alloc (.cells #[] 120)).alloc (.cells #[.int .i64 0, .int .i64 0, .int .i64 0, .int .u64 0, .int .u64 0, .int .u64 0, .int .u64 0, .int .i64 0, .int .i64 0] 74)) (w.heap.size + 1) #[.int .i64 0, .int .i64 0, .int .i64 0, .int .u64 0, .int .u64 0, .int .u64 0, .int .u64 0, .int .i64 0, .int .i64 0] 74 := Slab.newAt _ _ _ (by simp)
  have hb0 : Below w.heap.size w ((w.alloc (.cells #[] 120)).alloc (.cells #[.int .i64 0, .int .i64 0, .int .i64 0, .int .u64 0, .int .u64 0, .int .u64 0, .int .u64 0, .int .i64 0, .int .i64 0] 74)) := by (repeat' (first | (with_reducible exact Below.refl _ _) | (with_reducible assumption) | (with_reducible refine Below.alloc ?_ ?_ _) | (with_reducible refine Below.drew ?_) | (with_reducible refine below_set ?_ ?_ _) | (with_reducible refine below_call ?_ ?_ (by assumption)) | (with_reducible exact Below.size (by assumption)) | omega | go_size))
  have HB0 := Lib.hid hb0
  clear hb0
  cases he : (er == 0) with
  | true =>
    have e0 : er = 0 := by simpa using he
    have hR : brkA a ⟨f, st, er, pl⟩ = oneA f a st := by unfold brkA; rw [if_pos e0]
    rw [hR]
    subst e0
    clear hR he
    go_enter Tryz.func163, Tryz.ntmps163
    go_wp2_with fail
    refine (C _).mono ?_
    rintro e1 w1 ⟨rfl, hb1⟩
    have o1 := o0.call hb1
    have HB1 := Lib.hid (below_then HB0.out hb1)
    have p1 : Slab (w1.alloc (.cells (cells4 f) 49)) w1.heap.size (cells4 f) 49 := Slab.new _ _ _
    have o2 := o1.alloc (.cells (cells4 f) 49)
    have HB2 := Lib.hid (HB1.out.alloc HB1.out.size (.cells (cells4 f) 49))
    clear hb1 o0 HB0 o1 HB1 C
    go_wp2_with fail
    refine (lone_any _ _ _ _).mono ?_
    rintro e3 w3 ⟨rfl, hb3⟩
    have o3 := o2.callD hb3 rfl
    have HB3 := Lib.hid (below_then HB2.out hb3)
    clear hb3
    clear o2 HB2
    obtain ⟨cz, fz⟩ := Slab.facts o3
    go_wp2
    refine bodyPost_ret (v := wansV ⟨⟨1, a, st, f, 0, 0⟩, 0, 0⟩) ?_ rfl ⟨rfl, ?_⟩
    refine results_cell3 rfl rfl (load_slab (t := 74) (cs := wdCells (⟨1, a, st, f, 0, 0⟩)) ?_ 74 Tryz.underlying74 rfl (by kernel_rfl)) rfl rfl
    · exact slab_setCells (vs := wdCells (⟨1, a, st, f, 0, 0⟩)) o3 rfl
    · have hb := HB3.out
      (repeat' (first | (with_reducible exact Below.refl _ _) | (with_reducible assumption) | (with_reducible refine Below.alloc ?_ ?_ _) | (with_reducible refine Below.drew ?_) | (with_reducible refine below_set ?_ ?_ _) | (with_reducible refine below_call ?_ ?_ (by assumption)) | (with_reducible exact Below.size (by assumption)) | omega | go_size))
  | false =>
    have e0 : ¬ er = 0 := by simpa using he
    have hR : brkA a ⟨f, st, er, pl⟩ = badA er pl := by unfold brkA; rw [if_neg e0]
    rw [hR]
    have hn : (er != 0) = true := by unfold bne; rw [he]; rfl
    clear hR he
    have E0 := Lib.hid e0; clear e0
    go_enter Tryz.func163, Tryz.ntmps163
    go_wp2_with fail
    refine (C _).mono ?_
    rintro e1 w1 ⟨rfl, hb1⟩
    have o1 := o0.call hb1
    have o2 := o1.alloc (.cells (cells4 f) 49)
    have HB1 := Lib.hid (below_then HB0.out hb1)
    have HB2 := Lib.hid (HB1.out.alloc HB1.out.size (.cells (cells4 f) 49))
    clear hb1 o0 HB0 o1 HB1 C
    obtain ⟨cz, fz⟩ := o2.facts
    go_wp2
    refine bodyPost_ret (v := wansV ⟨wd0, er, pl⟩) ?_ rfl ⟨rfl, ?_⟩
    refine results_cell3 rfl rfl (load_slab (t := 74) (cs := wdCells (wd0)) ?_ 74 Tryz.underlying74 rfl (by kernel_rfl)) rfl rfl
    · exact slab_z9 (slab_setCells (vs := #[.int .i64 0, .int .i64 0, .int .i64 0, .int .u64 0, .int .u64 0, .int .u64 0, .int .u64 0, .int .i64 0, .int .i64 0]) o2 rfl)
    · have hb := HB2.out
      (repeat' (first | (with_reducible exact Below.refl _ _) | (with_reducible assumption) | (with_reducible refine Below.alloc ?_ ?_ _) | (with_reducible refine Below.drew ?_) | (with_reducible refine below_set ?_ ?_ _) | (with_reducible refine below_call ?_ ?_ (by assumption)) | (with_reducible exact Below.size (by assumption)) | omega | go_size))
set_option maxRecDepth 100000 in
set_option maxHeartbeats 2000000 in
theorem lcnt_any (s : ByteArray) (a : Nat) (ha : a < s.size) (hs : s.size ≤ 4611686018427380000) (w : World) :
    Calls Tryz.prog 152 #[.agg #[], .string s, .int .i64 (a : Int)] w (RetW (cntA a (BraceP.readF s.data.toList a)) w) := by
  have C := read_any s a (by omega)
  generalize BraceP.readF s.data.toList a = R at *
  obtain ⟨n, m, st, er, pl⟩ := R
  have o0 : Slab ((w.alloc (.cells #[] 119)).alloc (.cells #[.int .i64 0, .int .i64 0, .int .i64 0, .int .u64 0, .int .u64 0, .int .u64 0, .int .u64 0, .int .i64 0, .int .i64 0] 74)) (w.heap.size + 1) #[.int .i64 0, .int .i64 0, .int .i64 0, .int .u64 0, .int .u64 0, .int .u64 0, .int .u64 0, .int .i64 0, .int .i64 0] 74 := Slab.newAt _ _ _ (by simp)
  have hb0 : Below w.heap.size w ((w.alloc (.cells #[] 119)).alloc (.cells #[.int .i64 0, .int .i64 0, .int .i64 0, .int .u64 0, .int .u64 0, .int .u64 0, .int .u64 0, .int .i64 0, .int .i64 0] 74)) := by (repeat' (first | (with_reducible exact Below.refl _ _) | (with_reducible assumption) | (with_reducible refine Below.alloc ?_ ?_ _) | (with_reducible refine Below.drew ?_) | (with_reducible refine below_set ?_ ?_ _) | (with_reducible refine below_call ?_ ?_ (by assumption)) | (with_reducible exact Below.size (by assumption)) | omega | go_size))
  have HB0 := Lib.hid hb0
  clear hb0
  cases he : (er == 0) with
  | true =>
    have e0 : er = 0 := by simpa using he
    have hR : cntA a (n, m, st, er, pl) = ⟨⟨5, a, st, noSet, n, m⟩, 0, 0⟩ := by unfold cntA; rw [if_pos e0]
    rw [hR]
    subst e0
    clear hR he
    go_enter Tryz.func152, Tryz.ntmps152
    go_wp2_with fail
    refine (C _).mono ?_
    rintro e1 w1 ⟨rfl, hb1⟩
    have o1 := o0.call hb1
    have HB1 := Lib.hid (below_then HB0.out hb1)
    have o2 := o1.alloc (.cells #[.int .i64 n, .int .i64 m] 154)
    have HB2 := Lib.hid (HB1.out.alloc HB1.out.size (.cells #[.int .i64 n, .int .i64 m] 154))
    clear hb1 o0 HB0 o1 HB1 C
    obtain ⟨cz, fz⟩ := o2.facts
    go_wp2
    refine bodyPost_ret (v := wansV ⟨⟨5, a, st, noSet, n, m⟩, 0, 0⟩) ?_ rfl ⟨rfl, ?_⟩
    refine results_cell3 rfl rfl (load_slab (t := 74) (cs := wdCells (⟨5, a, st, noSet, n, m⟩)) ?_ 74 Tryz.underlying74 rfl (by kernel_rfl)) rfl rfl
    · have := slab_setCells (vs := wdCells ⟨5, a, st, noSet, n, m⟩) o2 rfl
      unfold wdCells at this ⊢
      simp only [noSet, wd_zero] at this ⊢
      exact this
    · have hb := HB2.out
      (repeat' (first | (with_reducible exact Below.refl _ _) | (with_reducible assumption) | (with_reducible refine Below.alloc ?_ ?_ _) | (with_reducible refine Below.drew ?_) | (with_reducible refine below_set ?_ ?_ _) | (with_reducible refine below_call ?_ ?_ (by assumption)) | (with_reducible exact Below.size (by assumption)) | omega | go_size))
  | false =>
    have e0 : ¬ er = 0 := by simpa using he
    have hR : cntA a (n, m, st, er, pl) = badA er pl := by unfold cntA; rw [if_neg e0]
    rw [hR]
    have hn : (er != 0) = true := by unfold bne; rw [he]; rfl
    clear hR he
    have E0 := Lib.hid e0; clear e0
    go_enter Tryz.func152, Tryz.ntmps152
    go_wp2_with fail
    refine (C _).mono ?_
    rintro e1 w1 ⟨rfl, hb1⟩
    have o1 := o0.call hb1
    have HB1 := Lib.hid (below_then HB0.out hb1)
    have o2 := o1.alloc (.cells #[.int .i64 n, .int .i64 m] 154)
    have HB2 := Lib.hid (HB1.out.alloc HB1.out.size (.cells #[.int .i64 n, .int .i64 m] 154))
    clear hb1 o0 HB0 o1 HB1 C
    obtain ⟨cz, fz⟩ := o2.facts
    go_wp2
    refine bodyPost_ret (v := wansV ⟨wd0, er, pl⟩) ?_ rfl ⟨rfl, ?_⟩
    refine results_cell3 rfl rfl (load_slab (t := 74) (cs := wdCells (wd0)) ?_ 74 Tryz.underlying74 rfl (by kernel_rfl)) rfl rfl
    · exact slab_z9 (slab_setCells (vs := #[.int .i64 0, .int .i64 0, .int .i64 0, .int .u64 0, .int .u64 0, .int .u64 0, .int .u64 0, .int .i64 0, .int .i64 0]) o2 rfl)
    · have hb := HB2.out
      (repeat' (first | (with_reducible exact Below.refl _ _) | (with_reducible assumption) | (with_reducible refine Below.alloc ?_ ?_ _) | (with_reducible refine Below.drew ?_) | (with_reducible refine below_set ?_ ?_ _) | (with_reducible refine below_call ?_ ?_ (by assumption)) | (with_reducible exact Below.size (by assumption)) | omega | go_size))
set_option maxRecDepth 100000 in
set_option maxHeartbeats 2000000 in
theorem bidx_any (s : ByteArray) (c : UInt8) (w : World) :
    Calls Tryz.prog 126 #[.string s, .int .u8 (c.toNat : Int)] w fun e w' => e = .returned (.int .i64 (Lib.indexByte s.data.toList c)) ∧ w' = w := by
  go_enter Tryz.func126, Tryz.ntmps126
  go_wp2
  rw [run_callFunc_extern Tryz.func131 (by kernel_rfl) (by kernel_rfl) (by kernel_rfl) (e := Extern.BytealgIndexByte.indexByte) (by kernel_rfl), Lib.run_indexByteString]
  simp only [Result.andThen]
  rw [Oper.upon_value]
  go_wp2
  go_ret
  exact ⟨by simp, rfl⟩
set_option maxRecDepth 100000 in
set_option maxHeartbeats 2000000 in
theorem sidx_any (s : ByteArray) (c : UInt8) (w : World) :
    Calls Tryz.prog 117 #[.string s, .int .u8 (c.toNat : Int)] w fun e w' => e = .returned (.int .i64 (Lib.indexByte s.data.toList c)) ∧ w' = w := by
  go_enter Tryz.func117, Tryz.ntmps117
  go_wp2_with fail
  refine (bidx_any s c _).mono ?_
  rintro e1 w1 ⟨rfl, rfl⟩
  go_wp2
  go_ret
  exact ⟨rfl, rfl⟩
theorem esc_idx (c : UInt8) : decide (Lib.indexByte escL c < 0) = !escB c := by
  have : ∀ l : List UInt8, -1 ≤ Lib.indexByte l c ∧ (Lib.indexByte l c < 0 ↔ l.contains c = false) := by
    intro l
    induction l with
    | nil => exact ⟨by show -1 ≤ (-1 : Int); decide, by simp [Lib.indexByte]⟩
    | cons b l ih =>
      obtain ⟨h1, h2⟩ := ih
      unfold Lib.indexByte
      by_cases hb : (b == c) = true
      · rw [if_pos hb]
        have : b = c := by simpa using hb
        subst this
        exact ⟨by decide, by simp⟩
      · rw [if_neg hb]
        have hne : ¬ c = b := by rintro rfl; simp at hb
        by_cases hm : (Lib.indexByte l c == -1) = true
        · rw [if_pos hm]
          have hm' : Lib.indexByte l c = -1 := by simpa using hm
          have := h2.1 (by omega)
          refine ⟨by decide, ?_⟩
          simp only [List.contains_cons, this, Bool.or_false]
          simp [hne]
        · rw [if_neg hm]
          have hm' : ¬ Lib.indexByte l c = -1 := by simpa using hm
          refine ⟨by omega, ?_⟩
          have h0 : ¬ Lib.indexByte l c < 0 := by omega
          have hc : l.contains c = true := by
            cases hq : l.contains c with
            | true => rfl
            | false => exact absurd (h2.2 hq) h0
          simp only [List.contains_cons, hc, Bool.or_true]
          constructor
          · intro h; omega
          · intro h; cases h
  unfold escB
  cases h : escL.contains c with
  | true => rw [decide_eq_false]; rfl; rw [(this escL).2, h]; simp
  | false => rw [decide_eq_true]; rfl; rw [(this escL).2, h]
set_option maxRecDepth 100000 in
set_option maxHeartbeats 2000000 in
theorem lesc_any (s : ByteArray) (a : Nat) (ha : a < s.size) (hs : s.size ≤ 4611686018427380000) (w : World) :
    Calls Tryz.prog 186 #[.agg #[], .string s, .int .i64 (a : Int)] w (RetW (escA s a) w) := by
  have o0 : Slab ((w.alloc (.cells #[] 122)).alloc (.cells #[.int .i64 0, .int .i64 0, .int .i64 0, .int .u64 0, .int .u64 0, .int .u64 0, .int .u64 0, .int .i64 0, .int .i64 0] 74)) (w.heap.size + 1) #[.int .i64 0, .int .i64 0, .int .i64 0, .int .u64 0, .int .u64 0, .int .u64 0, .int .u64 0, .int .i64 0, .int .i64 0] 74 := Slab.newAt _ _ _ (by simp)
  have hb0 : Below w.heap.size w ((w.alloc (.cells #[] 122)).alloc (.cells #[.int .i64 0, .int .i64 0, .int .i64 0, .int .u64 0, .int .u64 0, .int .u64 0, .int .u64 0, .int .i64 0, .int .i64 0] 74)) := by (repeat' (first | (with_reducible exact Below.refl _ _) | (with_reducible assumption) | (with_reducible refine Below.alloc ?_ ?_ _) | (with_reducible refine Below.drew ?_) | (with_reducible refine below_set ?_ ?_ _) | (with_reducible refine below_call ?_ ?_ (by assumption)) | (with_reducible exact Below.size (by assumption)) | omega | go_size))
  have HB0 := Lib.hid hb0
  clear hb0
  by_cases h1 : s.size = a + 1
  · have hR : escA s a = badA 2 s.size := by unfold escA; rw [if_pos (by omega)]
    rw [hR]
    have e1 : ((a : Int) + 1 == (s.size : Int)) = true := by rw [beq_iff_eq]; omega
    have H1 := Lib.hid h1; clear h1 hR
    go_enter Tryz.func186, Tryz.ntmps186
    go_wp2
    refine bodyPost_ret (v := wansV ⟨wd0, 2, s.size⟩) ?_ rfl ⟨rfl, ?_⟩
    refine results_cell3 rfl rfl (load_slab (t := 74) (cs := wdCells (wd0)) ?_ 74 Tryz.underlying74 rfl (by kernel_rfl)) rfl rfl
    · exact slab_z9 (by first | exact o0 | exact slab_setCells (vs := #[.int .i64 0, .int .i64 0, .int .i64 0, .int .u64 0, .int .u64 0, .int .u64 0, .int .u64 0, .int .i64 0, .int .i64 0]) o0 rfl)
    · have hb := HB0.out
      (repeat' (first | (with_reducible exact Below.refl _ _) | (with_reducible assumption) | (with_reducible refine Below.alloc ?_ ?_ _) | (with_reducible refine Below.drew ?_) | (with_reducible refine below_set ?_ ?_ _) | (with_reducible refine below_call ?_ ?_ (by assumption)) | (with_reducible exact Below.size (by assumption)) | omega | go_size))
  · have h2 : a + 1 < s.size := by omega
    have hbt := bt_at s (a + 1) h2
    have e1 : ((a : Int) + 1 == (s.size : Int)) = false := by rw [beq_eq_false_iff_ne]; omega
    have C := sidx_any ⟨escL.toArray⟩ s[a + 1]
    have hE : (⟨escL.toArray⟩ : ByteArray).data.toList = escL := rfl
    rw [hE] at C
    have hI := esc_idx s[a + 1]
    cases hc : escB s[a + 1] with
    | false =>
      have hR : escA s a = badA 3 (a + 2) := by unfold escA; rw [if_neg (by omega), hbt, hc]; rfl
      rw [hR]
      rw [hc] at hI
      obtain ⟨I, hi⟩ : ∃ I, Lib.indexByte escL s[a + 1] = I := ⟨_, rfl⟩
      rw [hi] at hI C
      clear hR hi hc hbt h1
      unfold escL at C
      go_enter Tryz.func186, Tryz.ntmps186
      go_wp2_with fail
      refine (C _).mono ?_
      rintro e3 w3 ⟨rfl, rfl⟩
      go_wp2
      refine bodyPost_ret (v := wansV ⟨wd0, 3, a + 2⟩) ?_ rfl ⟨rfl, ?_⟩
      refine results_cell3 rfl rfl (load_slab (t := 74) (cs := wdCells (wd0)) ?_ 74 Tryz.underlying74 rfl (by kernel_rfl)) rfl rfl
      · exact slab_z9 (by first | exact o0 | exact slab_setCells (vs := #[.int .i64 0, .int .i64 0, .int .i64 0, .int .u64 0, .int .u64 0, .int .u64 0, .int .u64 0, .int .i64 0, .int .i64 0]) o0 rfl)
      · have hb := HB0.out
        (repeat' (first | (with_reducible exact Below.refl _ _) | (with_reducible assumption) | (with_reducible refine Below.alloc ?_ ?_ _) | (with_reducible refine Below.drew ?_) | (with_reducible refine below_set ?_ ?_ _) | (with_reducible refine below_call ?_ ?_ (by assumption)) | (with_reducible exact Below.size (by assumption)) | omega | go_size))
    | true =>
      have hR : escA s a = oneA (addB noSet s[a + 1].toNat) a (a + 2) := by unfold escA; rw [if_neg (by omega), hbt, hc]; rfl
      rw [hR]
      rw [hc] at hI
      obtain ⟨I, hi⟩ : ∃ I, Lib.indexByte escL s[a + 1] = I := ⟨_, rfl⟩
      rw [hi] at hI C
      clear hR hi hc hbt h1
      unfold escL at C
      go_enter Tryz.func186, Tryz.ntmps186
      go_wp2_with fail
      refine (C _).mono ?_
      rintro e3 w3 ⟨rfl, rfl⟩
      clear C
      have p0 : Slab (((w.alloc (.cells #[] 122)).alloc (.cells #[.int .i64 0, .int .i64 0, .int .i64 0, .int .u64 0, .int .u64 0, .int .u64 0, .int .u64 0, .int .i64 0, .int .i64 0] 74)).alloc (.cells #[.int .u8 ((s[a + 1]).toNat : Int)] 5)) (w.heap.size + 1 + 1) #[.int .u8 ((s[a + 1]).toNat : Int)] 5 := Slab.newAt _ _ _ (by simp)
      have o1 := o0.alloc (.cells #[.int .u8 ((s[a + 1]).toNat : Int)] 5)
      have HB1 := Lib.hid (HB0.out.alloc HB0.out.size (.cells #[.int .u8 ((s[a + 1]).toNat : Int)] 5))
      clear o0 HB0
      go_wp2_with fail
      refine (with1z (s[a + 1]) _ _ p0).mono ?_
      rintro e2 w2 ⟨rfl, hb2⟩
      have o2 := o1.call hb2
      have HB2 := Lib.hid (below_then HB1.out hb2)
      clear hb2 o1 HB1 p0
      go_wp2_with fail
      refine (lone_any _ _ _ _).mono ?_
      rintro e3 w3 ⟨rfl, hb3⟩
      have o3 := o2.callD hb3 rfl
      have HB3 := Lib.hid (below_then HB2.out hb3)
      clear hb3
      clear o2 HB2
      obtain ⟨cz, fz⟩ := Slab.facts o3
      go_wp2
      refine bodyPost_ret (v := wansV ⟨⟨1, a, a + 2, addB noSet s[a + 1].toNat, 0, 0⟩, 0, 0⟩) ?_ rfl ⟨rfl, ?_⟩
      refine results_cell3 rfl rfl (load_slab (t := 74) (cs := wdCells (⟨1, a, a + 2, addB noSet s[a + 1].toNat, 0, 0⟩)) ?_ 74 Tryz.underlying74 rfl (by kernel_rfl)) rfl rfl
      · exact slab_setCells (vs := wdCells (⟨1, a, a + 2, addB noSet s[a + 1].toNat, 0, 0⟩)) o3 rfl
      · have hb := HB3.out
        (repeat' (first | (with_reducible exact Below.refl _ _) | (with_reducible assumption) | (with_reducible refine Below.alloc ?_ ?_ _) | (with_reducible refine Below.drew ?_) | (with_reducible refine below_set ?_ ?_ _) | (with_reducible refine below_call ?_ ?_ (by assumption)) | (with_reducible exact Below.size (by assumption)) | omega | go_size))
end Go.Proofs.YtfcgmgpcbenfpaaGreat
