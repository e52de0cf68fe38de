/- Walks of the package class: names, classes of names. -/
import Derived.Test.YtddokdjlmdoebaaProg
import Derived.WalkKit
import Derived.WalkSpells
import Derived.WalkLawsBesides
import Derived.Handy
import Derived.Lib.Hide
import Derived.Test.YtddokdjlmdoebaaMCls
import Derived.Test.YtddokdjlmdoebaaMBset
import Derived.Deep.RegionHeld3
import Derived.Test.YtddokdjlmdoebaaMRef
set_option linter.unusedVariables false
set_option linter.unusedSimpArgs false
namespace Go.Proofs.Ytddokdjlmdoebaa
open Go.RowKit SetP
/-- The names, in order, and their classes. -/
def nm : Nat → ByteArray
  | 0 => ⟨#[97, 108, 110, 117, 109]⟩ | 1 => ⟨#[97, 108, 112, 104, 97]⟩ | 2 => ⟨#[98, 108, 97, 110, 107]⟩ | 3 => ⟨#[99, 110, 116, 114, 108]⟩ | 4 => ⟨#[100, 105, 103, 105, 116]⟩ | 5 => ⟨#[103, 114, 97, 112, 104]⟩
  | 6 => ⟨#[108, 111, 119, 101, 114]⟩ | 7 => ⟨#[112, 114, 105, 110, 116]⟩ | 8 => ⟨#[112, 117, 110, 99, 116]⟩ | 9 => ⟨#[115, 112, 97, 99, 101]⟩ | 10 => ⟨#[117, 112, 112, 101, 114]⟩ | 11 => ⟨#[120, 100, 105, 103, 105, 116]⟩ | _ => ⟨#[]⟩
def cls : Nat → Nat → Bool
  | 0 => alnumF | 1 => alphaF | 2 => blankF | 3 => cntrlF | 4 => digitF | 5 => graphF | 6 => lowerF | 7 => printF | 8 => punctF | 9 => spaceF | 10 => upperF | 11 => xdigitF | _ => fun _ => false
abbrev namedV (k : Nat) : Value := .agg #[.string (nm k), .int .u64 (wd (cls k) 0), .int .u64 (wd (cls k) 1), .int .u64 (wd (cls k) 2), .int .u64 (wd (cls k) 3)]
set_option maxRecDepth 100000 in
theorem idx_tbl (k : Nat) (hk : k < 12) (w : World) : (Instr.index 232 (.agg tblCells) (.int .i64 (k : Int))).run Try.prog w = .ok (namedV k) w :=
  match k, hk with
  | 0, _ => by kernel_rfl
  | 1, _ => by kernel_rfl
  | 2, _ => by kernel_rfl
  | 3, _ => by kernel_rfl
  | 4, _ => by kernel_rfl
  | 5, _ => by kernel_rfl
  | 6, _ => by kernel_rfl
  | 7, _ => by kernel_rfl
  | 8, _ => by kernel_rfl
  | 9, _ => by kernel_rfl
  | 10, _ => by kernel_rfl
  | 11, _ => by kernel_rfl
  | _ + 12, h => absurd h (by omega)

/-- The number of the class of a name. -/
def hit (s : ByteArray) (k : Nat) : Bool := (nm k).toList == s.toList
def clsOf (s : ByteArray) : Option Nat := (List.range 12).find? (hit s)
def ofV (s : ByteArray) : Value := match clsOf s with
  | some k => .tuple #[setV (cls k), .bool true]
  | none => .tuple #[.agg #[.int .u64 0, .int .u64 0, .int .u64 0, .int .u64 0], .bool false]
theorem find_none {p : Nat → Bool} {n : Nat} (h : ∀ j, j < n → p j = false) : (List.range n).find? p = none := by
  rw [List.find?_eq_none]; intro x hx; rw [h x (by simpa using hx)]; simp
theorem less_succ {p : Nat → Bool} {k : Nat} (h : ∀ j, j < k → p j = false) (hk : p k = false) : ∀ j, j < k + 1 → p j = false := fun j hj => by
  by_cases e : j = k
  · rw [e]; exact hk
  · exact h j (by omega)
theorem ofV_some {s : ByteArray} {k : Nat} (hk : k < 12) (hh : hit s k = true) (hno : ∀ j, j < k → hit s j = false) : ofV s = .tuple #[setV (cls k), .bool true] := by
  unfold ofV clsOf; rw [range_find hk hh hno]
theorem ofV_none {s : ByteArray} (hno : ∀ j, j < 12 → hit s j = false) : ofV s = .tuple #[.agg #[.int .u64 0, .int .u64 0, .int .u64 0, .int .u64 0], .bool false] := by
  unfold ofV clsOf; rw [find_none hno]
abbrev namedO (k : Nat) : Obj := .cells #[.string (nm k), .int .u64 (wd (cls k) 0), .int .u64 (wd (cls k) 1), .int .u64 (wd (cls k) 2), .int .u64 (wd (cls k) 3)] 231
set_option maxRecDepth 100000 in
set_option maxHeartbeats 2000000 in
theorem of_any (s : ByteArray) (w : World) :
    Calls Try.prog 206 #[.string s] w fun e w' => e = .returned (ofV s) ∧ Below w.heap.size w w' := by
  go_enter Try.func206, Try.ntmps206
  go_wp2_with fail
  refine (table_any _).mono ?_
  rintro e1 w1 ⟨rfl, hb1⟩
  have o1 : Slab w1 w.heap.size zero4 41 := (Slab.new _ _ _).call hb1
  have HB1 := Lib.hid (below_then ((Below.refl _ w).alloc (Nat.le_refl _) _) hb1)
  clear hb1
  go_wp2
  go_loopw [7] (fun i wr => ∃ k : Nat, k ≤ 12 ∧ i = .int .i64 k ∧ (∀ j, j < k → hit s j = false) ∧ Slab wr w.heap.size zero4 41 ∧ Below w.heap.size w wr) (fun i _ => 12 - (intOf i).toNat)
  case atStart => exact ⟨0, by omega, rfl, fun j hj => by omega, o1, HB1.out⟩
  case round =>
    clear o1 HB1
    obtain ⟨k, hk, rfl, hno, o0, hB⟩ := hrel
    have HN := Lib.hid hno; clear hno
    have HB := Lib.hid hB; clear hB
    by_cases hlt : k < 12
    · have hix := idx_tbl k hlt
      obtain ⟨c0, f0⟩ := Slab.facts (o0.alloc (namedO k))
      cases hh : hit s k with
      | true =>
        have hh' : ((nm k).toList == s.toList) = true := hh
        have HH := Lib.hid hh; clear hh
        go_wp2
        refine bodyPost_ret (v := .tuple #[setV (cls k), .bool true]) (by simp [results, Try.results206, go_sem, c0]) rfl ⟨by rw [ofV_some hlt HH.out HN.out], ?_⟩
        have hb := HB.out
        (repeat' (first | (with_reducible exact Below.refl _ _) | (with_reducible assumption) | (with_reducible refine Below.alloc ?_ ?_ _) | (with_reducible refine Below.drew ?_) | (with_reducible refine below_set ?_ ?_ _) | (with_reducible refine below_call ?_ ?_ (by assumption)) | (with_reducible exact Below.size (by assumption)) | omega | go_size))
      | false =>
        have hh' : ((nm k).toList == s.toList) = false := hh
        have HH := Lib.hid hh; clear hh
        go_wp2
        go_roundw
        case rel =>
          refine ⟨k + 1, by omega, by go_num, less_succ HN.out HH.out, o0.alloc _, ?_⟩
          have hb := HB.out
          (repeat' (first | (with_reducible exact Below.refl _ _) | (with_reducible assumption) | (with_reducible refine Below.alloc ?_ ?_ _) | (with_reducible refine Below.drew ?_) | (with_reducible refine below_set ?_ ?_ _) | (with_reducible refine below_call ?_ ?_ (by assumption)) | (with_reducible exact Below.size (by assumption)) | omega | go_size))
        case measure => simp [intOf]; omega
    · obtain rfl : k = 12 := by omega
      obtain ⟨c0, f0⟩ := Slab.facts (o0)
      go_wp2
      refine bodyPost_ret (v := .tuple #[.agg #[.int .u64 0, .int .u64 0, .int .u64 0, .int .u64 0], .bool false]) (by simp [results, Try.results206, go_sem, c0]) rfl ⟨by rw [ofV_none HN.out], ?_⟩
      have hb := HB.out
      (repeat' (first | (with_reducible exact Below.refl _ _) | (with_reducible assumption) | (with_reducible refine Below.alloc ?_ ?_ _) | (with_reducible refine Below.drew ?_) | (with_reducible refine below_set ?_ ?_ _) | (with_reducible refine below_call ?_ ?_ (by assumption)) | (with_reducible exact Below.size (by assumption)) | omega | go_size))

def nmL (k : Nat) : List Value := (List.range k).map fun j => .string (nm j)
theorem nmL_succ (k : Nat) : nmL (k + 1) = nmL k ++ [.string (nm k)] := by simp [nmL, List.range_succ]
set_option maxRecDepth 100000 in
theorem info_str : (Try.prog.info? 9).map (fun i => (i.zero, i.size, i.bytes)) = some (some (.string ⟨#[]⟩), 1, 16) := by kernel_rfl
set_option maxRecDepth 100000 in
set_option maxHeartbeats 2000000 in
theorem names_any (w : World) :
    Calls Try.prog 194 #[] w (RetRow 9 1 12 (nmL 12) w) := by
  obtain ⟨i0, hi, hz0, hz1, hz2⟩ := info_parts info_str
  have HI := Lib.hid hi; clear hi
  have HZ0 := Lib.hid hz0; clear hz0
  have HZ1 := Lib.hid hz1; clear hz1
  have HZ2 := Lib.hid hz2; clear hz2
  go_enter Try.func194, Try.ntmps194
  go_wp2_with fail
  refine (table_any _).mono ?_
  rintro e1 w1 ⟨rfl, hb1⟩
  have HB1 := Lib.hid hb1
  clear hb1
  go_wp2
  go_loopw [1, 5] (fun s i wr => ∃ (k : Nat) (A : Option Addr) (c : Nat), k ≤ 12 ∧ i = .int .i64 k ∧ s = .slice A k c ∧ wr.ownsRow w.heap.size 9 1 (.slice A k c) k (nmL k) ∧ Below w.heap.size w wr) (fun _ i _ => 12 - (intOf i).toNat)
  case atStart => exact ⟨0, none, 0, by omega, rfl, rfl, World.ownsRow_nil _ _ _ _, HB1.out⟩
  case round =>
    clear HB1
    obtain ⟨k, A, c, hk, rfl, rfl, hown, hB⟩ := hrel
    have hsz := hB.size
    have HB := Lib.hid hB; clear hB
    by_cases hlt : k < 12
    · have hix := idx_tbl k hlt
      have hown2 := hown.alloc (namedO k)
      go_wp2_with (at_builtin; go_must (refine wpList_append_elem _ rfl (.tmp 8) (.tmp 11) 196 rfl (w.heap.size) 9 i0 _ _ _ Try.underlying196 HI.out HZ0.out HZ1.out HZ2.out rfl (by decide) _ _ _ _ rfl hown2 #[.string (nm k)] _ rfl (by first | rfl | simp) rfl (by simp [Value.oneCell']) (by unfold maxLen; omega) (by omega) (by first | omega | (simp; omega)) ?_); intro A4 q4 w4 hown4 hbl4)
      have HB4 : Below w.heap.size w w4 := (HB.out.alloc hsz (namedO k)).trans hbl4
      rw [← nmL_succ] at hown4
      clear hbl4 hown2 hown
      go_wp2
      go_roundw
      case rel => exact ⟨k + 1, A4, q4, by omega, by go_num, rfl, hown4, HB4⟩
      case measure => simp [intOf]; omega
    · obtain rfl : k = 12 := by omega
      go_wp2
      go_ret
      exact ⟨A, c, rfl, hown, HB.out⟩

/-- Begins a text so? -/
def hpF (s t : ByteArray) : Bool := decide (t.size ≤ s.size) && ((s.extract 0 t.size).toList == t.toList)
set_option maxRecDepth 100000 in
set_option maxHeartbeats 2000000 in
theorem slhp_any (s t : ByteArray) (_hs : s.size ≤ 4611686018427387904) (_ht : t.size ≤ 4611686018427387904) (w : World) :
    Calls Try.prog 195 #[.string s, .string t] w fun e w' => e = .returned (.bool (hpF s t)) ∧ w' = w := by
  go_enter Try.func195, Try.ntmps195
  by_cases h : t.size ≤ s.size
  · have h1 : decide (t.size ≤ s.size) = true := by simpa using h
    go_wp2
    go_ret
    exact ⟨by simp [hpF, h], rfl⟩
  · have h1 : decide (t.size ≤ s.size) = false := by simpa using h
    go_wp2
    go_ret
    exact ⟨by simp [hpF, h], rfl⟩
set_option maxRecDepth 100000 in
set_option maxHeartbeats 2000000 in
theorem hp_any (s t : ByteArray) (hs : s.size ≤ 4611686018427387904) (ht : t.size ≤ 4611686018427387904) (w : World) :
    Calls Try.prog 191 #[.string s, .string t] w fun e w' => e = .returned (.bool (hpF s t)) ∧ w' = w := by
  go_enter Try.func191, Try.ntmps191
  go_wp2_with fail
  refine (slhp_any s t hs ht _).mono ?_
  rintro e1 w1 ⟨rfl, rfl⟩
  go_wp2
  go_ret
  exact ⟨rfl, rfl⟩

theorem nm_size (k : Nat) : (nm k).size ≤ 6 := by
  unfold nm; split <;> decide
def beginsF (s : ByteArray) : Bool := (List.range 12).any fun k => hpF (nm k) s
set_option maxRecDepth 100000 in
set_option maxHeartbeats 2000000 in
theorem begins_any (s : ByteArray) (hs : s.size ≤ 4611686018427387904) (w : World) :
    Calls Try.prog 202 #[.string s] w fun e w' => e = .returned (.bool (beginsF s)) ∧ Below w.heap.size w w' := by
  go_enter Try.func202, Try.ntmps202
  go_wp2_with fail
  refine (table_any _).mono ?_
  rintro e1 w1 ⟨rfl, hb1⟩
  have HB1 := Lib.hid hb1
  clear hb1
  go_wp2
  go_loopw [6] (fun i wr => ∃ k : Nat, k ≤ 12 ∧ i = .int .i64 k ∧ (∀ j, j < k → hpF (nm j) s = false) ∧ Below w.heap.size w wr) (fun i _ => 12 - (intOf i).toNat)
  case atStart => exact ⟨0, by omega, rfl, fun j hj => by omega, HB1.out⟩
  case round =>
    clear HB1
    obtain ⟨k, hk, rfl, hno, hB⟩ := hrel
    have HN := Lib.hid hno; clear hno
    have HB := Lib.hid hB; clear hB
    by_cases hlt : k < 12
    · have hix := idx_tbl k hlt
      have hsz := nm_size k
      go_wp2_with fail
      refine (hp_any (nm k) s (by omega) hs _).mono ?_
      rintro e1 w1 ⟨rfl, rfl⟩
      cases hh : hpF (nm k) s with
      | true =>
        have HH := Lib.hid hh; clear hh
        go_wp2
        go_ret
        refine ⟨?_, ?_⟩
        · have : beginsF s = true := List.any_eq_true.2 ⟨k, by simpa using hlt, HH.out⟩
          exact congrArg (fun b => Ending.returned (.bool b)) this.symm
        · have hb := HB.out
          (repeat' (first | (with_reducible exact Below.refl _ _) | (with_reducible assumption) | (with_reducible refine Below.alloc ?_ ?_ _) | (with_reducible refine Below.drew ?_) | (with_reducible refine below_set ?_ ?_ _) | (with_reducible refine below_call ?_ ?_ (by assumption)) | (with_reducible exact Below.size (by assumption)) | omega | go_size))
      | false =>
        have HH := Lib.hid hh; clear hh
        go_wp2
        go_roundw
        case rel =>
          refine ⟨k + 1, by omega, by go_num, less_succ HN.out HH.out, ?_⟩
          have hb := HB.out
          (repeat' (first | (with_reducible exact Below.refl _ _) | (with_reducible assumption) | (with_reducible refine Below.alloc ?_ ?_ _) | (with_reducible refine Below.drew ?_) | (with_reducible refine below_set ?_ ?_ _) | (with_reducible refine below_call ?_ ?_ (by assumption)) | (with_reducible exact Below.size (by assumption)) | omega | go_size))
        case measure => simp [intOf]; omega
    · obtain rfl : k = 12 := by omega
      go_wp2
      go_ret
      refine ⟨?_, HB.out⟩
      have : beginsF s = false := by
        unfold beginsF
        rw [List.any_eq_false]
        intro x hx
        rw [HN.out x (by simpa using hx)]; simp
      exact congrArg (fun b => Ending.returned (.bool b)) this.symm

def findF (f : Nat → Bool) : ByteArray := match (List.range 12).find? (fun k => same (cls k) f) with
  | some k => nm k
  | none => ⟨#[]⟩
attribute [local go_sem] run_eq_set
set_option maxRecDepth 100000 in
set_option maxHeartbeats 2000000 in
theorem anyset_any (w : World) :
    Calls Try.prog 209 #[] w fun e w' => e = .returned (setV (rangeF 0 255)) ∧ Below w.heap.size w w' := by
  go_enter Try.func209, Try.ntmps209
  go_wp2_with fail
  refine (range_any 0 255 (by decide) (by decide) (by decide) (by decide) _).mono ?_
  rintro e1 w1 ⟨rfl, hb1⟩
  have o1 : Slab w1 w.heap.size zero4 41 := (Slab.new _ _ _).call hb1
  obtain ⟨c1, f1⟩ := Slab.facts (o1)
  go_wp2
  refine bodyPost_ret (v := setV (rangeF 0 255)) (by simp [results, Try.results209, go_sem, c1]) rfl ⟨rfl, ?_⟩
  (repeat' (first | (with_reducible exact Below.refl _ _) | (with_reducible assumption) | (with_reducible refine Below.alloc ?_ ?_ _) | (with_reducible refine Below.drew ?_) | (with_reducible refine below_set ?_ ?_ _) | (with_reducible refine below_call ?_ ?_ (by assumption)) | (with_reducible exact Below.size (by assumption)) | omega | go_size))
end Go.Proofs.Ytddokdjlmdoebaa

/- Walks of the package gimletref02: what the document says of classes. -/
namespace Go.Proofs.Ytddokdjlmdoebaa
open Go.RowKit SetP
set_option maxRecDepth 100000 in
theorem in_any (b lo hi : Int) (w : World) :
    Calls Try.prog 156 #[.int .i64 b, .int .i64 lo, .int .i64 hi] w fun e w' => e = .returned (.bool (decide (lo ≤ b) && decide (b ≤ hi))) ∧ w' = w := by
  go_enter Try.func156, Try.ntmps156
  cases h : decide (lo ≤ b) <;> (go_wp2; go_ret; exact ⟨by first | rfl | simp, rfl⟩)
set_option maxRecDepth 100000 in
theorem inr_any (b : Nat) (lo hi : Int) (w : World) :
    Calls Try.prog 156 #[.int .i64 b, .int .i64 lo, .int .i64 hi] w fun e w' => e = .returned (.bool (rangeF lo hi b)) ∧ w' = w := in_any b lo hi w
def isF (s : ByteArray) (x : Nat) : Bool :=
  if s.toList == [97, 108, 110, 117, 109] then alnumF x else if s.toList == [97, 108, 112, 104, 97] then alphaF x else if s.toList == [98, 108, 97, 110, 107] then blankF x else if s.toList == [99, 110, 116, 114, 108] then cntrlF x else if s.toList == [100, 105, 103, 105, 116] then digitF x else if s.toList == [103, 114, 97, 112, 104] then graphF x else if s.toList == [108, 111, 119, 101, 114] then lowerF x else if s.toList == [112, 114, 105, 110, 116] then printF x else if s.toList == [112, 117, 110, 99, 116] then punctF x else if s.toList == [115, 112, 97, 99, 101] then spaceF x else if s.toList == [117, 112, 112, 101, 114] then upperF x else if s.toList == [120, 100, 105, 103, 105, 116] then xdigitF x else false
set_option maxRecDepth 100000 in
set_option maxHeartbeats 2000000 in
theorem is_any (s : ByteArray) (b : Nat) (w : World) : Calls Try.prog 154 #[.string s, .int .i64 b] w fun e w' => e = .returned (.bool (isF s b)) ∧ w' = w := by
  obtain ⟨r, hr⟩ : ∃ r, isF s b = r := ⟨_, rfl⟩
  rw [hr]
  have HR := Lib.hid hr; clear hr
  go_enter Try.func154, Try.ntmps154
  cases h0 : rangeF 65 90 b <;> (
    go_wp2_with (go_at_call 156; refine (inr_any _ _ _ _).mono ?_; rintro e w ⟨rfl, rfl⟩; try rw [h0]))
  all_goals
    go_ret
    have hr := HR.out
    refine ⟨?_, rfl⟩
    rw [← hr]
    refine ret_v (congrArg Value.bool ?_)
    clear hr HR
    simp only [isF, *, if_true, if_false, Bool.false_eq_true]
    all_goals first
      | (simp [alnumF, alphaF, upperF, lowerF, digitF, *]; done)
      | (simp [alnumF, alphaF, upperF, lowerF, digitF, graphF, punctF, printF, xdigitF, xaF, xuF, xlF, spaceF, sp0F, cntrlF, cn0F, blankF, addB, addL, *]; done)
      | (rw [Bool.eq_iff_iff]; simp [alnumF, alphaF, upperF, lowerF, digitF, graphF, punctF, printF, xdigitF, xaF, xuF, xlF, spaceF, sp0F, cntrlF, cn0F, blankF, addB, addL, *]; omega)
      | (rw [Bool.eq_iff_iff]; simp [printF, addB, graphF, rangeF]; try omega)
theorem isF_hit {s : ByteArray} {k : Nat} (hk : k < 12) (hh : hit s k = true) (x : Nat) : isF s x = cls k x := by
  have e : s.toList = (nm k).toList := by
    unfold hit at hh
    exact (LawfulBEq.eq_of_beq hh).symm
  unfold isF
  rw [e, ByteArray.toList_eq]
  match k, hk with
  | 0, _ => rfl
  | 1, _ => rfl
  | 2, _ => rfl
  | 3, _ => rfl
  | 4, _ => rfl
  | 5, _ => rfl
  | 6, _ => rfl
  | 7, _ => rfl
  | 8, _ => rfl
  | 9, _ => rfl
  | 10, _ => rfl
  | 11, _ => rfl
  | _ + 12, h => exact absurd h (by omega)
def nmCells : Array Value := (nmL 12).toArray
theorem nmCells_at (k : Nat) (h : k < 12) : nmCells[k]? = some (.string (nm k)) := by
  unfold nmCells nmL; simp [h]
set_option maxRecDepth 100000 in
set_option maxHeartbeats 2000000 in
theorem rnames_any (w : World) : Calls Try.prog 155 #[] w fun e w' => e = .returned (.slice (some ⟨w.heap.size, 0, none⟩) 12 12) ∧ w' = w.alloc (.cells nmCells 9) := by
  go_enter Try.func155, Try.ntmps155
  go_wp2
  go_ret
  exact ⟨rfl, rfl⟩

set_option maxRecDepth 100000 in
set_option maxHeartbeats 2000000 in
theorem rof2_any (s : ByteArray) (w : World) :
    Calls Try.prog 151 #[.string s] w fun e w' => e = .returned (ofV s) ∧ Below w.heap.size w w' := by
  go_enter Try.func151, Try.ntmps151
  go_wp2
  go_loopw [5] (fun i wr => ∃ k : Nat, k ≤ 256 ∧ i = .int .i64 k ∧ Slab wr w.heap.size zero4 41 ∧ Slab wr (w.heap.size + 1) (bools fun x => isF s x && decide (x < k)) 167 ∧ Below w.heap.size w wr) (fun i _ => (256 - intOf i).toNat)
  case atStart =>
    have e : Try.zeroCells167 = bools (fun x => isF s x && decide (x < 0)) := by
      rw [bools_zero]
      exact bools_congr fun x _ => by simp
    refine ⟨0, by omega, rfl, (Slab.new _ _ _).alloc _, ?_, by (repeat' (first | (with_reducible exact Below.refl _ _) | (with_reducible assumption) | (with_reducible refine Below.alloc ?_ ?_ _) | (with_reducible refine Below.drew ?_) | (with_reducible refine below_set ?_ ?_ _) | (with_reducible refine below_call ?_ ?_ (by assumption)) | (with_reducible exact Below.size (by assumption)) | omega | go_size))⟩
    rw [← e]
    exact Slab.newAt _ _ _ (by simp)
  case round =>
    obtain ⟨k, hk, rfl, o0, o1, hB⟩ := hrel
    have HB := Lib.hid hB; clear hB
    have hz := o1.lt
    obtain ⟨c1, f1⟩ := o1.facts
    by_cases hlt : k < 256
    · have hcell : wr.cell? ⟨w.heap.size + 1, k, none⟩ = some (.bool (isF s k && decide (k < k))) := (c1 _).trans (bools_at _ k (by omega))
      clear c1
      go_wp2_with fail
      refine (is_any s k _).mono ?_
      rintro e2 w2 ⟨rfl, rfl⟩
      go_wp2
      go_roundw
      case rel =>
        refine ⟨k + 1, by omega, by go_num, o0.far (by omega) _, bools_step o1 k (isF s k) _ fun x hx => ?_, below_set HB.out (by omega) _⟩
        by_cases e : x = k
        · subst e; simp
        · have : (x < k + 1) = (x < k) := by rw [eq_iff_iff]; omega
          simp [e, this]
      case measure => simp [intOf]; omega
    · obtain rfl : k = 256 := by omega
      have e : (bools fun x => isF s x && decide (x < 256)) = bools (isF s) := bools_congr fun x hx => by simp [hx]
      rw [e] at o1
      clear c1 f1 e
      go_wp2_with fail
      refine (rnames_any _).mono ?_
      rintro e2 w2 ⟨rfl, rfl⟩
      have o2 : Slab (wr.alloc (.cells nmCells 9)) wr.heap.size nmCells 9 := Slab.new _ _ _
      have p0 := o0.alloc (.cells nmCells 9)
      have p1 := o1.alloc (.cells nmCells 9)
      have hb := HB.out.alloc HB.out.size (.cells nmCells 9)
      have HB2 := Lib.hid hb
      clear hb o0 o1 HB
      generalize hg : wr.alloc (.cells nmCells 9) = W at *
      clear hg
      have hne : w.heap.size + 1 ≠ wr.heap.size := by omega
      generalize wr.heap.size = g at *
      clear wr
      go_wp2
      go_loopw [7] (fun i wr => ∃ k : Nat, k ≤ 12 ∧ i = .int .i64 k ∧ (∀ j, j < k → hit s j = false) ∧ wr = W) (fun i _ => 12 - (intOf i).toNat)
      case atStart => exact ⟨0, by omega, rfl, fun j hj => by omega, rfl⟩
      case round =>
        obtain ⟨k, hk, rfl, hno, rfl⟩ := hrel
        have HN := Lib.hid hno; clear hno
        obtain ⟨c0, f0⟩ := Slab.facts (p0)
        by_cases hlt : k < 12
        · have hcell : wr.cell? ⟨g, k, none⟩ = some (.string (nm k)) := (o2.cell k).trans (nmCells_at k hlt)
          cases hh : hit s k with
          | true =>
            have hh' : ((nm k).toList == s.toList) = true := hh
            have e : ofV s = .tuple #[setV (isF s), .bool true] := by
              rw [ofV_some hlt hh HN.out, funext fun x => isF_hit hlt hh x]
            have HE := Lib.hid e; clear e hh
            go_wp2_with (first | (refine wpList_load_row rfl 167 (.tmp 4) rfl (w.heap.size + 1) rfl 167 _ (0, 0) _ p1 Try.underlying167 rfl (by rw [bools_size]; kernel_rfl) ?_) | (go_at_call 118; go_must (refine (rof_any _ _).mono ?_); rintro e3 w3 ⟨rfl, hb3⟩; have o3 := p0.call hb3; obtain ⟨c3, f3⟩ := Slab.facts (o3)))
            refine bodyPost_ret (v := .tuple #[setV (isF s), .bool true]) (by simp [results, Try.results151, go_sem, c3]) rfl ⟨by rw [HE.out], ?_⟩
            have hb := HB2.out
            (repeat' (first | (with_reducible exact Below.refl _ _) | (with_reducible assumption) | (with_reducible refine Below.alloc ?_ ?_ _) | (with_reducible refine Below.drew ?_) | (with_reducible refine below_set ?_ ?_ _) | (with_reducible refine below_call ?_ ?_ (by assumption)) | (with_reducible exact Below.size (by assumption)) | omega | go_size))
          | false =>
            have hh' : ((nm k).toList == s.toList) = false := hh
            have HH := Lib.hid hh; clear hh
            go_wp2
            go_roundw
            case rel => exact ⟨k + 1, by omega, by go_num, less_succ HN.out HH.out, trivial⟩
            case measure => simp [intOf]; omega
        · obtain rfl : k = 12 := by omega
          go_wp2
          refine bodyPost_ret (v := .tuple #[.agg #[.int .u64 0, .int .u64 0, .int .u64 0, .int .u64 0], .bool false]) (by simp [results, Try.results151, go_sem, c0]) rfl ⟨by rw [ofV_none HN.out], ?_⟩
          have hb := HB2.out
          (repeat' (first | (with_reducible exact Below.refl _ _) | (with_reducible assumption) | (with_reducible refine Below.alloc ?_ ?_ _) | (with_reducible refine Below.drew ?_) | (with_reducible refine below_set ?_ ?_ _) | (with_reducible refine below_call ?_ ?_ (by assumption)) | (with_reducible exact Below.size (by assumption)) | omega | go_size))

set_option maxRecDepth 100000 in
set_option maxHeartbeats 2000000 in
theorem rbegins_any (s : ByteArray) (hs : s.size ≤ 4611686018427387904) (w : World) :
    Calls Try.prog 152 #[.string s] w fun e w' => e = .returned (.bool (beginsF s)) ∧ Below w.heap.size w w' := by
  go_enter Try.func152, Try.ntmps152
  go_wp2_with fail
  refine (rnames_any _).mono ?_
  rintro e2 w2 ⟨rfl, rfl⟩
  have o2 : Slab (w.alloc (.cells nmCells 9)) w.heap.size nmCells 9 := Slab.new _ _ _
  have HB := Lib.hid ((Below.refl w.heap.size w).alloc (Nat.le_refl _) (.cells nmCells 9))
  generalize hg : w.alloc (.cells nmCells 9) = W at *
  clear hg
  go_wp2
  go_loopw [4] (fun i wr => ∃ k : Nat, k ≤ 12 ∧ i = .int .i64 k ∧ (∀ j, j < k → hpF (nm j) s = false) ∧ wr = W) (fun i _ => 12 - (intOf i).toNat)
  case atStart => exact ⟨0, by omega, rfl, fun j hj => by omega, rfl⟩
  case round =>
    obtain ⟨k, hk, rfl, hno, rfl⟩ := hrel
    have HN := Lib.hid hno; clear hno
    by_cases hlt : k < 12
    · have hcell : wr.cell? ⟨w.heap.size, k, none⟩ = some (.string (nm k)) := (o2.cell k).trans (nmCells_at k hlt)
      have hsz := nm_size k
      by_cases h1 : s.size ≤ (nm k).size
      · have h1' : decide (s.size ≤ (nm k).size) = true := by simpa using h1
        cases hh : (((nm k).extract 0 s.size).toList == s.toList) with
        | true =>
          have e : beginsF s = true := List.any_eq_true.2 ⟨k, by simpa using hlt, by unfold hpF; rw [h1', hh]; rfl⟩
          have HE := Lib.hid e; clear e
          go_wp2
          go_ret
          exact ⟨congrArg (fun b => Ending.returned (.bool b)) HE.out.symm, HB.out⟩
        | false =>
          have e : hpF (nm k) s = false := by unfold hpF; rw [hh]; simp
          have HE := Lib.hid e; clear e
          go_wp2
          go_roundw
          case rel => exact ⟨k + 1, by omega, by go_num, less_succ HN.out HE.out, trivial⟩
          case measure => simp [intOf]; omega
      · have h1' : decide (s.size ≤ (nm k).size) = false := by simpa using h1
        have e : hpF (nm k) s = false := by unfold hpF; rw [h1']; simp
        have HE := Lib.hid e; clear e
        go_wp2
        go_roundw
        case rel => exact ⟨k + 1, by omega, by go_num, less_succ HN.out HE.out, trivial⟩
        case measure => simp [intOf]; omega
    · obtain rfl : k = 12 := by omega
      have e : beginsF s = false := by
        unfold beginsF
        rw [List.any_eq_false]
        intro x hx
        rw [HN.out x (by simpa using hx)]; simp
      have HE := Lib.hid e; clear e
      go_wp2
      go_ret
      exact ⟨congrArg (fun b => Ending.returned (.bool b)) HE.out.symm, HB.out⟩

attribute [local go_sem] run_eq_set
theorem ofV_nm (k : Nat) (hk : k < 12) : ofV (nm k) = .tuple #[setV (cls k), .bool true] := by
  refine ofV_some hk (by simp [hit]) fun j hj => ?_
  unfold hit
  rw [ByteArray.toList_eq, ByteArray.toList_eq]
  have H : ∀ k, k < 12 → ∀ j, j < k → ((nm j).data.toList == (nm k).data.toList) = false := by decide
  exact H k hk j hj
end Go.Proofs.Ytddokdjlmdoebaa
