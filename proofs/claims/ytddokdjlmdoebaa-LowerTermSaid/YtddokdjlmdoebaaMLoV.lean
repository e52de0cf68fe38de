/- Walks of the package term: whether a node has its fields. -/
import Derived.Test.YtddokdjlmdoebaaProg
import Derived.WalkKit
import Derived.WalkSpells
import Derived.WalkLawsBesides
import Derived.Handy
import Derived.Lib.Hide
import Derived.Test.YtddokdjlmdoebaaMLoI
import Derived.Test.YtddokdjlmdoebaaMBset
import Derived.Deep.QuietTactic
import Derived.Lib.QuietBelow
import Derived.BigQuiet
set_option linter.unusedVariables false
set_option linter.unusedSimpArgs false
namespace Go.Proofs.Ytddokdjlmdoebaa
open Go.RowKit SetP AstP LowP ParP
/-- A node of a term has what its kind has, and nothing else. -/
structure FieldsOk (x : Tm) : Prop where
  set : x.kind ≠ 2 → x.set = zSet
  n : x.kind ≠ 7 → x.n = 0
  g : x.kind = 7 → 1 ≤ x.n ∧ x.n ≤ 9
set_option maxRecDepth 100000 in
theorem run_eq_zz (w : World) : (Op.equalIn 10000 41 (.agg #[.int .u64 0, .int .u64 0, .int .u64 0, .int .u64 0]) (.agg #[.int .u64 0, .int .u64 0, .int .u64 0, .int .u64 0])).run Try.prog w = .ok true w := by
  have h := run_eq_set0 w zSet
  have e : same zSet (fun _ => false) = true := by unfold same zSet; simp
  rw [e] at h
  unfold setV at h
  rw [wd_zSet, wd_zSet, wd_zSet, wd_zSet] at h
  exact h
set_option maxRecDepth 100000 in
set_option maxHeartbeats 2000000 in
theorem fields_any (x : Tm) (h : FieldsOk x) (w : World) : Calls Try.prog 102 #[.agg (tmCells x)] w fun e w' => e = .returned (.bool true) ∧ Below w.heap.size w w' := by
  obtain ⟨hs, hn, hg⟩ := h
  obtain ⟨kd, a, b, n, f⟩ := x
  simp only at hs hn hg
  by_cases h2 : kd = 2
  · subst h2
    obtain rfl := hn (by decide)
    clear hs hn hg
    go_enter Try.func102, Try.ntmps102
    go_wp2_with fail
    refine bodyPost_ret (v := .bool true) (by simp [results, Try.results102, go_sem, *]) rfl ⟨rfl, ?_⟩
    (repeat' (first | (with_reducible exact Below.refl _ _) | (with_reducible assumption) | (with_reducible refine Below.alloc ?_ ?_ _) | (with_reducible refine Below.drew ?_) | (with_reducible refine below_set ?_ ?_ _) | (with_reducible refine below_call ?_ ?_ (by assumption)) | (with_reducible exact Below.size (by assumption)) | omega | go_size))
  · obtain rfl := hs h2
    have hk2 : (kd == 2) = false := beq_eq_false_iff_ne.2 h2
    have hk3 : (kd != 2) = true := by simp [bne, hk2]
    by_cases h7 : kd = 7
    · subst h7
      obtain ⟨g1, g2⟩ := hg rfl
      have hd1 : decide (1 ≤ n) = true := decide_eq_true g1
      have hd2 : decide (n ≤ 9) = true := decide_eq_true g2
      clear hs hn hg h2 hk2 hk3 
      simp only [tmCells, wd_zSet]
      go_enter Try.func102, Try.ntmps102
      go_wp2_with fail
      rw [run_eq_zz]
      simp only [Result.andThen]
      rw [Oper.upon_value]
      go_wp2
      refine bodyPost_ret (v := .bool true) (by simp [results, Try.results102, go_sem, *]) rfl ⟨rfl, ?_⟩
      (repeat' (first | (with_reducible exact Below.refl _ _) | (with_reducible assumption) | (with_reducible refine Below.alloc ?_ ?_ _) | (with_reducible refine Below.drew ?_) | (with_reducible refine below_set ?_ ?_ _) | (with_reducible refine below_call ?_ ?_ (by assumption)) | (with_reducible exact Below.size (by assumption)) | omega | go_size))
    · obtain rfl := hn h7
      have hk7 : (kd == 7) = false := beq_eq_false_iff_ne.2 h7
      clear hs hn hg
      simp only [tmCells, wd_zSet]
      go_enter Try.func102, Try.ntmps102
      go_wp2_with fail
      rw [run_eq_zz]
      simp only [Result.andThen]
      rw [Oper.upon_value]
      go_wp2
      refine bodyPost_ret (v := .bool true) (by simp [results, Try.results102, go_sem, *]) rfl ⟨rfl, ?_⟩
      (repeat' (first | (with_reducible exact Below.refl _ _) | (with_reducible assumption) | (with_reducible refine Below.alloc ?_ ?_ _) | (with_reducible refine Below.drew ?_) | (with_reducible refine below_set ?_ ?_ _) | (with_reducible refine below_call ?_ ?_ (by assumption)) | (with_reducible exact Below.size (by assumption)) | omega | go_size))
end Go.Proofs.Ytddokdjlmdoebaa

/- Walks of the package term: whether a Group is in another one of its number. -/
namespace Go.Proofs.Ytddokdjlmdoebaa
open Go.RowKit SetP AstP LowP ParP
/-- A node of a term, in memory. -/
def Tm8 (w : World) (b o : Nat) (x : Tm) : Prop :=
  w.cell? ⟨b, o, none⟩ = some (.int .i64 x.kind) ∧ w.cell? ⟨b, o + 1, none⟩ = some (.int .i64 x.a) ∧ w.cell? ⟨b, o + 2, none⟩ = some (.int .i64 x.b) ∧ w.cell? ⟨b, o + 3, none⟩ = some (.int .i64 x.n) ∧
  w.cell? ⟨b, o + 4, none⟩ = some (.int .u64 (wd x.set 0)) ∧ w.cell? ⟨b, o + 5, none⟩ = some (.int .u64 (wd x.set 1)) ∧ w.cell? ⟨b, o + 6, none⟩ = some (.int .u64 (wd x.set 2)) ∧ w.cell? ⟨b, o + 7, none⟩ = some (.int .u64 (wd x.set 3))
/-- A term, as a slice of whatever make, in a block below B. -/
def TermAt (w : World) (B : Nat) (A : Option Addr) (L : List Tm) : Prop :=
  L.length ≤ 1000000 ∧ (L.length = 0 ∨ ∃ b off, A = some ⟨b, off, none⟩ ∧ b < B ∧ ∀ j, j < L.length → Tm8 w b (off + j * 8) (L.getD j tmE))
theorem Tm8.keep {w w' : World} {b o : Nat} {x : Tm} (h : Tm8 w b o x) (hk : ∀ i, w'.cell? ⟨b, i, none⟩ = w.cell? ⟨b, i, none⟩) : Tm8 w' b o x := by
  obtain ⟨h0, h1, h2, h3, h4, h5, h6, h7⟩ := h
  exact ⟨(hk _).trans h0, (hk _).trans h1, (hk _).trans h2, (hk _).trans h3, (hk _).trans h4, (hk _).trans h5, (hk _).trans h6, (hk _).trans h7⟩
theorem TermAt.below {w w' : World} {B : Nat} {A : Option Addr} {L : List Tm} (h : TermAt w B A L) (hb : Below B w w') : TermAt w' B A L := by
  refine ⟨h.1, ?_⟩
  rcases h.2 with h | ⟨b, off, rfl, hB, hc⟩
  · exact .inl h
  · exact .inr ⟨b, off, rfl, hB, fun j hj => (hc j hj).keep fun i => hb.cell (p := ⟨b, i, none⟩) hB⟩
theorem TermAt.more {w : World} {B B' : Nat} {A : Option Addr} {L : List Tm} (h : TermAt w B A L) (hB : B ≤ B') : TermAt w B' A L := by
  refine ⟨h.1, ?_⟩
  rcases h.2 with h | ⟨b, off, rfl, hb, hc⟩
  · exact .inl h
  · exact .inr ⟨b, off, rfl, Nat.lt_of_lt_of_le hb hB, hc⟩
theorem TermAt.node {w : World} {B : Nat} {A : Option Addr} {L : List Tm} (h : TermAt w B A L) {j : Nat} (hj : j < L.length) : ∃ b off, A = some ⟨b, off, none⟩ ∧ b < B ∧ Tm8 w b (off + j * 8) (L.getD j tmE) := by
  rcases h.2 with h | ⟨b, off, rfl, hb, hc⟩
  · omega
  · exact ⟨b, off, rfl, hb, hc j hj⟩
set_option maxRecDepth 100000 in
set_option maxHeartbeats 2000000 in
theorem again_any (x : Tm) (A : Option Addr) (c : Nat) (L : List Tm) (w : World) (hL : TermAt w w.heap.size A L) (h : x.kind = 7 → ∀ y ∈ L, y.kind = 7 → y.n ≠ x.n) :
    Calls Try.prog 103 #[.agg (tmCells x), .slice A L.length c] w fun e w' => e = .returned (.bool false) ∧ Below w.heap.size w w' := by
  have hlen := hL.1
  have HL := Lib.hid (hL.below ((Below.refl w.heap.size w).alloc (Nat.le_refl _) (.cells (tmCells x) 47)))
  obtain ⟨N, hN⟩ : ∃ N, L.length = N := ⟨_, rfl⟩
  rw [hN] at hlen ⊢
  have HN := Lib.hid hN
  have HH := Lib.hid h
  have o0 : Slab (w.alloc (.cells (tmCells x) 47)) w.heap.size (tmCells x) 47 := Slab.new _ _ _
  have O0 := Lib.hid o0
  have HB0 := Lib.hid ((Below.refl w.heap.size w).alloc (Nat.le_refl _) (.cells (tmCells x) 47))
  clear hL hN h o0
  obtain ⟨xk, xa, xb, xn, xf⟩ := x
  go_enter Try.func103, Try.ntmps103
  go_wp2_with fail
  go_loopw [9] (fun i wr => ∃ k : Nat, k ≤ N ∧ i = .int .i64 k ∧ Below (w.alloc (.cells (tmCells ⟨xk, xa, xb, xn, xf⟩) 47)).heap.size (w.alloc (.cells (tmCells ⟨xk, xa, xb, xn, xf⟩) 47)) wr) (fun i _ => N - (intOf i).toNat)
  case atStart => exact ⟨0, Nat.zero_le _, rfl, Below.refl _ _⟩
  case round =>
    obtain ⟨k, hk, rfl, hX⟩ := hrel
    have HX := Lib.hid hX
    have hsz := hX.size
    have HBB := Lib.hid (HB0.out.trans (hX.mono HB0.out.size))
    obtain ⟨c0, f0⟩ := (O0.out.call hX).facts
    clear hX
    by_cases hlt : k < N
    · have hlt2 : k < L.length := by rw [HN.out]; exact hlt
      obtain ⟨b, off, rfl, hb, hn8⟩ := (HL.out.below (HX.out.mono HB0.out.size)).node hlt2
      have hin : L.getD k tmE ∈ L := by rw [List.getD_eq_getElem?_getD, List.getElem?_eq_getElem hlt2]; exact List.getElem_mem _
      have hy := fun h7 => HH.out h7 _ hin
      generalize L.getD k tmE = y at *
      obtain ⟨yk, ya, yb, yn, yf⟩ := y
      unfold Tm8 at hn8
      obtain ⟨n0, n1, n2, n3, n4, n5, n6, n7⟩ := hn8
      simp only at hy n0 n1 n2 n3 n4 n5 n6 n7
      have hbw : b < wr.heap.size := by simp at hsz; omega
      have hwr : w.heap.size < wr.heap.size := by simp at hsz; omega
      have hX2 := HX.out.alloc HX.out.size (.cells (tmCells ⟨yk, ya, yb, yn, yf⟩) 47)
      have HX2 := Lib.hid hX2
      have hcs : ∀ v : Bool, (xk == 7 && yk == 7 && yn == xn) = v → v = false := by
        intro v hv
        cases v with
        | false => rfl
        | true =>
          simp only [Bool.and_eq_true, beq_iff_eq] at hv
          exact absurd hv.2 (hy hv.1.1 hv.1.2)
      have hcc := hcs _ rfl
      clear hcs hy hin hX2
      cases e1 : (xk == 7) with
      | false =>
        clear hcc
        go_wp2_with fail
        go_roundw
        case rel => exact ⟨k + 1, by omega, by go_num, HX2.out⟩
        case measure => simp [intOf]; omega
      | true =>
        cases e2 : (yk == 7) with
        | false =>
          clear hcc
          go_wp2_with fail
          go_roundw
          case rel => exact ⟨k + 1, by omega, by go_num, HX2.out⟩
          case measure => simp [intOf]; omega
        | true =>
          have e3 : (yn == xn) = false := by rw [e1, e2] at hcc; simpa using hcc
          clear hcc
          go_wp2_with fail
          go_roundw
          case rel => exact ⟨k + 1, by omega, by go_num, HX2.out⟩
          case measure => simp [intOf]; omega
    · obtain rfl : k = N := by omega
      go_wp2_with fail
      refine bodyPost_ret (v := .bool false) (by simp [results, Try.results103, go_sem, *]) rfl ⟨rfl, ?_⟩
      exact HBB.out
end Go.Proofs.Ytddokdjlmdoebaa

/- Walks of the package term: the first node of what a node is. -/
namespace Go.Proofs.Ytddokdjlmdoebaa
open Go.RowKit SetP AstP LowP ParP
/-- What node i is begins with node v, by those of the nodes ahead. -/
inductive LowOk (x : Tm) (i : Nat) (ah : List Nat) (v : Nat) : Prop where
  | leaf (hk : x.kind = 1 ∨ x.kind = 2) (ha : x.a = -1) (hb : x.b = -1) (hv : v = i)
  | two (hk : x.kind = 3 ∨ x.kind = 4) (p q : Nat) (hi : i = p + 1) (hb : x.b = p) (hp : ah.getD p 0 = q + 1) (ha : x.a = q) (hq : q < ah.length) (hv : v = ah.getD q 0)
  | one (hk : x.kind = 5 ∨ x.kind = 6 ∨ x.kind = 7 ∨ x.kind = 8) (p : Nat) (hi : i = p + 1) (hb : x.b = -1) (ha : x.a = p) (hv : v = ah.getD p 0)
set_option maxRecDepth 100000 in
set_option maxHeartbeats 2000000 in
theorem low_leaf (A : Option Addr) (c : Nat) (L : List Tm) (V2 : Value) (i : Nat) (x : Tm) (hi : i < L.length) (hx : L.getD i tmE = x) (w : World) (hL : TermAt w w.heap.size A L)
    (hk : x.kind = 1 ∨ x.kind = 2) (ha : x.a = -1) (hb : x.b = -1) : Calls Try.prog 101 #[.slice A L.length c, V2, .int .i64 i] w fun e w' => e = .returned (.int .i64 i) ∧ Below w.heap.size w w' := by
  obtain ⟨b, off, rfl, hbb, hn8⟩ := hL.node hi
  unfold Tm8 at hn8
  rw [hx] at hn8
  obtain ⟨n0, n1, n2, n3, n4, n5, n6, n7⟩ := hn8
  obtain ⟨N, hN⟩ : ∃ N, L.length = N := ⟨_, rfl⟩
  have hlen := hL.1
  rw [hN] at hi hlen ⊢
  have HB0 := Lib.hid ((Below.refl w.heap.size w).alloc (Nat.le_refl _) (.cells (tmCells x) 47))
  clear hN hx hL
  obtain ⟨xk, xa, xb, xn, xf⟩ := x
  simp only at hk ha hb
  subst ha hb
  rcases hk with rfl | rfl
  all_goals
    go_enter Try.func101, Try.ntmps101
    go_wp2_with fail
    go_ret
    exact ⟨rfl, HB0.out⟩
set_option maxRecDepth 100000 in
set_option maxHeartbeats 2000000 in
theorem low_one (A A' : Option Addr) (c c' : Nat) (L : List Tm) (ah : List Nat) (p : Nat) (x : Tm) (hi : p + 1 < L.length) (hx : L.getD (p + 1) tmE = x) (w : World) (hL : TermAt w w.heap.size A L) (hA : IntsAt w w.heap.size A' ah) (hl : ah.length = p + 1)
    (hk : x.kind = 5 ∨ x.kind = 6 ∨ x.kind = 7 ∨ x.kind = 8) (ha : x.a = p) (hb : x.b = -1) : Calls Try.prog 101 #[.slice A L.length c, .slice A' (p + 1) c', .int .i64 ((p : Int) + 1)] w fun e w' => e = .returned (.int .i64 (ah.getD p 0 : Nat)) ∧ Below w.heap.size w w' := by
  obtain ⟨b2, off2, rfl, hb2, hc2⟩ := hA.at_ (j := p) (by omega)
  obtain ⟨b, off, rfl, hbb, hn8⟩ := hL.node hi
  unfold Tm8 at hn8
  rw [hx] at hn8
  obtain ⟨n0, n1, n2, n3, n4, n5, n6, n7⟩ := hn8
  obtain ⟨N, hN⟩ : ∃ N, L.length = N := ⟨_, rfl⟩
  have hlen := hL.1
  rw [hN] at hi hlen ⊢
  have HB0 := Lib.hid ((Below.refl w.heap.size w).alloc (Nat.le_refl _) (.cells (tmCells x) 47))
  clear hN hx hL
  obtain ⟨xk, xa, xb, xn, xf⟩ := x
  simp only at hk ha hb
  subst ha hb
  generalize ah.getD p 0 = v at *
  clear hA hl
  rcases hk with rfl | rfl | rfl | rfl
  all_goals
    go_enter Try.func101, Try.ntmps101
    go_wp2_with fail
    go_ret
    exact ⟨rfl, HB0.out⟩
set_option maxRecDepth 100000 in
set_option maxHeartbeats 2000000 in
theorem low_two (A A' : Option Addr) (c c' : Nat) (L : List Tm) (ah : List Nat) (p q : Nat) (x : Tm) (hi : p + 1 < L.length) (hx : L.getD (p + 1) tmE = x) (w : World) (hL : TermAt w w.heap.size A L) (hA : IntsAt w w.heap.size A' ah) (hl : ah.length = p + 1)
    (hk : x.kind = 3 ∨ x.kind = 4) (ha : x.a = q) (hb : x.b = p) (hp : ah.getD p 0 = q + 1) (hq : q < ah.length) : Calls Try.prog 101 #[.slice A L.length c, .slice A' (p + 1) c', .int .i64 ((p : Int) + 1)] w fun e w' => e = .returned (.int .i64 (ah.getD q 0 : Nat)) ∧ Below w.heap.size w w' := by
  have hA2 := hA.at_ (j := q) hq
  obtain ⟨b2, off2, rfl, hb2, hc2⟩ := hA.at_ (j := p) (by omega)
  obtain ⟨b3, off3, he3, hb3, hc3⟩ := hA2
  have e1 : b3 = b2 ∧ off3 = off2 := by cases he3; exact ⟨rfl, rfl⟩
  obtain ⟨rfl, rfl⟩ := e1
  clear he3
  rw [hp] at hc2
  obtain ⟨b, off, rfl, hbb, hn8⟩ := hL.node hi
  unfold Tm8 at hn8
  rw [hx] at hn8
  obtain ⟨n0, n1, n2, n3, n4, n5, n6, n7⟩ := hn8
  obtain ⟨N, hN⟩ : ∃ N, L.length = N := ⟨_, rfl⟩
  have hlen := hL.1
  rw [hN] at hi hlen ⊢
  have HB0 := Lib.hid ((Below.refl w.heap.size w).alloc (Nat.le_refl _) (.cells (tmCells x) 47))
  clear hN hx hL
  obtain ⟨xk, xa, xb, xn, xf⟩ := x
  simp only at hk ha hb
  subst ha hb
  generalize ah.getD q 0 = v at *
  have hqp : q < p + 1 := by omega
  have hc2' : w.cell? ⟨b3, off3 + p, none⟩ = some (.int .i64 ((q : Int) + 1)) := hc2
  clear hA hl hp hq hc2
  rcases hk with rfl | rfl
  all_goals
    go_enter Try.func101, Try.ntmps101
    go_wp2_with fail
    go_quiet (fail)
    go_wp2_with fail
    go_ret
    first
    | exact ⟨rfl, HB0.out⟩
    | exact ⟨rfl, HB0.out.drew⟩
    | exact ⟨rfl, below_drewN HB0.out _⟩
end Go.Proofs.Ytddokdjlmdoebaa

/- Walks of the package term: Low and Right, of a term. -/
namespace Go.Proofs.Ytddokdjlmdoebaa
open Go.RowKit SetP AstP LowP ParP Go.Sort
def leavesN (L : List Tm) (k : Nat) : Nat := ((L.take k).filter fun y => y.kind == 2).length
theorem leavesN_succ (L : List Tm) {k : Nat} (h : k < L.length) : leavesN L (k + 1) = if (L.getD k tmE).kind == 2 then leavesN L k + 1 else leavesN L k := by
  unfold leavesN
  rw [List.take_add_one, List.getElem?_eq_getElem h, List.filter_append, List.length_append, List.getD_eq_getElem?_getD, List.getElem?_eq_getElem h]
  simp only [Option.toList_some, Option.getD_some, List.filter_cons, List.filter_nil]
  split <;> simp
theorem leavesN_le (L : List Tm) (k : Nat) : leavesN L k ≤ k := by
  unfold leavesN
  exact Nat.le_trans (List.length_filter_le _ _) (by rw [List.length_take]; omega)
/-- A term, with the first nodes of what its nodes are. -/
structure GoodT (L : List Tm) (lo : List Nat) : Prop where
  len : lo.length = L.length
  pos : 0 < L.length
  le : L.length ≤ 400
  low : ∀ i, i < L.length → LowOk (L.getD i tmE) i (lo.take i) (lo.getD i 0)
  fld : ∀ i, i < L.length → FieldsOk (L.getD i tmE)
  dn : ∀ i, i < L.length → lo.getD i 0 ≤ i
  ag : ∀ i, i < L.length → (L.getD i tmE).kind = 7 → ∀ y ∈ (L.take i).drop (lo.getD i 0), y.kind = 7 → y.n ≠ (L.getD i tmE).n
  lv : leavesN L L.length ≤ 64
  top : lo.getD (L.length - 1) 0 = 0
set_option maxRecDepth 100000 in
theorem low_any (A A' : Option Addr) (c c' : Nat) (L : List Tm) (ah : List Nat) (i v : Nat) (x : Tm) (hi : i < L.length) (hx : L.getD i tmE = x) (w : World) (hL : TermAt w w.heap.size A L) (hA : IntsAt w w.heap.size A' ah) (hl : ah.length = i)
    (h : LowOk x i ah v) : Calls Try.prog 101 #[.slice A L.length c, .slice A' i c', .int .i64 i] w fun e w' => e = .returned (.int .i64 v) ∧ Below w.heap.size w w' := by
  cases h with
  | leaf hk ha hb hv => rw [hv]; exact low_leaf A c L _ i x hi hx w hL hk ha hb
  | two hk p q hi2 hb hp ha hq hv => subst hi2; rw [hv]; exact low_two A A' c c' L ah p q x hi hx w hL hA hl hk ha hb hp hq
  | one hk p hi2 hb ha hv => subst hi2; rw [hv]; exact low_one A A' c c' L ah p x hi hx w hL hA hl hk ha hb
theorem TermAt.cut {w : World} {B b off : Nat} {L : List Tm} (h : TermAt w B (some ⟨b, off, none⟩) L) (p i : Nat) (hi : i ≤ L.length) : TermAt w B (some ⟨b, off + p * 8, none⟩) ((L.take i).drop p) := by
  have hl : ((L.take i).drop p).length = i - p := by rw [List.length_drop, List.length_take]; omega
  refine ⟨by rw [hl]; have := h.1; omega, ?_⟩
  rcases h.2 with h0 | ⟨b', off', he, hB, hc⟩
  · left; omega
  · cases he
    refine .inr ⟨b, off + p * 8, rfl, hB, fun j hj => ?_⟩
    rw [hl] at hj
    have := hc (p + j) (by omega)
    have e : ((L.take i).drop p).getD j tmE = L.getD (p + j) tmE := by
      rw [List.getD_eq_getElem?_getD, List.getD_eq_getElem?_getD, List.getElem?_drop, List.getElem?_take_of_lt (by omega)]
    rw [e, show off + p * 8 + j * 8 = off + (p + j) * 8 by omega]
    exact this
set_option maxRecDepth 100000 in
set_option maxHeartbeats 2000000 in
theorem tlow_any (A : Option Addr) (c : Nat) (L : List Tm) (lo : List Nat) (w : World) (hL : TermAt w w.heap.size A L) (hc : L.length ≤ c) (hG : GoodT L lo) :
    Calls Try.prog 61 #[.slice A L.length c] w (RetRow 3 1 L.length (ints lo) w) := by
  obtain ⟨i0, hi, hz0, hz1, hz2⟩ := info_parts info_int
  have HI := Lib.hid hi; clear hi
  have HZ0 := Lib.hid hz0; clear hz0
  have HZ1 := Lib.hid hz1; clear hz1
  have HZ2 := Lib.hid hz2; clear hz2
  have HG := Lib.hid hG
  have HL := Lib.hid hL
  obtain ⟨N, hN⟩ : ∃ N, L.length = N := ⟨_, rfl⟩
  have hle := hG.le
  have hpos := hG.pos
  rw [hN] at hle hpos hc ⊢
  have HN := Lib.hid hN
  have hn0 : ((N : Int) == 0) = false := beq_eq_false_iff_ne.2 (by omega)
  have hn1 : decide (400 < (N : Int)) = false := decide_eq_false (by omega)
  clear hG hL hN
  go_enter Try.func61, Try.ntmps61
  go_wp2_with fail
  go_loopw [3, 4, 18] (fun a l i wr => ∃ (k : Nat) (A' : Option Addr) (c' : Nat), k ≤ N ∧ i = .int .i64 k ∧ a = .slice A' k c' ∧ l = .int .i64 (leavesN L k : Nat) ∧ wr.ownsRow w.heap.size 3 1 (.slice A' k c') k (ints (lo.take k)) ∧ Below w.heap.size w wr) (fun _ _ i _ => N - (intOf i).toNat)
  case atStart => exact ⟨0, none, 0, Nat.zero_le _, rfl, rfl, rfl, World.ownsRow_nil _ _ _ _, Below.refl _ _⟩
  case round =>
    obtain ⟨k, A', c', hk, rfl, rfl, rfl, hown, hX⟩ := hrel
    have HX := Lib.hid hX
    have hsz := hX.size
    clear hX
    have hlv := leavesN_le L k
    by_cases hlt : k < N
    · have hltL : k < L.length := by rw [HN.out]; exact hlt
      obtain ⟨b, off, rfl, hb, hn8⟩ := (HL.out.below HX.out).node hltL
      have hbw : b < wr.heap.size := by omega
      have HX2 := Lib.hid (HX.out.alloc hsz (.cells (tmCells (L.getD k tmE)) 47))
      have hrow2 : (wr.alloc (.cells (tmCells (L.getD k tmE)) 47)).ownsRow w.heap.size 3 1 (.slice A' k c') k (ints (lo.take k)) := hown.alloc _
      have hlo : (lo.take k).length = k := by rw [List.length_take, HG.out.len, HN.out]; omega
      have CL := low_any (some ⟨b, off, none⟩) A' c c' L (lo.take k) k (lo.getD k 0) _ hltL rfl _ ((HL.out.below HX2.out).more HX2.out.size) (row_at0 hrow2 (by omega)) hlo (HG.out.low k hltL)
      rw [HN.out] at CL
      have oX : Slab (wr.alloc (.cells (tmCells (L.getD k tmE)) 47)) wr.heap.size (tmCells (L.getD k tmE)) 47 := Slab.new _ _ _
      have OX := Lib.hid oX
      have HR2 := Lib.hid hrow2
      have HF := Lib.hid (HG.out.fld k hltL)
      have HA := Lib.hid (HG.out.ag k hltL)
      have hdn := HG.out.dn k hltL
      have HS := Lib.hid (leavesN_succ L hltL)
      have HTK : Hid (ints (lo.take (k + 1)) = ints (lo.take k) ++ [Value.int .i64 ((lo.getD k 0 : Nat) : Int)]) := Lib.hid (by
        rw [take_snoc (by rw [HG.out.len]; exact hltL)]; simp)
      generalize lo.getD k 0 = at_ at *
      generalize L.getD k tmE = x at *
      unfold Tm8 at hn8
      obtain ⟨n0, n1, n2, n3, n4, n5, n6, n7⟩ := hn8
      clear oX hrow2 hown hlo
      go_wp2_with fail
      refine CL.mono ?_
      rintro e3 w3 ⟨rfl, hb3⟩
      have HB3 := Lib.hid (below_then HX2.out hb3)
      have hrow3 := row_call HR2.out hb3
      have o3 := OX.out.call hb3
      have CF := fields_any x HF.out
      have ht3 := (HL.out.below HB3.out).cut at_ k (by rw [HN.out]; omega)
      have hcl : ((L.take k).drop at_).length = k - at_ := by rw [List.length_drop, List.length_take, HN.out]; omega
      have CA := fun w9 (h9 : TermAt w9 w9.heap.size (some ⟨b, off + at_ * 8, none⟩) ((L.take k).drop at_)) => again_any x (some ⟨b, off + at_ * 8, none⟩) (c - at_) _ w9 h9 HA.out
      rw [hcl] at CA
      have CA2 := fun d os => CA (grow (redrawn w3 d) os) ((ht3.below (below_regrown w3 d os |>.mono HB3.out.size)).more (Nat.le_trans HB3.out.size (below_regrown w3 d os).size))
      have O3 := Lib.hid o3
      obtain ⟨xk, xa, xb, xn, xf⟩ := x
      have y0 : ∀ d os, (grow (redrawn w3 d) os).cell? ⟨wr.heap.size, 0, none⟩ = some (.int .i64 xk) := fun d os => (O3.out.below (below_regrown _ d os) O3.out.lt).cell 0
      have y1 : ∀ d os, (grow (redrawn w3 d) os).cell? ⟨wr.heap.size, 1, none⟩ = some (.int .i64 xa) := fun d os => (O3.out.below (below_regrown _ d os) O3.out.lt).cell 1
      have y2 : ∀ d os, (grow (redrawn w3 d) os).cell? ⟨wr.heap.size, 2, none⟩ = some (.int .i64 xb) := fun d os => (O3.out.below (below_regrown _ d os) O3.out.lt).cell 2
      have y3 : ∀ d os, (grow (redrawn w3 d) os).cell? ⟨wr.heap.size, 3, none⟩ = some (.int .i64 xn) := fun d os => (O3.out.below (below_regrown _ d os) O3.out.lt).cell 3
      have y4 : ∀ d os, (grow (redrawn w3 d) os).cell? ⟨wr.heap.size, 4, none⟩ = some (.int .u64 (wd xf 0)) := fun d os => (O3.out.below (below_regrown _ d os) O3.out.lt).cell 4
      have y5 : ∀ d os, (grow (redrawn w3 d) os).cell? ⟨wr.heap.size, 5, none⟩ = some (.int .u64 (wd xf 1)) := fun d os => (O3.out.below (below_regrown _ d os) O3.out.lt).cell 5
      have y6 : ∀ d os, (grow (redrawn w3 d) os).cell? ⟨wr.heap.size, 6, none⟩ = some (.int .u64 (wd xf 2)) := fun d os => (O3.out.below (below_regrown _ d os) O3.out.lt).cell 6
      have y7 : ∀ d os, (grow (redrawn w3 d) os).cell? ⟨wr.heap.size, 7, none⟩ = some (.int .u64 (wd xf 3)) := fun d os => (O3.out.below (below_regrown _ d os) O3.out.lt).cell 7
      have hkc : k ≤ c := by omega
      have hatc : at_ ≤ c := by omega
      have hca : ¬ c = at_ := by omega
      have hat0 : decide ((at_ : Int) < 0) = false := decide_eq_false (by omega)
      clear CL hb3 CA o3 ht3 n0 n1 n2 n3 n4 n5 n6 n7
      go_wp2_with fail
      refine wp_region_quiet_below (by kernel_rfl) (by kernel_rfl) ?_
      repeat (first | go_big_quiet_step ((first | (go_at_call 102; exact Calls.regrown_of (CF _)) | (go_at_call 103; exact Calls.regrown_of (CA2 _ _)))) | quiet_step ((first | (go_at_call 102; exact Calls.regrown_of (CF _)) | (go_at_call 103; exact Calls.regrown_of (CA2 _ _)))))
      refine wpQuiet_nil ?_
      intro _ hw'
      obtain ⟨⟨qd, qos⟩, hw''⟩ := hw'
      subst hw''
      have hbW := below_regrown w3 qd qos
      have HB9 := Lib.hid (HB3.out.trans (hbW.mono HB3.out.size))
      have hrow9 := row_call hrow3 hbW
      have o9 := O3.out.call hbW
      generalize grow (redrawn w3 qd) qos = w9 at *
      obtain ⟨c9, f9⟩ := o9.facts
      have hsz9 := HB9.out.size
      have hs9 := HS.out
      clear hbW y0 y1 y2 y3 y4 y5 y6 y7 CA2 CF hrow3 o9
      cases e2 : (xk == 2) with
      | true =>
        rw [e2, if_pos rfl] at hs9
        have HS9 := Lib.hid hs9
        clear hs9
        go_wp2_with (at_builtin; go_must (refine wpList_append_elem _ rfl (.tmp 47) (.tmp 49) 76 rfl (w.heap.size) 3 i0 _ _ _ Try.underlying76 HI.out HZ0.out HZ1.out HZ2.out rfl (by decide) _ _ _ _ rfl hrow9 #[.int .i64 (at_ : Nat)] _ rfl (by first | rfl | simp) rfl (by simp [Value.oneCell']) (by unfold maxLen; omega) (by omega) (by first | omega | (simp; omega)) ?_); intro A4 q4 w4 hown4 hbl4)
        go_roundw
        case rel => exact ⟨k + 1, A4, q4, by omega, by go_num, rfl, by rw [HS9.out]; go_num, by rw [HTK.out]; exact hown4, HB9.out.trans hbl4⟩
        case measure => simp [intOf]; omega
      | false =>
        rw [e2, if_neg (by decide)] at hs9
        have HS9 := Lib.hid hs9
        clear hs9
        go_wp2_with (at_builtin; go_must (refine wpList_append_elem _ rfl (.tmp 47) (.tmp 49) 76 rfl (w.heap.size) 3 i0 _ _ _ Try.underlying76 HI.out HZ0.out HZ1.out HZ2.out rfl (by decide) _ _ _ _ rfl hrow9 #[.int .i64 (at_ : Nat)] _ rfl (by first | rfl | simp) rfl (by simp [Value.oneCell']) (by unfold maxLen; omega) (by omega) (by first | omega | (simp; omega)) ?_); intro A4 q4 w4 hown4 hbl4)
        go_roundw
        case rel => exact ⟨k + 1, A4, q4, by omega, by go_num, rfl, by rw [HS9.out], by rw [HTK.out]; exact hown4, HB9.out.trans hbl4⟩
        case measure => simp [intOf]; omega
    · obtain rfl : k = N := by omega
      obtain ⟨r, hr⟩ : ∃ r, k = r + 1 := ⟨k - 1, by omega⟩
      have hlk : lo.take k = lo := by rw [← HN.out, ← HG.out.len, List.take_length]
      rw [hlk] at hown
      obtain ⟨gk, rfl, hgb, hgl, hgc, hcell⟩ := row_cell hown (by omega)
      have hx := hcell r (by omega)
      have htop := HG.out.top
      rw [HN.out, show k - 1 = r by omega] at htop
      have hget : (ints lo)[r]? = some (.int .i64 0) := by
        rw [List.getElem?_map, List.getElem?_eq_getElem (by rw [HG.out.len, HN.out]; omega)]
        rw [List.getD_eq_getElem?_getD, List.getElem?_eq_getElem (by rw [HG.out.len, HN.out]; omega)] at htop
        simp only [Option.getD_some] at htop
        rw [Option.map_some, htop]; rfl
      rw [hget] at hx
      have hlv64 := HG.out.lv
      rw [HN.out] at hlv64
      have hd64 : decide (64 < ((leavesN L k : Nat) : Int)) = false := decide_eq_false (by omega)
      have x1 : (k : Int) - 1 = (r : Int) := by omega
      have hrk2 : r < k := by omega
      have HOWN := Lib.hid hown
      clear hcell hget htop hlk hr hlt hown
      go_wp2_with fail
      go_ret
      exact ⟨_, _, rfl, HOWN.out, HX.out⟩
set_option maxRecDepth 100000 in
set_option maxHeartbeats 2000000 in
theorem tright_any (A : Option Addr) (c : Nat) (L : List Tm) (lo : List Nat) (w : World) (hL : TermAt w w.heap.size A L) (hc : L.length ≤ c) (hG : GoodT L lo) :
    Calls Try.prog 26 #[.slice A L.length c] w fun e w' => e = .returned (.bool true) ∧ Below w.heap.size w w' := by
  have C := tlow_any A c L lo w hL hc hG
  have hpos := hG.pos
  generalize L.length = N at *
  have hd : decide (0 < (N : Int)) = true := decide_eq_true (by omega)
  clear hL hG
  go_enter Try.func26, Try.ntmps26
  go_wp2_with fail
  refine C.mono ?_
  rintro e1 w1 ⟨A1, c1, rfl, hown, hb1⟩
  clear C hown
  go_wp2_with fail
  refine bodyPost_ret (v := .bool true) (by simp [results, Try.results26, go_sem, *]) rfl ⟨rfl, ?_⟩
  exact hb1
end Go.Proofs.Ytddokdjlmdoebaa
