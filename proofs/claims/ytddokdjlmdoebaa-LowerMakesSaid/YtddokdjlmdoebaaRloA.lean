/- Walks of gimletref11: unary, shift. -/
import Derived.Test.YtddokdjlmdoebaaProg
import Derived.WalkKit
import Derived.WalkSpells
import Derived.WalkLawsBesides
import Derived.Handy
import Derived.Lib.Hide
import Derived.Test.YtddokdjlmdoebaaMLoV
import Derived.Test.YtddokdjlmdoebaaMMem
import Derived.Deep.Cut
set_option linter.unusedVariables false
set_option linter.unusedSimpArgs false
namespace Go.Proofs.Ytddokdjlmdoebaa
open Go.RowKit SetP AstP LowP ParP
/-- The parts of a block's nodes lie within it. -/
def Bnd (L : List Tm) : Prop := ∀ y ∈ L, y.a < (L.length : Int) ∧ y.b < (L.length : Int)
theorem Bnd.una {L : List Tm} (h : Bnd L) (k n : Int) : Bnd (unaT L k n) := by
  intro y hy
  rw [unaT_length]
  unfold unaT at hy
  rcases List.mem_append.1 hy with hy | hy
  · have := h y hy; omega
  · rw [List.mem_singleton.1 hy]; show (L.length : Int) - 1 < _ ∧ (-1 : Int) < _; omega
theorem Bnd.two {p r : List Tm} (hp : Bnd p) (hr : Bnd r) (k : Int) : Bnd (twoT k p r) := by
  intro y hy
  rw [twoT_length]
  unfold twoT at hy
  rcases List.mem_append.1 hy with hy | hy
  · rcases List.mem_append.1 hy with hy | hy
    · have := hp y hy; omega
    · unfold shL at hy
      obtain ⟨z, hz, rfl⟩ := List.mem_map.1 hy
      have := hr z hz
      show shI p.length z.a < _ ∧ shI p.length z.b < _
      unfold shI
      constructor
      · split <;> omega
      · split <;> omega
  · rw [List.mem_singleton.1 hy]; show (p.length : Int) - 1 < _ ∧ (p.length : Int) + r.length - 1 < _; omega
theorem Bnd.join {k : Int} (P : List (List Tm)) (h : ∀ p ∈ P, Bnd p) : Bnd (joinT k P) := by
  induction P with
  | nil => intro y hy; cases hy
  | cons p P ih =>
    cases P with
    | nil => exact h p (by simp)
    | cons q P => exact (h p (by simp)).two (ih fun x hx => h x (by simp [hx])) k
theorem Bnd.lacks {one : List Tm} (h : Bnd one) (n : Nat) : Bnd (lacksT one n) := by
  induction n with
  | zero => exact h.una _ _
  | succ n ih => exact (h.two ih _).una _ _
/-- What a call hands back that makes a term of its own, from base on. -/
def RetT (base : Nat) (L : List Tm) (w : World) (e : Ending) (w' : World) : Prop :=
  ∃ A c, e = .returned (.slice A L.length c) ∧ w'.ownsRow base 47 8 (.slice A L.length c) L.length (flatT L) ∧ Below base w w'
set_option maxRecDepth 100000 in
set_option maxHeartbeats 2000000 in
theorem unary_any (base : Nat) (A : Option Addr) (c : Nat) (L : List Tm) (k n : Int) (w : World) (hb : base ≤ w.heap.size) (hl : L.length ≤ 1000000) (hown : w.ownsRow base 47 8 (.slice A L.length c) L.length (flatT L)) :
    Calls Try.prog 95 #[.slice A L.length c, .int .i64 k, .int .i64 n] w (RetT base (unaT L k n) w) := by
  obtain ⟨i0, hi, hz0, hz1, hz2⟩ := info_parts info_term
  have HI := Lib.hid hi; clear hi
  have HZ0 := Lib.hid hz0; clear hz0
  have HZ1 := Lib.hid hz1; clear hz1
  have HZ2 := Lib.hid hz2; clear hz2
  unfold RetT
  rw [unaT_length]
  have hf : flatT (unaT L k n) = flatT L ++ (#[.int .i64 k, .int .i64 ((L.length : Int) - 1), .int .i64 (-1), .int .i64 n, .int .u64 0, .int .u64 0, .int .u64 0, .int .u64 0] : Array Value).toList := by
    unfold unaT
    rw [flatT_snoc]
    simp [tmCells, tmU, wd_zSet]
  rw [hf]
  generalize flatT L = xs at *
  generalize L.length = N at *
  clear hf
  go_enter Try.func95, Try.ntmps95
  go_wp2_with (at_builtin; go_must (refine wpList_append_elem _ rfl (.tmp 7) (.tmp 14) 31 rfl (base) 47 i0 _ _ _ Try.underlying31 HI.out HZ0.out HZ1.out HZ2.out rfl (by decide) _ _ _ _ rfl hown #[.int .i64 k, .int .i64 ((N : Int) - 1), .int .i64 (-1), .int .i64 n, .int .u64 0, .int .u64 0, .int .u64 0, .int .u64 0] _ rfl (by first | rfl | simp) rfl (by simp [Value.oneCell']) (by unfold maxLen; omega) (by omega) (by first | omega | (simp; omega)) ?_); intro A4 q4 w4 hown4 hbl4)
  go_ret
  exact ⟨A4, q4, rfl, hown4, hbl4⟩
theorem flatT_len8 (L : List Tm) : (flatT L).length = L.length * 8 := by
  unfold flatT
  induction L with
  | nil => rfl
  | cons x L ih => rw [List.flatMap_cons, List.length_append, ih, List.length_cons]; simp; omega
theorem flatT_get8 (L : List Tm) (j f : Nat) (hj : j < L.length) (hf : f < 8) : (flatT L)[j * 8 + f]? = (tmCells (L.getD j tmE))[f]? := by
  unfold flatT
  induction L generalizing j with
  | nil => simp at hj
  | cons x L ih =>
    rw [List.flatMap_cons]
    cases j with
    | zero => rw [Nat.zero_mul, Nat.zero_add, List.getElem?_append_left (by simpa using hf)]; simp
    | succ j =>
      rw [List.getElem?_append_right (by simp; omega)]
      have := ih j (by simpa using hj)
      rw [show (j + 1) * 8 + f - (tmCells x).toList.length = j * 8 + f by simp; omega]
      rw [this]; rfl
theorem shL_take (d : Nat) (L : List Tm) {k : Nat} (h : k < L.length) : shL d (L.take (k + 1)) = shL d (L.take k) ++ [shT d (L.getD k tmE)] := by
  unfold shL
  rw [List.take_add_one, List.getElem?_eq_getElem h, List.getD_eq_getElem?_getD, List.getElem?_eq_getElem h, List.map_append]; rfl
theorem own_lt {w : World} {base n size : Nat} {e : TypeId} {v : Value} {xs : List Value} (h : w.ownsRow base e size v n xs) {k : Nat} (hk : v.ownBlock = some k) : base ≤ k ∧ k < w.heap.size := h.lt k hk
set_option maxRecDepth 100000 in
set_option maxHeartbeats 2000000 in
theorem shift_any (base bl : Nat) (Ao : Option Addr) (co : Nat) (O : List Tm) (Al : Option Addr) (cl : Nat) (L : List Tm) (w : World) (hb : base ≤ w.heap.size) (hl : O.length + L.length ≤ 1000000) (hbd : Bnd L)
    (hown : w.ownsRow base 47 8 (.slice Ao O.length co) O.length (flatT O)) (hL : w.ownsRow bl 47 8 (.slice Al L.length cl) L.length (flatT L)) (hap : Apart (.slice Ao O.length co) (.slice Al L.length cl)) :
    Calls Try.prog 97 #[.slice Ao O.length co, .slice Al L.length cl] w (RetT base (O ++ shL O.length L) w) := by
  obtain ⟨i0, hi, hz0, hz1, hz2⟩ := info_parts info_term
  have HI := Lib.hid hi; clear hi
  have HZ0 := Lib.hid hz0; clear hz0
  have HZ1 := Lib.hid hz1; clear hz1
  have HZ2 := Lib.hid hz2; clear hz2
  unfold RetT
  have hlen : (O ++ shL O.length L).length = O.length + L.length := by rw [List.length_append, shL_length]
  rw [hlen]
  have HBD := Lib.hid hbd
  obtain ⟨N, hN⟩ : ∃ N, O.length = N := ⟨_, rfl⟩
  obtain ⟨M, hM⟩ : ∃ M, L.length = M := ⟨_, rfl⟩
  rw [hN] at hown hap hl ⊢
  rw [hM] at hL hap hl ⊢
  have HN := Lib.hid hN
  have HM := Lib.hid hM
  have HOWN := Lib.hid hown
  have HLL := Lib.hid hL
  have HAP := Lib.hid hap
  clear hN hM hown hL hap hlen hbd
  go_enter Try.func97, Try.ntmps97
  go_wp2
  go_loopw [0, 6] (fun o i wr => ∃ (k : Nat) (A : Option Addr) (c : Nat), k ≤ M ∧ i = .int .i64 k ∧ o = .slice A (N + k) c ∧ wr.ownsRow base 47 8 (.slice A (N + k) c) (N + k) (flatT (O ++ shL N (L.take k))) ∧ wr.ownsRow bl 47 8 (.slice Al M cl) M (flatT L) ∧ Apart (.slice A (N + k) c) (.slice Al M cl) ∧ Below base w wr) (fun _ i _ => M - (intOf i).toNat)
  case atStart => exact ⟨0, Ao, co, Nat.zero_le _, rfl, rfl, by simpa [shL] using HOWN.out, HLL.out, HAP.out, Below.refl _ _⟩
  case round =>
    clear HOWN HLL HAP
    obtain ⟨k, A, c, hk, rfl, rfl, hown, hL, hap, hB⟩ := hrel
    have HB := Lib.hid hB
    have HLL := Lib.hid hL
    have HAP := Lib.hid hap
    clear hB hap hL
    by_cases hlt : k < M
    · have hltL : k < L.length := by rw [HM.out]; exact hlt
      obtain ⟨g, rfl, hgb, hgl, hgc, hcell⟩ := row_cell HLL.out (by omega)
      have hh : ∀ f, f < 8 → wr.cell? ⟨g, k * 8 + f, none⟩ = (tmCells (L.getD k tmE))[f]? := fun f hf => by
        rw [hcell _ (by omega), flatT_get8 L k f hltL hf]
      have hn8 : Tm8 wr g (k * 8) (L.getD k tmE) := ⟨hh 0 (by omega), hh 1 (by omega), hh 2 (by omega), hh 3 (by omega), hh 4 (by omega), hh 5 (by omega), hh 6 (by omega), hh 7 (by omega)⟩
      have hST := Lib.hid (shL_take N L hltL)
      have hin : L.getD k tmE ∈ L := by rw [List.getD_eq_getElem?_getD, List.getElem?_eq_getElem hltL]; exact List.getElem_mem _
      have hbx := HBD.out _ hin
      rw [HM.out] at hbx
      generalize L.getD k tmE = x at *
      obtain ⟨xk, xa, xb, xn, xf⟩ := x
      unfold Tm8 at hn8
      simp only at hbx hn8
      obtain ⟨n0, n1, n2, n3, n4, n5, n6, n7⟩ := hn8
      clear hcell hh hin
      by_cases ha : 0 ≤ xa
      · have da : decide (0 ≤ xa) = true := decide_eq_true ha
        have sa : shI N xa = xa + N := by unfold shI; rw [if_pos ha]
        by_cases hx : 0 ≤ xb
        · have db : decide (0 ≤ xb) = true := decide_eq_true hx
          have sb : shI N xb = xb + N := by unfold shI; rw [if_pos hx]
          have HB2 := Lib.hid (HB.out.alloc (Nat.le_trans hb HB.out.size) (.cells #[.int .i64 xk, .int .i64 (xa + N), .int .i64 (xb + N), .int .i64 xn, .int .u64 (wd xf 0), .int .u64 (wd xf 1), .int .u64 (wd xf 2), .int .u64 (wd xf 3)] 47))
          have HR2 := hown.alloc (.cells #[.int .i64 xk, .int .i64 (xa + N), .int .i64 (xb + N), .int .i64 xn, .int .u64 (wd xf 0), .int .u64 (wd xf 1), .int .u64 (wd xf 2), .int .u64 (wd xf 3)] 47)
          have HL2 := Lib.hid (HLL.out.alloc (.cells #[.int .i64 xk, .int .i64 (xa + N), .int .i64 (xb + N), .int .i64 xn, .int .u64 (wd xf 0), .int .u64 (wd xf 1), .int .u64 (wd xf 2), .int .u64 (wd xf 3)] 47))
          have hW2 : base ≤ (wr.alloc (.cells #[.int .i64 xk, .int .i64 (xa + N), .int .i64 (xb + N), .int .i64 xn, .int .u64 (wd xf 0), .int .u64 (wd xf 1), .int .u64 (wd xf 2), .int .u64 (wd xf 3)] 47)).heap.size := Nat.le_trans hb HB2.out.size
          clear hown HB
          go_wp2_with (at_builtin; go_must (refine wpList_append_elem_at _ rfl (.tmp 36) (.tmp 38) 31 rfl (base) 47 i0 _ _ _ Try.underlying31 HI.out HZ0.out HZ1.out HZ2.out rfl (by decide) _ _ _ _ ?q1 HR2 _ _ ?q2 (by first | rfl | simp) ?q3 ?q4 (by unfold maxLen; omega) (by omega) (by first | omega | (simp; omega)) ?_); (case q1 => rfl); (case q2 => first | rfl | exact slice_at (by simp)); (case q3 => rfl); (case q4 => simp [Value.oneCell']); intro A4 q4 w4 hown4 hbl4 has4)
          obtain ⟨hL4, hap4⟩ := row_aside HL2.out has4 HAP.out
          have HL4 := Lib.hid hL4
          have HAP4 := Lib.hid hap4
          have HB4 := Lib.hid (HB2.out.trans hbl4)
          have H4 := Lib.hid hown4
          clear hL4 hap4 has4 hbl4 hown4 HR2
          go_roundw
          case rel =>
            refine ⟨k + 1, A4, q4, by omega, by go_num, rfl, ?_, HL4.out, HAP4.out, HB4.out⟩
            have hx := H4.out
            rw [hST.out, ← List.append_assoc, flatT_snoc]
            show World.ownsRow _ _ _ _ _ _ (_ ++ (tmCells ⟨xk, shI N xa, shI N xb, xn, xf⟩).toList)
            rw [sa, sb]
            exact hx
          case measure => simp [intOf]; omega
        · have db : decide (0 ≤ xb) = false := decide_eq_false hx
          have sb : shI N xb = xb := by unfold shI; rw [if_neg hx]
          have HB2 := Lib.hid (HB.out.alloc (Nat.le_trans hb HB.out.size) (.cells #[.int .i64 xk, .int .i64 (xa + N), .int .i64 (xb), .int .i64 xn, .int .u64 (wd xf 0), .int .u64 (wd xf 1), .int .u64 (wd xf 2), .int .u64 (wd xf 3)] 47))
          have HR2 := hown.alloc (.cells #[.int .i64 xk, .int .i64 (xa + N), .int .i64 (xb), .int .i64 xn, .int .u64 (wd xf 0), .int .u64 (wd xf 1), .int .u64 (wd xf 2), .int .u64 (wd xf 3)] 47)
          have HL2 := Lib.hid (HLL.out.alloc (.cells #[.int .i64 xk, .int .i64 (xa + N), .int .i64 (xb), .int .i64 xn, .int .u64 (wd xf 0), .int .u64 (wd xf 1), .int .u64 (wd xf 2), .int .u64 (wd xf 3)] 47))
          have hW2 : base ≤ (wr.alloc (.cells #[.int .i64 xk, .int .i64 (xa + N), .int .i64 (xb), .int .i64 xn, .int .u64 (wd xf 0), .int .u64 (wd xf 1), .int .u64 (wd xf 2), .int .u64 (wd xf 3)] 47)).heap.size := Nat.le_trans hb HB2.out.size
          clear hown HB
          go_wp2_with (at_builtin; go_must (refine wpList_append_elem_at _ rfl (.tmp 36) (.tmp 38) 31 rfl (base) 47 i0 _ _ _ Try.underlying31 HI.out HZ0.out HZ1.out HZ2.out rfl (by decide) _ _ _ _ ?q1 HR2 _ _ ?q2 (by first | rfl | simp) ?q3 ?q4 (by unfold maxLen; omega) (by omega) (by first | omega | (simp; omega)) ?_); (case q1 => rfl); (case q2 => first | rfl | exact slice_at (by simp)); (case q3 => rfl); (case q4 => simp [Value.oneCell']); intro A4 q4 w4 hown4 hbl4 has4)
          obtain ⟨hL4, hap4⟩ := row_aside HL2.out has4 HAP.out
          have HL4 := Lib.hid hL4
          have HAP4 := Lib.hid hap4
          have HB4 := Lib.hid (HB2.out.trans hbl4)
          have H4 := Lib.hid hown4
          clear hL4 hap4 has4 hbl4 hown4 HR2
          go_roundw
          case rel =>
            refine ⟨k + 1, A4, q4, by omega, by go_num, rfl, ?_, HL4.out, HAP4.out, HB4.out⟩
            have hx := H4.out
            rw [hST.out, ← List.append_assoc, flatT_snoc]
            show World.ownsRow _ _ _ _ _ _ (_ ++ (tmCells ⟨xk, shI N xa, shI N xb, xn, xf⟩).toList)
            rw [sa, sb]
            exact hx
          case measure => simp [intOf]; omega
      · have da : decide (0 ≤ xa) = false := decide_eq_false ha
        have sa : shI N xa = xa := by unfold shI; rw [if_neg ha]
        by_cases hx : 0 ≤ xb
        · have db : decide (0 ≤ xb) = true := decide_eq_true hx
          have sb : shI N xb = xb + N := by unfold shI; rw [if_pos hx]
          have HB2 := Lib.hid (HB.out.alloc (Nat.le_trans hb HB.out.size) (.cells #[.int .i64 xk, .int .i64 (xa), .int .i64 (xb + N), .int .i64 xn, .int .u64 (wd xf 0), .int .u64 (wd xf 1), .int .u64 (wd xf 2), .int .u64 (wd xf 3)] 47))
          have HR2 := hown.alloc (.cells #[.int .i64 xk, .int .i64 (xa), .int .i64 (xb + N), .int .i64 xn, .int .u64 (wd xf 0), .int .u64 (wd xf 1), .int .u64 (wd xf 2), .int .u64 (wd xf 3)] 47)
          have HL2 := Lib.hid (HLL.out.alloc (.cells #[.int .i64 xk, .int .i64 (xa), .int .i64 (xb + N), .int .i64 xn, .int .u64 (wd xf 0), .int .u64 (wd xf 1), .int .u64 (wd xf 2), .int .u64 (wd xf 3)] 47))
          have hW2 : base ≤ (wr.alloc (.cells #[.int .i64 xk, .int .i64 (xa), .int .i64 (xb + N), .int .i64 xn, .int .u64 (wd xf 0), .int .u64 (wd xf 1), .int .u64 (wd xf 2), .int .u64 (wd xf 3)] 47)).heap.size := Nat.le_trans hb HB2.out.size
          clear hown HB
          go_wp2_with (at_builtin; go_must (refine wpList_append_elem_at _ rfl (.tmp 36) (.tmp 38) 31 rfl (base) 47 i0 _ _ _ Try.underlying31 HI.out HZ0.out HZ1.out HZ2.out rfl (by decide) _ _ _ _ ?q1 HR2 _ _ ?q2 (by first | rfl | simp) ?q3 ?q4 (by unfold maxLen; omega) (by omega) (by first | omega | (simp; omega)) ?_); (case q1 => rfl); (case q2 => first | rfl | exact slice_at (by simp)); (case q3 => rfl); (case q4 => simp [Value.oneCell']); intro A4 q4 w4 hown4 hbl4 has4)
          obtain ⟨hL4, hap4⟩ := row_aside HL2.out has4 HAP.out
          have HL4 := Lib.hid hL4
          have HAP4 := Lib.hid hap4
          have HB4 := Lib.hid (HB2.out.trans hbl4)
          have H4 := Lib.hid hown4
          clear hL4 hap4 has4 hbl4 hown4 HR2
          go_roundw
          case rel =>
            refine ⟨k + 1, A4, q4, by omega, by go_num, rfl, ?_, HL4.out, HAP4.out, HB4.out⟩
            have hx := H4.out
            rw [hST.out, ← List.append_assoc, flatT_snoc]
            show World.ownsRow _ _ _ _ _ _ (_ ++ (tmCells ⟨xk, shI N xa, shI N xb, xn, xf⟩).toList)
            rw [sa, sb]
            exact hx
          case measure => simp [intOf]; omega
        · have db : decide (0 ≤ xb) = false := decide_eq_false hx
          have sb : shI N xb = xb := by unfold shI; rw [if_neg hx]
          have HB2 := Lib.hid (HB.out.alloc (Nat.le_trans hb HB.out.size) (.cells #[.int .i64 xk, .int .i64 (xa), .int .i64 (xb), .int .i64 xn, .int .u64 (wd xf 0), .int .u64 (wd xf 1), .int .u64 (wd xf 2), .int .u64 (wd xf 3)] 47))
          have HR2 := hown.alloc (.cells #[.int .i64 xk, .int .i64 (xa), .int .i64 (xb), .int .i64 xn, .int .u64 (wd xf 0), .int .u64 (wd xf 1), .int .u64 (wd xf 2), .int .u64 (wd xf 3)] 47)
          have HL2 := Lib.hid (HLL.out.alloc (.cells #[.int .i64 xk, .int .i64 (xa), .int .i64 (xb), .int .i64 xn, .int .u64 (wd xf 0), .int .u64 (wd xf 1), .int .u64 (wd xf 2), .int .u64 (wd xf 3)] 47))
          have hW2 : base ≤ (wr.alloc (.cells #[.int .i64 xk, .int .i64 (xa), .int .i64 (xb), .int .i64 xn, .int .u64 (wd xf 0), .int .u64 (wd xf 1), .int .u64 (wd xf 2), .int .u64 (wd xf 3)] 47)).heap.size := Nat.le_trans hb HB2.out.size
          clear hown HB
          go_wp2_with (at_builtin; go_must (refine wpList_append_elem_at _ rfl (.tmp 36) (.tmp 38) 31 rfl (base) 47 i0 _ _ _ Try.underlying31 HI.out HZ0.out HZ1.out HZ2.out rfl (by decide) _ _ _ _ ?q1 HR2 _ _ ?q2 (by first | rfl | simp) ?q3 ?q4 (by unfold maxLen; omega) (by omega) (by first | omega | (simp; omega)) ?_); (case q1 => rfl); (case q2 => first | rfl | exact slice_at (by simp)); (case q3 => rfl); (case q4 => simp [Value.oneCell']); intro A4 q4 w4 hown4 hbl4 has4)
          obtain ⟨hL4, hap4⟩ := row_aside HL2.out has4 HAP.out
          have HL4 := Lib.hid hL4
          have HAP4 := Lib.hid hap4
          have HB4 := Lib.hid (HB2.out.trans hbl4)
          have H4 := Lib.hid hown4
          clear hL4 hap4 has4 hbl4 hown4 HR2
          go_roundw
          case rel =>
            refine ⟨k + 1, A4, q4, by omega, by go_num, rfl, ?_, HL4.out, HAP4.out, HB4.out⟩
            have hx := H4.out
            rw [hST.out, ← List.append_assoc, flatT_snoc]
            show World.ownsRow _ _ _ _ _ _ (_ ++ (tmCells ⟨xk, shI N xa, shI N xb, xn, xf⟩).toList)
            rw [sa, sb]
            exact hx
          case measure => simp [intOf]; omega
    · obtain rfl : k = M := by omega
      have htk : L.take k = L := by rw [← HM.out, List.take_length]
      rw [htk] at hown
      have HO := Lib.hid hown
      clear hown
      go_wp2
      go_ret
      exact ⟨A, c, rfl, HO.out, HB.out⟩
end Go.Proofs.Ytddokdjlmdoebaa
