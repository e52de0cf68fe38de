/- ParseRight, walked. -/
import Derived.Test.YtddokdjlmdoebaaProg
import Derived.WalkKit
import Derived.WalkSpells
import Derived.WalkLawsBesides
import Derived.Handy
import Derived.Lib.Hide
import Derived.Test.YtddokdjlmdoebaaML7
import Derived.Test.YtddokdjlmdoebaaPrtP
import Derived.Test.YtddokdjlmdoebaaLexF
import Derived.Test.YtddokdjlmdoebaaLaw5
import Derived.Deep.QuietTactic
import Derived.BigQuiet
set_option linter.unusedVariables false
set_option linter.unusedSimpArgs false
namespace Go.Proofs.Ytddokdjlmdoebaa
open Go.RowKit SetP BrkP LexP AstP ParP
theorem parse_ok7 {s : ByteArray} {L : List Nd} {k : Int} (h : parseF s = (L, 0, k)) : rightF L = true ∧ L.length ≤ 3 * s.size + 2 := by
  cases outs s with
  | ok y hr h1 e =>
    rw [e] at h
    have hL : (endRows y).out = L := congrArg (fun x : List Nd × Int × Int => x.1) h
    refine ⟨hL ▸ (parsed hr h1).right, ?_⟩
    have hb := hr.bnd bnd0
    rw [← hL]
    obtain ⟨o, lv, G⟩ := y
    have ho := hb.out
    cases lv with
    | nil => exact absurd rfl hb.ne
    | cons pr v =>
    obtain ⟨p, r⟩ := pr
    have l1 := rowN_le p
    have l2 := rowsN_le (r + 1)
    show (o ++ rowN p ++ rowsN (r + 1)).length ≤ _
    rw [List.length_append, List.length_append]
    simp only at ho
    omega
  | open_ y hr h1 e => rw [e] at h; injection h with h1 h2; injection h2 with h3; exact absurd h3 (by decide)
  | short b y hr hb h0 h2 e => rw [e] at h; injection h with h1 h2; injection h2 with h3; exact absurd h3 (by decide)
  | bar b y hr hb h0 e => rw [e] at h; injection h with h1 h2; injection h2 with h3; exact absurd h3 h0
  | bad b y hr hb h0 er p he hp hp2 h2 e => rw [e] at h; injection h with h1 h2; injection h2 with h3; omega
theorem parse_err {s : ByteArray} {L : List Nd} {er p : Int} (h : parseF s = (L, er, p)) (h0 : er ≠ 0) : L = [] ∧ ∃ k : Nat, p = k ∧ k ≤ s.size := by
  cases outs s with
  | ok y hr h1 e => rw [e] at h; cases h; exact absurd rfl h0
  | open_ y hr h1 e => rw [e] at h; cases h; exact ⟨rfl, _, rfl, Nat.le_refl _⟩
  | short b y hr hb h2 h3 e => rw [e] at h; cases h; exact ⟨rfl, _, rfl, Nat.le_refl _⟩
  | bar b y hr hb h2 e => rw [e] at h; cases h; exact ⟨rfl, _, rfl, by omega⟩
  | bad b y hr hb h2 er p he hp hp2 h3 e => rw [e] at h; cases h; exact ⟨rfl, _, rfl, hp2⟩
/-- What is parsed, and the words. -/
structure Both (L : List Nd) (W : List Wd) : Prop where
  right : rightF L = true
  ones : cntK 2 L = cntW 1 W
  reps : cntK 4 L = cntW 5 W
  opn : cntK 3 L = cntW 2 W
  shut : cntW 2 W = cntW 3 W
  bars : altR L = cntW 4 W
theorem parse_both {s : ByteArray} {L : List Nd} {p : Int} (h : parseF s = (L, 0, p)) : p = 0 ∧ ∃ W, allGo s 0 [] = (W, 0, 0) ∧ W.length ≤ s.size ∧ (∀ w ∈ W, WdOk w) ∧ Both L W := by
  cases outs s with
  | ok y hr h1 e =>
    obtain ⟨hR, W, hW, c1, c2, c3, c4, c5⟩ := parsed hr h1
    rw [e] at h
    cases h
    exact ⟨rfl, W, by rw [reads_allGo hW]; rfl, by have := hW.le.2.1; omega, hW.ok, hR, c1, c2, c3, c4, c5⟩
  | open_ y hr h1 e => rw [e] at h; injection h with h1 h2; injection h2 with h3; exact absurd h3 (by decide)
  | short b y hr hb h0 h2 e => rw [e] at h; injection h with h1 h2; injection h2 with h3; exact absurd h3 (by decide)
  | bar b y hr hb h0 e => rw [e] at h; injection h with h1 h2; injection h2 with h3; exact absurd h3 h0
  | bad b y hr hb h0 er p he hp hp2 h2 e => rw [e] at h; injection h with h1 h2; injection h2 with h3; omega
def arr8 (c : Nat → Int) : Array Value := #[.int .i64 (c 0), .int .i64 (c 1), .int .i64 (c 2), .int .i64 (c 3), .int .i64 (c 4), .int .i64 (c 5), .int .i64 (c 6), .int .i64 (c 7)]
theorem cntK_take {κ : Int} {L : List Nd} {k : Nat} (hk : k < L.length) : cntK κ (L.take (k + 1)) = cntK κ (L.take k) + if (L.getD k ndEmpty).kind = κ then 1 else 0 := by
  rw [take_more hk, cntK_append, cntK_one]
  simp
theorem altR_take {L : List Nd} {k : Nat} (hk : k < L.length) : altR (L.take (k + 1)) = altR (L.take k) + if (L.getD k ndEmpty).kind = 6 then (L.getD k ndEmpty).kids - 1 else 0 := by
  rw [take_more hk, altR_append]
  unfold altR; simp
theorem cntK_le (κ : Int) (L : List Nd) : cntK κ L ≤ L.length := List.countP_le_length
theorem cntW_le (κ : Int) (L : List Wd) : cntW κ L ≤ L.length := List.countP_le_length
theorem cntW_take {κ : Int} {L : List Wd} {k : Nat} (hk : k < L.length) : cntW κ (L.take (k + 1)) = cntW κ (L.take k) + if (L.getD k wd0).kind = κ then 1 else 0 := by
  have e : L.take (k + 1) = L.take k ++ [L.getD k wd0] := by
    rw [List.take_add_one, List.getElem?_eq_getElem hk, List.getD_eq_getElem?_getD, List.getElem?_eq_getElem hk]; rfl
  rw [e]
  unfold cntW
  rw [List.countP_append]
  simp
theorem arr8_put (c : Nat → Int) (v : Int) : ∀ κ : Nat, κ < 8 → (arr8 c).setIfInBounds κ (.int .i64 v) = arr8 fun j => if j = κ then v else c j
  | 0, _ => rfl
  | 1, _ => rfl
  | 2, _ => rfl
  | 3, _ => rfl
  | 4, _ => rfl
  | 5, _ => rfl
  | 6, _ => rfl
  | 7, _ => rfl
  | n + 8, h => absurd h (by omega)
theorem arr8_get (c : Nat → Int) : ∀ κ : Nat, κ < 8 → (arr8 c)[κ]? = some (.int .i64 (c κ))
  | 0, _ => rfl
  | 1, _ => rfl
  | 2, _ => rfl
  | 3, _ => rfl
  | 4, _ => rfl
  | 5, _ => rfl
  | 6, _ => rfl
  | 7, _ => rfl
  | n + 8, h => absurd h (by omega)
theorem only_cell {g : Nat} {w w' : World} (h : Only g w w') {b o : Nat} (hb : b < w.heap.size) (hne : b ≠ g) : w'.cell? ⟨b, o, none⟩ = w.cell? ⟨b, o, none⟩ := by
  simp [World.cell?, h.block b hb hne]
def cK (L : List Nd) (k : Nat) : Nat → Int := fun κ => ((cntK (κ : Int) (L.take k) : Nat) : Int)
theorem cK_bd (L : List Nd) (k κ : Nat) : 0 ≤ cK L k κ ∧ cK L k κ ≤ k := by
  unfold cK
  have := cntK_le (κ : Int) (L.take k)
  rw [List.length_take] at this
  omega
theorem cK_succ {L : List Nd} {k κ : Nat} (hk : k < L.length) (h : (L.getD k ndEmpty).kind = (κ : Int)) : (fun j => if j = κ then cK L k κ + 1 else cK L k j) = cK L (k + 1) := by
  funext j
  unfold cK
  rw [cntK_take hk, h]
  by_cases hj : j = κ
  · subst hj; rw [if_pos rfl, if_pos rfl]; omega
  · rw [if_neg hj, if_neg (by omega)]; rfl
theorem cK_zero (L : List Nd) : cK L 0 = fun _ => 0 := by funext j; unfold cK; simp [cntK]
/-- How many are left. -/
def cL (L : List Nd) (W : List Wd) (k : Nat) : Nat → Int := fun κ => ((cntK (κ : Int) L : Nat) : Int) - (if κ = 2 then ((cntW 1 (W.take k) : Nat) : Int) else if κ = 4 then ((cntW 5 (W.take k) : Nat) : Int) else 0)
theorem cL_zero (L : List Nd) (W : List Wd) : cL L W 0 = cK L L.length := by
  funext j
  unfold cL cK
  rw [List.take_length]
  simp [cntW]
theorem cL_bd {L : List Nd} {W : List Wd} (k κ : Nat) : -((W.length : Nat) : Int) ≤ cL L W k κ ∧ cL L W k κ ≤ L.length := by
  unfold cL
  have h1 := cntK_le (κ : Int) L
  have h2 := cntW_le 1 (W.take k)
  have h3 := cntW_le 5 (W.take k)
  rw [List.length_take] at h2 h3
  split
  · omega
  · split <;> omega
theorem cL_one {L : List Nd} {W : List Wd} {k : Nat} (hk : k < W.length) (h : (W.getD k wd0).kind = 1) : (fun j => if j = 2 then cL L W k 2 - 1 else cL L W k j) = cL L W (k + 1) := by
  funext j
  unfold cL
  rw [cntW_take hk, cntW_take hk, h]
  by_cases h2 : j = 2
  · subst h2; simp; omega
  · by_cases h4 : j = 4
    · subst h4; simp
    · simp [h2, h4]
theorem cL_rep {L : List Nd} {W : List Wd} {k : Nat} (hk : k < W.length) (h : (W.getD k wd0).kind = 5) : (fun j => if j = 4 then cL L W k 4 - 1 else cL L W k j) = cL L W (k + 1) := by
  funext j
  unfold cL
  rw [cntW_take hk, cntW_take hk, h]
  by_cases h4 : j = 4
  · subst h4; simp; omega
  · by_cases h2 : j = 2
    · subst h2; simp
    · simp [h2, h4]
theorem cL_same {L : List Nd} {W : List Wd} {k : Nat} (hk : k < W.length) (h1 : (W.getD k wd0).kind ≠ 1) (h5 : (W.getD k wd0).kind ≠ 5) : cL L W (k + 1) = cL L W k := by
  funext j
  unfold cL
  rw [cntW_take hk, cntW_take hk, if_neg h1, if_neg h5]; rfl
theorem altR_bd {L : List Nd} (h : ∀ k, k < L.length → 0 ≤ (L.getD k ndEmpty).kids ∧ (L.getD k ndEmpty).kids ≤ 1000) (k : Nat) (hk : k ≤ L.length) : -(k : Int) ≤ altR (L.take k) ∧ altR (L.take k) ≤ 1000 * k := by
  induction k with
  | zero => simp [altR]
  | succ k ih =>
    have h1 := h k (by omega)
    have h2 := ih (by omega)
    rw [altR_take (by omega)]
    split <;> omega
set_option maxRecDepth 100000 in
set_option maxHeartbeats 20000000 in
theorem right7_any (s : ByteArray) (w : World) : Calls Try.prog 16 #[.string s] w fun e w' => e = .returned (.bool true) ∧ Below w.heap.size w w' := by
  by_cases h : 300 < (s.size : Int)
  · have e : decide (300 < (s.size : Int)) = true := by simpa using h
    go_enter Try.func16, Try.ntmps16
    go_wp2_with fail
    refine (sure7_any _).mono ?_
    rintro e1 w1 ⟨rfl, hb1⟩
    go_wp2
    go_ret
    exact ⟨rfl, hb1⟩
  have e : decide (300 < (s.size : Int)) = false := by simpa using h
  have hsz : s.size ≤ 300 := by omega
  clear h
  have C1 := pparse_any s (by omega)
  obtain ⟨⟨L, er, p⟩, hR⟩ : ∃ R, parseF s = R := ⟨_, rfl⟩
  rw [hR] at C1
  by_cases h0 : er = 0
  case neg =>
    obtain ⟨rfl, k, rfl, hk⟩ := parse_err hR h0
    have t0 : (er != 0) = true := bne_iff_ne.2 h0
    have t1 : (0 : Int) ≤ (k : Int) := by omega
    have t2 : (k : Int) ≤ (s.size : Int) := by omega
    clear hR h0
    go_enter Try.func16, Try.ntmps16
    go_wp2_with fail
    refine (C1 _).mono ?_
    rintro e1 w1 ⟨A1, c1, rfl, hown1, hb1⟩
    have HB1 := Lib.hid hb1
    clear hb1 hown1 C1
    go_wp2_with fail
    refine (sure7_any _).mono ?_
    rintro e2 w2 ⟨rfl, hb2⟩
    have HB2 := below_then HB1.out hb2
    go_wp2
    go_ret
    exact ⟨rfl, HB2⟩
  subst h0
  obtain ⟨rfl, W, hW, hWl, hWok, hBo⟩ := parse_both hR
  have C2 := gall_any s (by omega)
  rw [hW] at C2
  have hlb := (parse_ok7 hR).2
  obtain ⟨hF, hok, _⟩ := right_parts hBo.right
  have hkind : ∀ k, k < L.length → 1 ≤ (L.getD k ndEmpty).kind ∧ (L.getD k ndEmpty).kind ≤ 6 := fun k hk => by
    have ha := (nodeOk_parts (hok k hk)).1
    cases nodeIs ha with
    | empty h => omega
    | set h => omega
    | group h => omega
    | rep h => omega
    | cat h => omega
    | alt h => omega
  have hkids : ∀ k, k < L.length → 0 ≤ (L.getD k ndEmpty).kids ∧ (L.getD k ndEmpty).kids ≤ 1000 := fun k hk => by
    have := formed_at hF hk
    have h2 := St_len (L := L) (k := k) (by omega)
    omega
  obtain ⟨n, hl⟩ : ∃ n, L.length = n := ⟨_, rfl⟩
  obtain ⟨m, hm⟩ : ∃ m, W.length = m := ⟨_, rfl⟩
  rw [hl] at hlb
  rw [hm] at hWl
  have HLN := Lib.hid hl
  have HMN := Lib.hid hm
  have HKD := Lib.hid hkind
  have HKI := Lib.hid hkids
  have HWO := Lib.hid hWok
  have HBO := Lib.hid hBo
  clear hR hW hkind hkids hWok hBo hF hok hl hm
  go_enter Try.func16, Try.ntmps16
  go_wp2_with fail
  refine (C1 _).mono ?_
  rintro e1 w1 ⟨A1, c1, rfl, hown1, hb1⟩
  have HN1 := Lib.hid (NodesAt.of_row hown1 rfl (by simp only; rw [HLN.out]; omega))
  have HB1 := Lib.hid hb1
  clear hb1 hown1 C1
  simp only
  rw [HLN.out]
  have hsz1 : w.heap.size ≤ w1.heap.size := HB1.out.size
  have o0 : Slab (w1.alloc (.cells #[.int .i64 0, .int .i64 0, .int .i64 0, .int .i64 0, .int .i64 0, .int .i64 0, .int .i64 0, .int .i64 0] 75)) w1.heap.size (arr8 (cK L 0)) 75 := by rw [cK_zero]; exact Slab.new _ _ _
  have HX0 := Lib.hid ((Below.refl w1.heap.size w1).alloc (Nat.le_refl _) (.cells #[.int .i64 0, .int .i64 0, .int .i64 0, .int .i64 0, .int .i64 0, .int .i64 0, .int .i64 0, .int .i64 0] 75))
  go_wp2_with fail
  go_loopw [7] (fun i wr => ∃ k : Nat, k ≤ n ∧ i = .int .i64 k ∧ Slab wr w1.heap.size (arr8 (cK L k)) 75 ∧ Below w1.heap.size w1 wr) (fun i _ => n - (intOf i).toNat)
  case atStart => exact ⟨0, Nat.zero_le _, rfl, o0, HX0.out⟩
  case round =>
    clear o0 HX0
    obtain ⟨k, hk, rfl, o, hX⟩ := hrel
    have HX := Lib.hid hX; clear hX
    by_cases hlt : k < n
    · have hkL : k < L.length := by rw [HLN.out]; exact hlt
      obtain ⟨b, off, rfl, hb, hn8⟩ := (HN1.out.below HX.out).node hkL
      have n0 := hn8.1
      obtain ⟨hk1, hk6⟩ := HKD.out k hkL
      obtain ⟨κ, hκ⟩ : ∃ κ : Nat, (L.getD k ndEmpty).kind = (κ : Int) := ⟨(L.getD k ndEmpty).kind.toNat, by omega⟩
      have HS := Lib.hid (cK_succ hkL hκ)
      rw [hκ] at n0 hk1 hk6
      have hcb := cK_bd L k κ
      have ck := (o.cell κ).trans (arr8_get _ κ (by omega))
      have fk := o.frozen κ
      have O := Lib.hid o
      obtain ⟨v, hv⟩ : ∃ v, cK L k κ = v := ⟨_, rfl⟩
      have HV := Lib.hid hv
      rw [hv] at hcb ck
      have y1 : IntKind.i64.wrap (v + 1) = v + 1 := IntWalk.i64_in _ (by omega)
      have z1 : (0 : Int) ≤ (κ : Int) := by omega
      have z2 : (κ : Int) < 8 := by omega
      have z3 : κ < 8 := by omega
      have z4 : ¬ (κ : Int) < 1 := by omega
      have z5 : ¬ (6 : Int) < (κ : Int) := by omega
      clear hκ hn8 hv o
      go_wp2
      go_roundw
      case rel =>
        refine ⟨k + 1, by omega, by go_num, ?_, below_set HX.out (Nat.le_refl _) _⟩
        have o2 := O.out.set κ (.int .i64 (v + 1))
        rw [arr8_put _ _ κ z3, ← HV.out, HS.out] at o2
        rw [← HV.out]
        exact o2
      case measure => simp [intOf]; omega
    · obtain rfl : k = n := by omega
      clear hlt
      have o1 := o
      rw [← HLN.out, ← cL_zero L W] at o1
      have HB2 := Lib.hid (HB1.out.trans (HX.out.mono hsz1))
      clear o
      go_wp2_with fail
      refine (C2 _).mono ?_
      rintro e2 w2 ⟨A2, c2, rfl, hown2, hb2⟩
      have HW2 := Lib.hid (WordsAt.of_row hown2 rfl (by simp only; rw [HMN.out]; omega))
      have o2 := o1.call hb2
      have hgl1 : w1.heap.size < wr.heap.size := o1.lt
      have hwc : ∀ j, j < m → ∃ b, A2 = some ⟨b, 0, none⟩ ∧ b < w2.heap.size ∧ b ≠ w1.heap.size ∧ w2.cell? ⟨b, j * 9, none⟩ = some (.int .i64 (W.getD j wd0).kind) := fun j hj => by
        obtain ⟨b, hA, hb, hn⟩ := HW2.out.word (k := j) (by rw [HMN.out]; exact hj)
        obtain ⟨g2, hA2, hgb, _⟩ := row_cell hown2 (by simp only; rw [HMN.out]; omega)
        rw [hA] at hA2
        cases hA2
        exact ⟨b, hA, hb, by omega, hn.1⟩
      have HWC := Lib.hid hwc
      have hgl2 : w1.heap.size < w2.heap.size := o2.lt
      have HX2 := Lib.hid (below_then HX.out hb2)
      have HB3 := Lib.hid (below_then HB2.out hb2)
      clear hb2 hown2 C2 o1 HX HB2 hwc HW2 hgl1
      simp only
      rw [HMN.out]
      go_wp2_with fail
      go_loopw [8, 9, 10, 14] (fun a b' c' i wr => ∃ j : Nat, j ≤ m ∧ i = .int .i64 j ∧ a = .int .i64 ((cntW 2 (W.take j) : Nat) : Int) ∧ b' = .int .i64 ((cntW 3 (W.take j) : Nat) : Int) ∧ c' = .int .i64 ((cntW 4 (W.take j) : Nat) : Int) ∧ Slab wr w1.heap.size (arr8 (cL L W j)) 75 ∧ Below w1.heap.size w1 wr ∧ Only w1.heap.size w2 wr) (fun _ _ _ i _ => m - (intOf i).toNat)
      case atStart => exact ⟨0, Nat.zero_le _, rfl, rfl, rfl, rfl, o2, HX2.out, Only.refl _ _⟩
      case round =>
        clear o2 HX2
        obtain ⟨j, hj, rfl, rfl, rfl, rfl, o, hX, hO⟩ := hrel
        have HX := Lib.hid hX
        have HO := Lib.hid hO
        clear hX hO
        by_cases hlt : j < m
        · have hjW : j < W.length := by rw [HMN.out]; exact hlt
          obtain ⟨b, rfl, hb, hne, hc⟩ := HWC.out j hlt
          have hc := (only_cell HO.out (o := j * 9) hb hne).trans hc
          have hkd := (HWO.out (W.getD j wd0) (by rw [List.getD_eq_getElem?_getD, List.getElem?_eq_getElem hjW]; exact List.getElem_mem _)).kind
          have e2 := cntW_take (κ := 2) hjW
          have e3 := cntW_take (κ := 3) hjW
          have e4 := cntW_take (κ := 4) hjW
          have b2 := cntW_le 2 (W.take j)
          have b3 := cntW_le 3 (W.take j)
          have b4 := cntW_le 4 (W.take j)
          rw [List.length_take] at b2 b3 b4
          have l1 := cL_one (L := L) hjW
          have l5 := cL_rep (L := L) hjW
          have l0 := cL_same (L := L) hjW
          generalize (W.getD j wd0).kind = kd at *
          generalize cntW 2 (W.take j) = q2 at *
          generalize cntW 3 (W.take j) = q3 at *
          generalize cntW 4 (W.take j) = q4 at *
          have O := Lib.hid o
          obtain ⟨co, fo⟩ := o.facts
          have hcl2 := cL_bd (L := L) (W := W) j 2
          have hcl4 := cL_bd (L := L) (W := W) j 4
          rw [HLN.out, HMN.out] at hcl2 hcl4
          have k2 := (o.cell 2).trans (arr8_get _ 2 (by omega))
          have k4 := (o.cell 4).trans (arr8_get _ 4 (by omega))
          obtain ⟨v2, hv2⟩ : ∃ v, cL L W j 2 = v := ⟨_, rfl⟩
          obtain ⟨v4, hv4⟩ : ∃ v, cL L W j 4 = v := ⟨_, rfl⟩
          rw [hv2] at hcl2 k2
          rw [hv4] at hcl4 k4
          have HV2 := Lib.hid hv2
          have HV4 := Lib.hid hv4
          have f2 := fo 2
          have f4 := fo 4
          have y2 : IntKind.i64.wrap (v2 - 1) = v2 - 1 := IntWalk.i64_in _ (by omega)
          have y4 : IntKind.i64.wrap (v4 - 1) = v4 - 1 := IntWalk.i64_in _ (by omega)
          clear hv2 hv4 co fo o
          rcases (show kd = 1 ∨ kd = 2 ∨ kd = 3 ∨ kd = 4 ∨ kd = 5 by omega) with rfl | rfl | rfl | rfl | rfl
          · have L1 := Lib.hid (l1 rfl)
            have E2 := Lib.hid e2
            have E3 := Lib.hid e3
            have E4 := Lib.hid e4
            clear l0 l1 l5 e2 e3 e4 hkd
            go_wp2
            go_roundw
            case rel =>
              refine ⟨j + 1, by omega, by go_num, by rw [E2.out]; rfl, by rw [E3.out]; rfl, by rw [E4.out]; rfl, ?_, below_set HX.out (Nat.le_refl _) _, HO.out.set 2 _⟩
              have o2 := O.out.set 2 (.int .i64 (v2 - 1))
              rw [arr8_put _ _ 2 (by omega), ← HV2.out, L1.out] at o2
              rw [← HV2.out]
              exact o2
            case measure => simp [intOf]; omega
          · have L0 := Lib.hid (l0 (by omega) (by omega))
            have E2 := Lib.hid e2
            have E3 := Lib.hid e3
            have E4 := Lib.hid e4
            clear l0 l1 l5 e2 e3 e4 hkd
            go_wp2
            go_roundw
            case rel => exact ⟨j + 1, by omega, by go_num, by rw [E2.out]; simp, by rw [E3.out]; rfl, by rw [E4.out]; rfl, by rw [L0.out]; exact O.out, HX.out, HO.out⟩
            case measure => simp [intOf]; omega
          · have L0 := Lib.hid (l0 (by omega) (by omega))
            have E2 := Lib.hid e2
            have E3 := Lib.hid e3
            have E4 := Lib.hid e4
            clear l0 l1 l5 e2 e3 e4 hkd
            go_wp2
            go_roundw
            case rel => exact ⟨j + 1, by omega, by go_num, by rw [E2.out]; rfl, by rw [E3.out]; simp, by rw [E4.out]; rfl, by rw [L0.out]; exact O.out, HX.out, HO.out⟩
            case measure => simp [intOf]; omega
          · have L0 := Lib.hid (l0 (by omega) (by omega))
            have E2 := Lib.hid e2
            have E3 := Lib.hid e3
            have E4 := Lib.hid e4
            clear l0 l1 l5 e2 e3 e4 hkd
            go_wp2
            go_roundw
            case rel => exact ⟨j + 1, by omega, by go_num, by rw [E2.out]; rfl, by rw [E3.out]; rfl, by rw [E4.out]; simp, by rw [L0.out]; exact O.out, HX.out, HO.out⟩
            case measure => simp [intOf]; omega
          · have L5 := Lib.hid (l5 rfl)
            have E2 := Lib.hid e2
            have E3 := Lib.hid e3
            have E4 := Lib.hid e4
            clear l0 l1 l5 e2 e3 e4 hkd
            go_wp2
            go_roundw
            case rel =>
              refine ⟨j + 1, by omega, by go_num, by rw [E2.out]; rfl, by rw [E3.out]; rfl, by rw [E4.out]; rfl, ?_, below_set HX.out (Nat.le_refl _) _, HO.out.set 4 _⟩
              have o2 := O.out.set 4 (.int .i64 (v4 - 1))
              rw [arr8_put _ _ 4 (by omega), ← HV4.out, L5.out] at o2
              rw [← HV4.out]
              exact o2
            case measure => simp [intOf]; omega
        · obtain rfl : j = m := by omega
          have htk : W.take j = W := by rw [← HMN.out, List.take_length]
          rw [htk]
          have hbo := HBO.out
          obtain ⟨g1, g2, g3, g4, g5, g6⟩ := hbo
          have k2 : cL L W j 2 = 0 := by unfold cL; rw [htk]; simp; omega
          have k4 : cL L W j 4 = 0 := by unfold cL; rw [htk]; simp; omega
          have k3 : cL L W j 3 = ((cntW 2 W : Nat) : Int) := by unfold cL; simp; exact_mod_cast g4
          have c2' := (o.cell 2).trans (arr8_get _ 2 (by omega))
          have c3' := (o.cell 3).trans (arr8_get _ 3 (by omega))
          have c4' := (o.cell 4).trans (arr8_get _ 4 (by omega))
          rw [k2] at c2'
          rw [k3] at c3'
          rw [k4] at c4'
          have hgo := o.lt
          have hab := altR_bd HKI.out
          have HAB := Lib.hid hab
          have HG6 := Lib.hid g6
          rw [← g5]
          have hCR := right_any A1 c1 L wr ((HN1.out.below HX.out).more HX.out.size)
          rw [g1, HLN.out] at hCR
          have HBW := Lib.hid (HB1.out.trans (HX.out.mono hsz1))
          generalize cntW 2 W = Q2 at *
          generalize cntW 4 W = Q4 at *
          clear g1 g2 g3 g4 g5 g6 k2 k3 k4 htk hlt hab o HWC
          go_wp2_with fail
          go_loopw [15, 16] (fun a i wr2 => ∃ q : Nat, q ≤ k ∧ i = .int .i64 q ∧ a = .int .i64 (altR (L.take q)) ∧ wr2 = wr) (fun _ i _ => k - (intOf i).toNat)
          case atStart => exact ⟨0, Nat.zero_le _, rfl, rfl, rfl⟩
          case round =>
            obtain ⟨q, hq, rfl, rfl, hw⟩ := hrel
            subst hw
            by_cases hlt : q < k
            · have hqL : q < L.length := by rw [HLN.out]; exact hlt
              obtain ⟨b, off, rfl, hb, hn8⟩ := (HN1.out.below HX.out).node hqL
              have n0 := hn8.1
              have n1 := hn8.2.1
              have ha := altR_take hqL
              have hki := HKI.out q hqL
              have hbd := HAB.out q (by omega)
              generalize L.getD q ndEmpty = x at *
              obtain ⟨kd, kn, xn, xm, xf⟩ := x
              simp only at n0 n1 ha hki
              obtain ⟨v, hv⟩ : ∃ v, altR (L.take q) = v := ⟨_, rfl⟩
              rw [hv] at ha hbd ⊢
              by_cases h6 : kd = 6
              · subst h6
                rw [if_pos rfl] at ha
                have HA := Lib.hid ha
                have y1 : IntKind.i64.wrap (v + kn) = v + kn := IntWalk.i64_in _ (by omega)
                have y2 : IntKind.i64.wrap (v + kn - 1) = v + kn - 1 := IntWalk.i64_in _ (by omega)
                clear ha hv hn8
                go_wp2
                go_roundw
                case rel => exact ⟨q + 1, by omega, by go_num, by rw [HA.out]; congr 1; omega, by trivial⟩
                case measure => simp [intOf]; omega
              · have h6' : (kd == 6) = false := beq_eq_false_iff_ne.2 h6
                rw [if_neg h6] at ha
                have HA := Lib.hid ha
                clear ha hv hn8 h6
                go_wp2
                go_roundw
                case rel => exact ⟨q + 1, by omega, by go_num, by rw [HA.out]; simp, by trivial⟩
                case measure => simp [intOf]; omega
            · obtain rfl : q = k := by omega
              have htk : L.take q = L := by rw [← HLN.out, List.take_length]
              rw [htk, HG6.out]
              clear hlt htk
              go_wp2_with fail
              refine hCR.mono ?_
              rintro e3 w3 ⟨rfl, hb3⟩
              have fc := (bcell hb3).1
              rw [← fc w1.heap.size _ hgo] at c2' c3' c4'
              have HBX := Lib.hid (below_then HBW.out hb3)
              clear hb3 fc hCR HBW
              go_wp2_with fail
              refine (sure7_any _).mono ?_
              rintro e4 w4 ⟨rfl, hb4⟩
              have HB4 := below_then HBX.out hb4
              go_wp2
              go_ret
              exact ⟨rfl, HB4⟩
end Go.Proofs.Ytddokdjlmdoebaa
