/- Walks of the package lower: how great a node is. -/
import Derived.Test.YtddokdjlmdoebaaProg
import Derived.WalkKit
import Derived.WalkSpells
import Derived.WalkLawsBesides
import Derived.Handy
import Derived.Lib.Hide
import Derived.Test.YtddokdjlmdoebaaMLoA
import Derived.Deep.Cut
import Derived.Deep.QuietTactic
import Derived.BigQuiet
import Derived.Test.YtddokdjlmdoebaaMLoM
set_option linter.unusedVariables false
set_option linter.unusedSimpArgs false
namespace Go.Proofs.Ytddokdjlmdoebaa
open Go.RowKit SetP AstP LowP ParP
theorem mul_bd {c a : Int} (h0 : 0 ≤ c) (h1 : c ≤ 198) (h2 : 0 ≤ a) (h3 : a ≤ 1000001) : 0 ≤ c * a ∧ c * a ≤ 198000198 := by
  refine ⟨Int.mul_nonneg h0 h2, ?_⟩
  have := Int.mul_le_mul h1 h3 h2 (by omega : (0 : Int) ≤ 198)
  omega
set_option maxRecDepth 100000 in
set_option maxHeartbeats 2000000 in
theorem repeated_any (a b : Int) (x : Nd) (nl : Bool) (ha : 0 ≤ a ∧ a ≤ 1000000) (hb : 0 ≤ b ∧ b ≤ 1000000) (hr : rightB x.n x.m = true) (w : World) :
    Calls Try.prog 88 #[szV (a, b), ndV x, .bool nl] w fun e w' => e = .returned (szV (repS (a, b) x.n x.m nl)) ∧ Below w.heap.size w w' := by
  have CP := planOf_any x nl hr
  obtain ⟨m0, m1, y0, y1, c0, c1⟩ := cop_bd hr nl
  have hcop : copN x.n x.m nl = if decide (x.m < 0) = true then mustN x.n nl + 1 else mustN x.n nl + mayN x.n x.m nl := by unfold copN; simp
  have CC := copies_any (mustN x.n nl) (mayN x.n x.m nl) (decide (x.m < 0)) ⟨m0, by omega, y0, by omega⟩
  rw [← hcop] at CC
  unfold repS
  obtain ⟨kd, kn, n, m, f⟩ := x
  simp only at *
  generalize mustN n nl = mu at *
  generalize mayN n m nl = my at *
  generalize copN n m nl = co at *
  clear hcop
  obtain ⟨p0, p1⟩ := mul_bd (a := a + 1) c0 c1 (by omega) (by omega)
  obtain ⟨q0, q1⟩ := mul_bd (a := b) c0 c1 hb.1 (by omega)
  by_cases hm0 : m = 0
  · subst hm0
    rw [if_pos (by rfl)]
    clear CP CC
    go_enter Try.func88, Try.ntmps88
    go_wp2
    refine bodyPost_ret (v := szV (1, 0)) (by simp [results, Try.results88, go_sem, *]) rfl ⟨rfl, ?_⟩
    (repeat' (first | (with_reducible exact Below.refl _ _) | (with_reducible assumption) | (with_reducible refine Below.alloc ?_ ?_ _) | (with_reducible refine Below.drew ?_) | (with_reducible refine below_set ?_ ?_ _) | (with_reducible refine below_call ?_ ?_ (by assumption)) | (with_reducible exact Below.size (by assumption)) | omega | go_size))
  have hm1 : (m == 0) = false := beq_eq_false_iff_ne.2 hm0
  rw [if_neg (by rw [hm1]; decide)]
  have y2 : IntKind.i64.wrap (a + 1) = a + 1 := IntWalk.i64_in _ (by omega)
  have y3 : IntKind.i64.wrap (co * (a + 1)) = co * (a + 1) := IntWalk.i64_in _ (by omega)
  have y4 : IntKind.i64.wrap (co * b) = co * b := IntWalk.i64_in _ (by omega)
  obtain ⟨P, hP⟩ : ∃ P, co * (a + 1) = P := ⟨_, rfl⟩
  obtain ⟨Q, hQ⟩ : ∃ Q, co * b = Q := ⟨_, rfl⟩
  rw [hP] at p0 p1 y3 ⊢
  rw [hQ] at q0 q1 y4 ⊢
  obtain ⟨z, hz⟩ : ∃ z, (if m < 0 then (1 : Int) else 0) = z := ⟨_, rfl⟩
  rw [hz]
  have oS : Slab (((w.alloc (.cells #[.int .i64 a, .int .i64 b] 80)).alloc (.cells (ndCells ⟨kd, kn, n, m, f⟩) 43)).alloc (.cells #[.int .i64 0, .int .i64 0] 80)) w.heap.size #[.int .i64 a, .int .i64 b] 80 := ((Slab.new _ _ _).alloc _).alloc _
  have oR : Slab (((w.alloc (.cells #[.int .i64 a, .int .i64 b] 80)).alloc (.cells (ndCells ⟨kd, kn, n, m, f⟩) 43)).alloc (.cells #[.int .i64 0, .int .i64 0] 80)) (w.heap.size + 2) #[.int .i64 0, .int .i64 0] 80 := Slab.newAt _ _ _ (by simp)
  have HB := Lib.hid ((((Below.refl w.heap.size w).alloc (Nat.le_refl _) (.cells #[.int .i64 a, .int .i64 b] 80)).alloc (by simp) (.cells (ndCells ⟨kd, kn, n, m, f⟩) 43)).alloc (by simp; omega) (.cells #[.int .i64 0, .int .i64 0] 80))
  unfold ndCells at oS oR HB
  simp only at oS oR HB
  go_enter Try.func88, Try.ntmps88
  go_wp2_with fail
  refine (CP _).mono ?_
  rintro e1 w1 ⟨rfl, hb1⟩
  have oS1 := oS.call hb1
  have oR1 := oR.call hb1
  have HB1 := Lib.hid (below_then HB.out hb1)
  clear hb1 oS oR HB CP
  have oP : Slab (w1.alloc (.cells #[.int .i64 mu, .int .i64 my, .bool (decide (m < 0))] 187)) w1.heap.size #[.int .i64 mu, .int .i64 my, .bool (decide (m < 0))] 187 := Slab.new _ _ _
  have oS2 := oS1.alloc (.cells #[.int .i64 mu, .int .i64 my, .bool (decide (m < 0))] 187)
  have oR2 := oR1.alloc (.cells #[.int .i64 mu, .int .i64 my, .bool (decide (m < 0))] 187)
  have HB2 := Lib.hid (HB1.out.alloc HB1.out.size (.cells #[.int .i64 mu, .int .i64 my, .bool (decide (m < 0))] 187))
  clear oS1 oR1 HB1
  go_wp2_with fail
  refine (CC _).mono ?_
  rintro e3 w3 ⟨rfl, hb3⟩
  have oS3 := oS2.call hb3
  have oR3 := oR2.call hb3
  have oP3 := oP.call hb3
  have HB3 := Lib.hid (below_then HB2.out hb3)
  clear hb3 oS2 oR2 oP HB2 CC
  obtain ⟨cS, fS⟩ := oS3.facts
  obtain ⟨cR, fR⟩ := oR3.facts
  obtain ⟨cP, fP⟩ := oP3.facts
  have hlS := oS3.lt
  have hlR := oR3.lt
  have hlP := oP3.lt
  by_cases hd : m < 0
  · have hdd : decide (m < 0) = true := decide_eq_true hd
    rw [hdd] at cP
    rw [if_pos hd] at hz
    subst hz
    clear hr hd hdd
    go_wp2_with fail
    refine bodyPost_ret (v := szV (P + co - 1 + my + 1, Q)) (by simp [results, Try.results88, go_sem, *]) rfl ⟨rfl, ?_⟩
    have HZ := HB3.out
    (repeat' (first | (with_reducible exact Below.refl _ _) | (with_reducible assumption) | (with_reducible refine Below.alloc ?_ ?_ _) | (with_reducible refine Below.drew ?_) | (with_reducible refine below_set ?_ ?_ _) | (with_reducible refine below_call ?_ ?_ (by assumption)) | (with_reducible exact Below.size (by assumption)) | omega | go_size))
  · have hdd : decide (m < 0) = false := decide_eq_false hd
    rw [hdd] at cP
    rw [if_neg hd] at hz
    subst hz
    clear hr hd hdd
    go_wp2_with fail
    refine bodyPost_ret (v := szV (P + co - 1 + my + 0, Q)) (by simp [results, Try.results88, go_sem, *]) rfl ⟨rfl, ?_⟩
    have HZ := HB3.out
    (repeat' (first | (with_reducible exact Below.refl _ _) | (with_reducible assumption) | (with_reducible refine Below.alloc ?_ ?_ _) | (with_reducible refine Below.drew ?_) | (with_reducible refine below_set ?_ ?_ _) | (with_reducible refine below_call ?_ ?_ (by assumption)) | (with_reducible exact Below.size (by assumption)) | omega | go_size))
/-- Sizes, as cells. -/
def flatS (K : List Sz) : List Value := K.flatMap fun s => [.int .i64 s.1, .int .i64 s.2]
theorem flatS_append (K M : List Sz) : flatS (K ++ M) = flatS K ++ flatS M := by unfold flatS; rw [List.flatMap_append]
theorem flatS_length (K : List Sz) : (flatS K).length = K.length * 2 := by
  induction K with
  | nil => rfl
  | cons s K ih =>
    have e : flatS (s :: K) = [.int .i64 s.1, .int .i64 s.2] ++ flatS K := rfl
    rw [e, List.length_append, ih, List.length_cons]; simp; omega
theorem flatS_get (K : List Sz) (j : Nat) (hj : j < K.length) : (flatS K)[j * 2]? = some (.int .i64 (K.getD j (0, 0)).1) ∧ (flatS K)[j * 2 + 1]? = some (.int .i64 (K.getD j (0, 0)).2) := by
  induction K generalizing j with
  | nil => simp at hj
  | cons s K ih =>
    have e : flatS (s :: K) = [.int .i64 s.1, .int .i64 s.2] ++ flatS K := rfl
    rw [e]
    cases j with
    | zero => exact ⟨rfl, rfl⟩
    | succ j =>
      have h := ih j (by simpa using hj)
      rw [List.getElem?_append_right (by simp; omega), List.getElem?_append_right (by simp; omega)]
      rw [show (j + 1) * 2 - [Value.int .i64 s.1, Value.int .i64 s.2].length = j * 2 by simp; omega, show (j + 1) * 2 + 1 - [Value.int .i64 s.1, Value.int .i64 s.2].length = j * 2 + 1 by simp; omega]
      exact h
/-- Sizes in a slice, in a block below B. -/
def SzAt (w : World) (B : Nat) (A : Option Addr) (K : List Sz) : Prop :=
  K.length = 0 ∨ ∃ b off, A = some ⟨b, off, none⟩ ∧ b < B ∧ ∀ j, j < K.length → w.cell? ⟨b, off + j * 2, none⟩ = some (.int .i64 (K.getD j (0, 0)).1) ∧ w.cell? ⟨b, off + j * 2 + 1, none⟩ = some (.int .i64 (K.getD j (0, 0)).2)
theorem SzAt.below {w w' : World} {B : Nat} {A : Option Addr} {K : List Sz} (h : SzAt w B A K) (hb : Below B w w') : SzAt w' B A K := by
  rcases h with h | ⟨b, off, rfl, hB, hc⟩
  · exact .inl h
  · exact .inr ⟨b, off, rfl, hB, fun j hj => ⟨(hb.cell (p := ⟨b, off + j * 2, none⟩) hB).trans (hc j hj).1, (hb.cell (p := ⟨b, off + j * 2 + 1, none⟩) hB).trans (hc j hj).2⟩⟩
theorem SzAt.of_row {w : World} {base n c : Nat} {A : Option Addr} {K : List Sz} (h : w.ownsRow base 80 2 (.slice A n c) n (flatS K)) (hn : K.length = n) : SzAt w w.heap.size A K := by
  rcases Nat.eq_zero_or_pos n with h0 | h0
  · exact .inl (by omega)
  · obtain ⟨g, rfl, _, hg, _, hc⟩ := row_cell h h0
    refine .inr ⟨g, 0, rfl, hg, fun j hj => ?_⟩
    obtain ⟨g1, g2⟩ := flatS_get K j hj
    rw [Nat.zero_add, hc _ (by omega), hc _ (by omega)]
    exact ⟨g1, g2⟩
theorem sumS_take {K : List Sz} {j : Nat} (h : j < K.length) : sumS (K.take (j + 1)) = addS (sumS (K.take j)) (K.getD j (0, 0)) := by
  have e : K.take (j + 1) = K.take j ++ [K.getD j (0, 0)] := by
    rw [List.take_add_one, List.getElem?_eq_getElem h, List.getD_eq_getElem?_getD, List.getElem?_eq_getElem h]; rfl
  rw [e]
  unfold sumS
  rw [List.foldl_append]; rfl
end Go.Proofs.Ytddokdjlmdoebaa

/- Walks of the package lower: sum. -/
namespace Go.Proofs.Ytddokdjlmdoebaa
open Go.RowKit SetP AstP LowP ParP
def Bd (s : Sz) : Prop := 0 ≤ s.1 ∧ s.1 ≤ 1000000 ∧ 0 ≤ s.2 ∧ s.2 ≤ 1000000
theorem Bd.sum {K : List Sz} (h : ∀ s ∈ K, Bd s) : Bd (sumS K) := by
  obtain ⟨a, b, c, d⟩ := sumS_bd K fun s hs => ⟨(h s hs).1, (h s hs).2.2.1⟩
  exact ⟨a, c, b, d⟩
set_option maxRecDepth 100000 in
set_option maxHeartbeats 2000000 in
theorem sum_any (x : Nd) (K : List Sz) (nl : Bool) (A : Option Addr) (c : Nat) (hx : aloneB x = true) (hK : ∀ s ∈ K, Bd s) (hKl : K.length ≤ 1000000) (w : World) (hA : SzAt w w.heap.size A K) :
    Calls Try.prog 49 #[ndV x, .slice A K.length c, .bool nl] w fun e w' => e = .returned (szV (rawS x K nl)) ∧ Below w.heap.size w w' := by
  obtain ⟨N, hN⟩ : ∃ N, K.length = N := ⟨_, rfl⟩
  have CR := fun (hr : rightB x.n x.m = true) w => repeated_any (sumS K).1 (sumS K).2 x nl ⟨(Bd.sum hK).1, (Bd.sum hK).2.1⟩ ⟨(Bd.sum hK).2.2.1, (Bd.sum hK).2.2.2⟩ hr w
  obtain ⟨R, hR⟩ : ∃ R, rawS x K nl = R := ⟨_, rfl⟩
  rw [hR]
  unfold rawS at hR
  rw [hN] at hKl hR ⊢
  have HN := Lib.hid hN
  have HA := Lib.hid hA
  have HK := Lib.hid hK
  have HR := Lib.hid hR
  have hni := nodeIs hx
  obtain ⟨kd, kn, xn, xm, xf⟩ := x
  have o0 : Slab (((w.alloc (.cells #[.int .i64 kd, .int .i64 kn, .int .i64 xn, .int .i64 xm, .int .u64 (wd xf 0), .int .u64 (wd xf 1), .int .u64 (wd xf 2), .int .u64 (wd xf 3)] 43)).alloc (.cells #[.int .i64 0, .int .i64 0] 80)).alloc (.cells #[.int .i64 0, .int .i64 0] 80)) w.heap.size #[.int .i64 kd, .int .i64 kn, .int .i64 xn, .int .i64 xm, .int .u64 (wd xf 0), .int .u64 (wd xf 1), .int .u64 (wd xf 2), .int .u64 (wd xf 3)] 43 := ((Slab.new _ _ _).alloc _).alloc _
  have o1 : Slab (((w.alloc (.cells #[.int .i64 kd, .int .i64 kn, .int .i64 xn, .int .i64 xm, .int .u64 (wd xf 0), .int .u64 (wd xf 1), .int .u64 (wd xf 2), .int .u64 (wd xf 3)] 43)).alloc (.cells #[.int .i64 0, .int .i64 0] 80)).alloc (.cells #[.int .i64 0, .int .i64 0] 80)) (w.heap.size + 1) #[.int .i64 0, .int .i64 0] 80 := (Slab.newAt _ _ _ (by simp)).alloc _
  have o2 : Slab (((w.alloc (.cells #[.int .i64 kd, .int .i64 kn, .int .i64 xn, .int .i64 xm, .int .u64 (wd xf 0), .int .u64 (wd xf 1), .int .u64 (wd xf 2), .int .u64 (wd xf 3)] 43)).alloc (.cells #[.int .i64 0, .int .i64 0] 80)).alloc (.cells #[.int .i64 0, .int .i64 0] 80)) (w.heap.size + 1 + 1) #[.int .i64 (sumS (K.take 0)).1, .int .i64 (sumS (K.take 0)).2] 80 := Slab.newAt _ _ _ (by simp)
  have HB := Lib.hid ((((Below.refl w.heap.size w).alloc (Nat.le_refl _) (.cells #[.int .i64 kd, .int .i64 kn, .int .i64 xn, .int .i64 xm, .int .u64 (wd xf 0), .int .u64 (wd xf 1), .int .u64 (wd xf 2), .int .u64 (wd xf 3)] 43)).alloc (by simp) (.cells #[.int .i64 0, .int .i64 0] 80)).alloc (by simp; omega) (.cells #[.int .i64 0, .int .i64 0] 80))
  clear hN hA hK hx hR
  go_enter Try.func49, Try.ntmps49
  go_wp2_with fail
  go_loopw [12] (fun i wr => ∃ j : Nat, j ≤ N ∧ i = .int .i64 j ∧ Slab wr w.heap.size #[.int .i64 kd, .int .i64 kn, .int .i64 xn, .int .i64 xm, .int .u64 (wd xf 0), .int .u64 (wd xf 1), .int .u64 (wd xf 2), .int .u64 (wd xf 3)] 43 ∧ Slab wr (w.heap.size + 1) #[.int .i64 0, .int .i64 0] 80 ∧ Slab wr (w.heap.size + 1 + 1) #[.int .i64 (sumS (K.take j)).1, .int .i64 (sumS (K.take j)).2] 80 ∧ Below w.heap.size w wr) (fun i _ => N - (intOf i).toNat)
  case atStart => exact ⟨0, Nat.zero_le _, rfl, o0, o1, o2, HB.out⟩
  case round =>
    clear o0 o1 o2 HB
    obtain ⟨j, hj, rfl, o0, o1, o2, hB⟩ := hrel
    have HB := Lib.hid hB; clear hB
    by_cases hlt : j < N
    · have hjK : j < K.length := by rw [HN.out]; exact hlt
      obtain ⟨b, off, rfl, hbb, hc⟩ : ∃ b off, A = some ⟨b, off, none⟩ ∧ b < w.heap.size ∧ ∀ j, j < K.length → wr.cell? ⟨b, off + j * 2, none⟩ = some (.int .i64 (K.getD j (0, 0)).1) ∧ wr.cell? ⟨b, off + j * 2 + 1, none⟩ = some (.int .i64 (K.getD j (0, 0)).2) := by
        rcases HA.out.below HB.out with h | h
        · omega
        · exact h
      obtain ⟨c1, c2⟩ := hc j hjK
      have hbk := HK.out (K.getD j (0, 0)) (by rw [List.getD_eq_getElem?_getD, List.getElem?_eq_getElem hjK]; exact List.getElem_mem _)
      have hbs := Bd.sum (K := K.take j) fun s hs => HK.out s (List.mem_of_mem_take hs)
      have hst := sumS_take hjK
      unfold addS at hst
      generalize K.getD j (0, 0) = kk at *
      obtain ⟨k1, k2⟩ := kk
      obtain ⟨⟨s1, s2⟩, hs⟩ : ∃ p, sumS (K.take j) = p := ⟨_, rfl⟩
      rw [hs] at hst hbs o2
      unfold Bd at hbk hbs
      simp only at c1 c2 hbk hbs hst o2
      have HST := Lib.hid hst
      obtain ⟨f0c, f0⟩ := o0.facts
      obtain ⟨f2c, f2⟩ := o2.facts
      have hgl := o2.lt
      have p0 := (o0.alloc (.cells #[.int .i64 k1, .int .i64 k2] 80))
      have p1 := (o1.alloc (.cells #[.int .i64 k1, .int .i64 k2] 80))
      have p2 := (o2.alloc (.cells #[.int .i64 k1, .int .i64 k2] 80))
      have HB1 := Lib.hid (HB.out.alloc HB.out.size (.cells #[.int .i64 k1, .int .i64 k2] 80))
      have CC := capped_any (s1 + k1) (s2 + k2)
      clear hs hst o0 o1 o2 HB hc
      go_wp2_with fail
      refine (CC _).mono ?_
      rintro e1 w1 ⟨rfl, hb1⟩
      have q0 := p0.call hb1
      have q1 := p1.call hb1
      have q2 := p2.call hb1
      have HB2 := Lib.hid (below_then HB1.out hb1)
      clear hb1 p0 p1 p2 HB1 CC f0c f0 f2c f2
      obtain ⟨f2c, f2⟩ := q2.facts
      go_wp2_with fail
      go_roundw
      case rel =>
        refine ⟨j + 1, by omega, by go_num, (q0.far (by omega) _).far (by omega) _, (q1.far (by omega) _).far (by omega) _, ?_, below_set (below_set HB2.out (by omega) _) (by omega) _⟩
        rw [HST.out]
        exact (q2.set 0 _).set 1 _
      case measure => simp [intOf]; omega
    · obtain rfl : j = N := by omega
      have htk : K.take j = K := by rw [← HN.out, List.take_length]
      rw [htk] at o2
      have hbs := Bd.sum HK.out
      obtain ⟨⟨s1, s2⟩, hs⟩ : ∃ p, sumS K = p := ⟨_, rfl⟩
      have hR := HR.out
      rw [hs] at o2 hbs hR CR
      unfold Bd at hbs
      simp only at o2 hbs hR CR hni
      obtain ⟨f0c, f0⟩ := o0.facts
      obtain ⟨f1c, f1⟩ := o1.facts
      obtain ⟨f2c, f2⟩ := o2.facts
      have hgl0 := o0.lt
      have hgl1 := o1.lt
      have hgl2 := o2.lt
      clear HR hs htk hlt
      cases hni with
      | empty hk1 hn1 h1 =>
        simp only at hk1
        subst hk1
        have HRR : Hid (R = (1, 0)) := Lib.hid (by rw [← hR]; rfl)
        clear hR CR h1 hn1
        go_wp2_with fail
        refine bodyPost_ret (v := szV ((1, 0))) (by simp [results, Try.results49, go_sem, *]) rfl ⟨by rw [HRR.out], ?_⟩
        have HZ := HB.out
        (repeat' (first | (with_reducible exact Below.refl _ _) | (with_reducible assumption) | (with_reducible refine Below.alloc ?_ ?_ _) | (with_reducible refine Below.drew ?_) | (with_reducible refine below_set ?_ ?_ _) | (with_reducible refine below_call ?_ ?_ (by assumption)) | (with_reducible exact Below.size (by assumption)) | omega | go_size))
      | set hk1 hn1 h1 =>
        simp only at hk1
        subst hk1
        have HRR : Hid (R = (1, 1)) := Lib.hid (by rw [← hR]; rfl)
        clear hR CR h1 hn1
        go_wp2_with fail
        refine bodyPost_ret (v := szV ((1, 1))) (by simp [results, Try.results49, go_sem, *]) rfl ⟨by rw [HRR.out], ?_⟩
        have HZ := HB.out
        (repeat' (first | (with_reducible exact Below.refl _ _) | (with_reducible assumption) | (with_reducible refine Below.alloc ?_ ?_ _) | (with_reducible refine Below.drew ?_) | (with_reducible refine below_set ?_ ?_ _) | (with_reducible refine below_call ?_ ?_ (by assumption)) | (with_reducible exact Below.size (by assumption)) | omega | go_size))
      | group hk1 hn1 h1 =>
        simp only at hk1
        subst hk1
        have HRR : Hid (R = (s1 + 1, s2)) := Lib.hid (by rw [← hR]; rfl)
        clear hR CR h1 hn1
        go_wp2_with fail
        refine bodyPost_ret (v := szV ((s1 + 1, s2))) (by simp [results, Try.results49, go_sem, *]) rfl ⟨by rw [HRR.out], ?_⟩
        have HZ := HB.out
        (repeat' (first | (with_reducible exact Below.refl _ _) | (with_reducible assumption) | (with_reducible refine Below.alloc ?_ ?_ _) | (with_reducible refine Below.drew ?_) | (with_reducible refine below_set ?_ ?_ _) | (with_reducible refine below_call ?_ ?_ (by assumption)) | (with_reducible exact Below.size (by assumption)) | omega | go_size))
      | rep hk1 hn1 hr1 h1 =>
        simp only at hk1 hr1
        subst hk1
        have HRR : Hid (R = repS (s1, s2) xn xm nl) := Lib.hid (by rw [← hR]; rfl)
        have CR1 := CR hr1
        obtain ⟨⟨r1, r2⟩, hrp⟩ : ∃ p, repS (s1, s2) xn xm nl = p := ⟨_, rfl⟩
        rw [hrp] at HRR CR1
        clear hR CR h1 hn1 hrp hr1
        go_wp2_with fail
        refine (CR1 _).mono ?_
        rintro e1 w1 ⟨rfl, hb1⟩
        have q1 := o1.call hb1
        obtain ⟨g1c, g1⟩ := q1.facts
        have HB := Lib.hid (below_then HB.out hb1)
        clear hb1 o0 o1 o2 f0c f0 f1c f1 f2c f2
        go_wp2_with fail
        refine bodyPost_ret (v := szV ((r1, r2))) (by simp [results, Try.results49, go_sem, *]) rfl ⟨by rw [HRR.out], ?_⟩
        have HZ := HB.out
        (repeat' (first | (with_reducible exact Below.refl _ _) | (with_reducible assumption) | (with_reducible refine Below.alloc ?_ ?_ _) | (with_reducible refine Below.drew ?_) | (with_reducible refine below_set ?_ ?_ _) | (with_reducible refine below_call ?_ ?_ (by assumption)) | (with_reducible exact Below.size (by assumption)) | omega | go_size))
      | cat hk1 m2 hn1 h2 h1 =>
        simp only at hk1
        subst hk1
        have HRR : Hid (R = (s1 + ((j : Int) - 1), s2)) := Lib.hid (by rw [← hR]; rfl)
        clear hR CR h1 hn1
        go_wp2_with fail
        refine bodyPost_ret (v := szV ((s1 + ((j : Int) - 1), s2))) (by simp [results, Try.results49, go_sem, *]) rfl ⟨by rw [HRR.out], ?_⟩
        have HZ := HB.out
        (repeat' (first | (with_reducible exact Below.refl _ _) | (with_reducible assumption) | (with_reducible refine Below.alloc ?_ ?_ _) | (with_reducible refine Below.drew ?_) | (with_reducible refine below_set ?_ ?_ _) | (with_reducible refine below_call ?_ ?_ (by assumption)) | (with_reducible exact Below.size (by assumption)) | omega | go_size))
      | alt hk1 m2 hn1 h2 h1 =>
        simp only at hk1
        subst hk1
        have HRR : Hid (R = (s1 + ((j : Int) - 1), s2)) := Lib.hid (by rw [← hR]; rfl)
        clear hR CR h1 hn1
        go_wp2_with fail
        refine bodyPost_ret (v := szV ((s1 + ((j : Int) - 1), s2))) (by simp [results, Try.results49, go_sem, *]) rfl ⟨by rw [HRR.out], ?_⟩
        have HZ := HB.out
        (repeat' (first | (with_reducible exact Below.refl _ _) | (with_reducible assumption) | (with_reducible refine Below.alloc ?_ ?_ _) | (with_reducible refine Below.drew ?_) | (with_reducible refine below_set ?_ ?_ _) | (with_reducible refine below_call ?_ ?_ (by assumption)) | (with_reducible exact Below.size (by assumption)) | omega | go_size))
end Go.Proofs.Ytddokdjlmdoebaa

/- Walks of the package lower: how great a term is. -/
namespace Go.Proofs.Ytddokdjlmdoebaa
open Go.RowKit SetP AstP LowP ParP
theorem rawS_nonneg {x : Nd} {K : List Sz} {nl : Bool} (hx : aloneB x = true) (hK : ∀ s ∈ K, Bd s) (hl : K.length = x.kids.toNat) : 0 ≤ (rawS x K nl).1 ∧ 0 ≤ (rawS x K nl).2 := by
  have hs := Bd.sum hK
  unfold Bd at hs
  obtain ⟨kd, kn, n, m, f⟩ := x
  have hni := nodeIs hx
  unfold rawS
  simp only at *
  cases hni with
  | empty hk1 => simp only at hk1; subst hk1; exact ⟨by show (0 : Int) ≤ 1; decide, by show (0 : Int) ≤ 0; decide⟩
  | set hk1 => simp only at hk1; subst hk1; exact ⟨by show (0 : Int) ≤ 1; decide, by show (0 : Int) ≤ 1; decide⟩
  | group hk1 => simp only at hk1; subst hk1; exact ⟨by show 0 ≤ (sumS K).1 + 1; omega, hs.2.2.1⟩
  | rep hk1 hn1 hr h1 =>
    simp only at hk1 hr
    subst hk1
    show 0 ≤ (repS (sumS K) n m nl).1 ∧ 0 ≤ (repS (sumS K) n m nl).2
    obtain ⟨m0, m1, y0, y1, c0, c1⟩ := cop_bd hr nl
    unfold repS
    split
    · exact ⟨by decide, by decide⟩
    · obtain ⟨p0, p1⟩ := mul_bd (a := (sumS K).1 + 1) c0 c1 (by omega) (by omega)
      obtain ⟨q0, q1⟩ := mul_bd (a := (sumS K).2) c0 c1 hs.2.2.1 (by omega)
      have hc1 : 1 ≤ copN n m nl ∨ copN n m nl = 0 := by omega
      refine ⟨?_, q0⟩
      simp only
      have h0 : 1 ≤ copN n m nl := by
        rename_i hm
        have hm' : m ≠ 0 := by intro e; rw [e] at hm; exact hm rfl
        obtain ⟨r0, r1, r2⟩ := (right_iff n m).1 hr
        unfold copN mayN mustN
        cases nl
        · simp only [Bool.false_and, Bool.false_eq_true, if_false]
          split <;> (try split) <;> omega
        · simp only [Bool.true_and, beq_iff_eq]
          split <;> (split <;> (try split)) <;> omega
      split <;> omega
  | cat hk1 m2 hn1 h2 h1 => simp only at hk1 hn1; subst hk1; exact ⟨by show 0 ≤ (sumS K).1 + ((K.length : Int) - 1); omega, hs.2.2.1⟩
  | alt hk1 m2 hn1 h2 h1 => simp only at hk1 hn1; subst hk1; exact ⟨by show 0 ≤ (sumS K).1 + ((K.length : Int) - 1); omega, hs.2.2.1⟩
theorem szAt_bd {L : List Nd} (hF : formedF L = true) (hok : ∀ j, j < L.length → nodeOk L j = true) (k : Nat) (hk : k < L.length) : Bd (szAt L k) := by
  revert hk
  induction k using Nat.strongRecOn with
  | _ k ih =>
    intro hk
    have hn := rawS_nonneg (nl := lastNull L k) (nodeOk_parts (hok k hk)).1 (K := (kidsF L (k : Int)).map (szAt L)) (fun s hs => by
      obtain ⟨j, hj, rfl⟩ := List.mem_map.1 hs
      exact ih j (kidsF_lt hF hk hj) (Nat.lt_trans (kidsF_lt hF hk hj) hk)) (by rw [List.length_map, kidsF_length hF hk])
    rw [szAt_eq hF hk]
    exact ⟨capI_nonneg hn.1, capI_le _, capI_nonneg hn.2, capI_le _⟩
theorem szL_succ (L : List Nd) (k : Nat) : szL L (k + 1) = szL L k ++ [szAt L k] := by simp [szL, List.range_succ]
theorem szL_length (L : List Nd) (k : Nat) : (szL L k).length = k := by simp [szL]
theorem szL_get (L : List Nd) {j k : Nat} (h : j < k) : (szL L k).getD j (0, 0) = szAt L j := by
  unfold szL
  rw [List.getD_eq_getElem?_getD, List.getElem?_map, List.getElem?_range h]; rfl
set_option maxRecDepth 100000 in
theorem info_size : (Try.prog.info? 80).map (fun i => (i.zero, i.size, i.bytes)) = some (some (.agg #[.int .i64 0, .int .i64 0]), 2, 16) := by kernel_rfl
def lastB (L : List Nd) (K : List Nat) (m : Nat) : Bool := ((K.take m).map (nullAt L)).getLastD false
theorem lastB_succ (L : List Nd) {K : List Nat} {m : Nat} (h : m < K.length) : lastB L K (m + 1) = nullAt L (K.getD m 0) := by
  unfold lastB
  rw [take_snoc h, List.map_append, List.map_cons, List.map_nil]
  simp
def szK (L : List Nd) (K : List Nat) (m : Nat) : List Sz := (K.take m).map (szAt L)
theorem szK_succ (L : List Nd) {K : List Nat} {m : Nat} (h : m < K.length) : szK L K (m + 1) = szK L K m ++ [szAt L (K.getD m 0)] := by
  unfold szK; rw [take_snoc h, List.map_append]; rfl
theorem szK_length (L : List Nd) {K : List Nat} {m : Nat} (h : m ≤ K.length) : (szK L K m).length = m := by
  unfold szK; rw [List.length_map, List.length_take]; omega
set_option maxRecDepth 100000 in
set_option maxHeartbeats 2000000 in
theorem lsize_any (A : Option Addr) (c : Nat) (L : List Nd) (hlen : L.length ≤ 1000000) (w : World) (hL : NodesAt w w.heap.size A L) :
    Calls Try.prog 20 #[.slice A L.length c] w fun e w' => e = .returned (.tuple #[.int .i64 (sizeF L).1, .int .i64 (sizeF L).2]) ∧ Below w.heap.size w w' := by
  have CN := lnull_any A c L w hL
  have HL := Lib.hid hL; clear hL
  cases hr : rightF L with
  | false =>
    have e : nullF L = [] := by unfold nullF; rw [hr]; rfl
    have e2 : sizeF L = (0, 0) := by unfold sizeF; rw [hr]; rfl
    rw [e] at CN
    rw [e2]
    clear hr e e2
    go_enter Try.func20, Try.ntmps20
    go_wp2_with fail
    refine CN.mono ?_
    rintro e1 w1 ⟨A1, c1, rfl, hown, hb1⟩
    clear hown CN
    go_wp2_with fail
    go_loopw [5, 16] (fun a i wr => a = .slice none 0 0 ∧ i = .int .i64 0 ∧ wr = w1) (fun _ _ _ => 0)
    case atStart => exact ⟨rfl, rfl, rfl⟩
    case round =>
      obtain ⟨rfl, rfl, hw⟩ := hrel
      subst hw
      go_wp2
      refine bodyPost_ret (v := .tuple #[.int .i64 0, .int .i64 0]) (by simp [results, Try.results20, go_sem]) rfl ⟨rfl, hb1⟩
  | true =>
  obtain ⟨hF, hok, _⟩ := right_parts hr
  have e : nullF L = nullL L L.length := by unfold nullF; rw [hr]; rfl
  have e2 : sizeF L = szAt L (L.length - 1) := by unfold sizeF; rw [hr]; rfl
  have hpos := (root_size hF).1
  rw [e, nullL_length] at CN
  rw [e2]
  obtain ⟨N, hN⟩ : ∃ N, L.length = N := ⟨_, rfl⟩
  rw [hN] at hlen CN hpos ⊢
  have HN := Lib.hid hN
  have HF := Lib.hid hF
  have HOK := Lib.hid hok
  obtain ⟨⟨t1, t2⟩, hrs⟩ : ∃ p, szAt L (N - 1) = p := ⟨_, rfl⟩
  rw [hrs]
  have HRS := Lib.hid hrs
  clear hrs
  obtain ⟨i0, hi, hz0, hz1, hz2⟩ := info_parts info_size
  have HI := Lib.hid hi; clear hi
  have HZ0 := Lib.hid hz0; clear hz0
  have HZ1 := Lib.hid hz1; clear hz1
  have HZ2 := Lib.hid hz2; clear hz2
  clear hN hF hok hr e e2
  go_enter Try.func20, Try.ntmps20
  go_wp2_with fail
  refine CN.mono ?_
  rintro e1 w1 ⟨A1, c1, rfl, hown1, hb1⟩
  obtain ⟨gN, rfl, hgb, hgN, hcN, hcellN⟩ := row_cell hown1 hpos
  have HCN := Lib.hid hcellN
  have hsz1 : w.heap.size ≤ w1.heap.size := hb1.size
  have HB1 := Lib.hid hb1
  clear CN hown1 hcellN hb1
  go_wp2_with fail
  go_loopw [5, 16] (fun a i wr => ∃ (k : Nat) (A' : Option Addr) (c' : Nat), k ≤ N ∧ i = .int .i64 k ∧ a = .slice A' k c' ∧ wr.ownsRow w1.heap.size 80 2 (.slice A' k c') k (flatS (szL L k)) ∧ Below w.heap.size w wr ∧ Below w1.heap.size w1 wr) (fun _ i _ => N - (intOf i).toNat)
  case atStart => exact ⟨0, none, 0, Nat.zero_le _, rfl, rfl, World.ownsRow_nil _ _ _ _, HB1.out, Below.refl _ _⟩
  case round =>
    clear HB1
    obtain ⟨k, A', c', hk, rfl, rfl, hown, hB, hX⟩ := hrel
    have HB := Lib.hid hB
    have HX := Lib.hid hX
    clear hB hX
    by_cases hlt : k < N
    · have hltL : k < L.length := by rw [HN.out]; exact hlt
      have CK := kids_any A c L k wr ((HL.out.below HB.out).more HB.out.size)
      rw [HN.out] at CK
      have hklt := fun j hj => kidsF_lt (L := L) (k := k) (j := j) HF.out hltL hj
      have HKLT := Lib.hid hklt
      have hkl := kidsF_length HF.out hltL
      have hat := formed_at HF.out hltL
      have hstl := St_len (L := L) (k := k) (by omega)
      have hKb : (kidsF L (k : Int)).length ≤ N := by omega
      have hsz := szAt_eq HF.out hltL
      have hal := (nodeOk_parts (HOK.out k hltL)).1
      unfold lastNull at hsz
      obtain ⟨K, hK⟩ : ∃ K, kidsF L (k : Int) = K := ⟨_, rfl⟩
      rw [hK] at CK hKb HKLT hsz
      have HSZ := Lib.hid hsz
      have HAL := Lib.hid hal
      clear hklt hkl hat hstl hK hsz hal
      go_wp2_with fail
      refine CK.mono ?_
      rintro e3 w3 ⟨A3, c3, rfl, hrow, hb3⟩
      have HK := Lib.hid (row_at0 hrow (by omega))
      have hown3 := row_call hown hb3
      have HB3 := Lib.hid (below_then HB.out hb3)
      have HX3 := Lib.hid (below_then HX.out hb3)
      clear CK hrow hb3 hown HB HX
      obtain ⟨M, hM⟩ : ∃ M, K.length = M := ⟨_, rfl⟩
      rw [hM]
      rw [hM] at hKb
      have HM := Lib.hid hM
      clear hM
      go_wp2_with fail
      go_loopw [7, 8, 23] (fun a2 s j wr2 => ∃ (m : Nat) (Ak : Option Addr) (ck : Nat), m ≤ M ∧ j = .int .i64 m ∧ a2 = .slice Ak m ck ∧ s = .bool (lastB L K m) ∧ wr2.ownsRow w3.heap.size 80 2 (.slice Ak m ck) m (flatS (szK L K m)) ∧ Below w3.heap.size w3 wr2) (fun _ _ j _ => M - (intOf j).toNat)
      case atStart => exact ⟨0, none, 0, Nat.zero_le _, rfl, rfl, rfl, World.ownsRow_nil _ _ _ _, Below.refl _ _⟩
      case round =>
        rename World => wr2
        obtain ⟨m, Ak, ck, hm, rfl, rfl, rfl, hownk, hZ⟩ := hrel
        have HZ := Lib.hid hZ
        clear hZ
        have HXZ := Lib.hid (HX3.out.trans (HZ.out.mono HX3.out.size))
        by_cases hlt2 : m < M
        · have hmK : m < K.length := by rw [HM.out]; exact hlt2
          obtain ⟨b3, off3, rfl, hb3, hc3⟩ := (HK.out.below HZ.out).at_ (j := m) hmK
          have hkj := HKLT.out (K.getD m 0) (by rw [List.getD_eq_getElem?_getD, List.getElem?_eq_getElem hmK]; exact List.getElem_mem _)
          have E1 := Lib.hid (lastB_succ L hmK)
          have E2 := Lib.hid (szK_succ L hmK)
          have hcn := (HXZ.out.cell (p := ⟨gN, K.getD m 0, none⟩) hgN).trans (HCN.out (K.getD m 0) (by omega))
          have hsa := (SzAt.of_row hown3 (szL_length L k)).below HZ.out
          obtain ⟨b4, off4, hA4, hb4, hc4⟩ : ∃ b off, A' = some ⟨b, off, none⟩ ∧ b < w3.heap.size ∧ ∀ j, j < (szL L k).length → wr2.cell? ⟨b, off + j * 2, none⟩ = some (.int .i64 ((szL L k).getD j (0, 0)).1) ∧ wr2.cell? ⟨b, off + j * 2 + 1, none⟩ = some (.int .i64 ((szL L k).getD j (0, 0)).2) := by
            rcases hsa with h | h
            · rw [szL_length] at h; omega
            · exact h
          subst hA4
          obtain ⟨d1, d2⟩ := hc4 (K.getD m 0) (by rw [szL_length]; exact hkj)
          rw [szL_get L hkj] at d1 d2
          have hnl : ((nullL L N).map Value.bool)[K.getD m 0]? = some (.bool (nullAt L (K.getD m 0))) := by rw [List.getElem?_map, nullL_get L (by omega)]; rfl
          rw [hnl] at hcn
          generalize K.getD m 0 = j at *
          generalize nullAt L j = v at *
          generalize szAt L j = sz at *
          obtain ⟨s1, s2⟩ := sz
          simp only at d1 d2
          have hjN : j < N := by omega
          have hwz : w3.heap.size ≤ wr2.heap.size := HZ.out.size
          clear hc4 hsa hnl
          have hgw : gN < w3.heap.size := Nat.lt_of_lt_of_le hgN HX3.out.size
          go_wp2_with (at_builtin; go_must (refine wpList_append_elem _ rfl (.tmp 27) (.tmp 32) 78 rfl (w3.heap.size) 80 i0 _ _ _ Try.underlying78 HI.out HZ0.out HZ1.out HZ2.out rfl (by decide) _ _ _ _ rfl hownk #[.int .i64 s1, .int .i64 s2] _ rfl (by first | rfl | simp) rfl (by simp [Value.oneCell']) (by unfold maxLen; omega) (by omega) (by first | omega | (simp; omega)) ?_); intro A4 q4 w4 hown4 hbl4; have hcn4 := (hbl4.cell (p := ⟨gN, j, none⟩) hgw).trans hcn; clear hcn d1 d2 hc3)
          go_roundw
          case rel => exact ⟨m + 1, A4, q4, by omega, by go_num, rfl, by rw [E1.out], by rw [E2.out, flatS_append]; exact hown4, HZ.out.trans hbl4⟩
          case measure => simp [intOf]; omega
        · obtain rfl : m = M := by omega
          have htk : K.take m = K := by rw [← HM.out, List.take_length]
          have hsz := HSZ.out
          have e1 : lastB L K m = (K.map (nullAt L)).getLastD false := by unfold lastB; rw [htk]
          have e2 : szK L K m = K.map (szAt L) := by unfold szK; rw [htk]
          have hlenK : (szK L K m).length = m := szK_length L (by rw [HM.out]; omega)
          rw [← e1, ← e2] at hsz
          have hbd : ∀ s ∈ szK L K m, Bd s := fun s hs => by
            rw [e2] at hs
            obtain ⟨j, hj, rfl⟩ := List.mem_map.1 hs
            have := HKLT.out j hj
            exact szAt_bd HF.out HOK.out j (by omega)
          obtain ⟨b, off, rfl, hbb, hn8⟩ := (HL.out.below (HB3.out.trans (HZ.out.mono HB3.out.size))).node hltL
          have CS := sum_any (L.getD k ndEmpty) (szK L K m) (lastB L K m) Ak ck HAL.out hbd (by rw [hlenK]; omega) wr2 (SzAt.of_row hownk hlenK)
          rw [hlenK] at CS
          obtain ⟨⟨r1, r2⟩, hrw⟩ : ∃ p, rawS (L.getD k ndEmpty) (szK L K m) (lastB L K m) = p := ⟨_, rfl⟩
          rw [hrw] at CS hsz
          have HSZ2 := Lib.hid hsz
          have hown5 := row_call hown3 HZ.out
          have HB5 := Lib.hid (HB3.out.trans (HZ.out.mono HB3.out.size))
          have hszk := szL_succ L k
          have HSK := Lib.hid hszk
          generalize L.getD k ndEmpty = x at *
          unfold Node8 at hn8
          obtain ⟨n0, n1, n2, n3, n4, n5, n6, n7⟩ := hn8
          generalize lastB L K m = lb at *
          clear hsz hrw e1 e2 htk hbd hownk hown3 hszk HB3 HX3 HK HKLT HSZ
          go_wp2_with fail
          refine CS.mono ?_
          rintro e5 w5 ⟨rfl, hb5⟩
          have hown6 := row_call hown5 hb5
          have HB6 := Lib.hid (below_then HB5.out hb5)
          have HX6 := Lib.hid (below_then HXZ.out hb5)
          clear hb5 hown5 HB5 CS n0 n1 n2 n3 n4 n5 n6 n7 HXZ HZ
          go_wp2_with fail
          refine (capped_any r1 r2 _).mono ?_
          rintro e7 w7 ⟨rfl, hb7⟩
          have hown8 := row_call hown6 hb7
          have HB8 := Lib.hid (below_then HB6.out hb7)
          have HX8 := Lib.hid (below_then HX6.out hb7)
          have hww : w.heap.size ≤ w7.heap.size := HB8.out.size
          have hw1 : w1.heap.size ≤ w7.heap.size := HX8.out.size
          clear hb7 hown6 HB6 HX6
          go_wp2_with (at_builtin; go_must (refine wpList_append_elem _ rfl (.tmp 39) (.tmp 48) 78 rfl (w1.heap.size) 80 i0 _ _ _ Try.underlying78 HI.out HZ0.out HZ1.out HZ2.out rfl (by decide) _ _ _ _ rfl hown8 #[.int .i64 (capI r1), .int .i64 (capI r2)] _ rfl (by first | rfl | simp) rfl (by simp [Value.oneCell']) (by unfold maxLen; omega) (by omega) (by first | omega | (simp; omega)) ?_); intro A4 q4 w4 hown4 hbl4)
          have HBZ := HB8.out.trans (hbl4.mono hsz1)
          go_roundw
          case rel => exact ⟨k + 1, A4, q4, by omega, by go_num, rfl, by rw [HSK.out, HSZ2.out, flatS_append]; exact hown4, HBZ, HX8.out.trans hbl4⟩
          case measure => simp [intOf]; omega
    · obtain rfl : k = N := by omega
      obtain ⟨r, hr⟩ : ∃ r, k = r + 1 := ⟨k - 1, by omega⟩
      obtain ⟨g, rfl, hgg, hgl, hgc, hcell⟩ := row_cell hown (by omega)
      obtain ⟨d1, d2⟩ := flatS_get (szL L k) r (by rw [szL_length]; omega)
      rw [szL_get L (by omega)] at d1 d2
      have q1 := (hcell (r * 2) (by omega)).trans d1
      have q2 := (hcell (r * 2 + 1) (by omega)).trans d2
      have hrk : k - 1 = r := by omega
      have hz := HRS.out
      rw [hrk] at hz
      rw [hz] at q1 q2
      simp only at q1 q2
      have hn0 : ((k : Int) == 0) = false := beq_eq_false_iff_ne.2 (by omega)
      have hn1 : (k == 0) = false := beq_eq_false_iff_ne.2 (by omega)
      have x1 : (k : Int) - 1 = (r : Int) := by omega
      have hrk2 : r < k := by omega
      clear hcell hown d1 d2 hrk hlt
      have HBA := Lib.hid (HB.out.alloc HB.out.size (.cells #[.int .i64 t1, .int .i64 t2] 80))
      go_wp2_with fail
      go_quiet (fail)
      go_wp2
      refine bodyPost_ret (v := .tuple #[.int .i64 t1, .int .i64 t2]) (by simp [results, Try.results20, go_sem]) rfl ⟨rfl, ?_⟩
      first
        | exact HBA.out
        | exact HBA.out.drew
        | exact below_drewN HBA.out _
end Go.Proofs.Ytddokdjlmdoebaa

/- Plain facts on terms of trees: how long a term is. No program is in sight. -/
namespace Go.Proofs.Ytddokdjlmdoebaa
open SetP AstP
namespace LowP
def lens (P : List (List Tm)) : Nat := (P.map List.length).sum
theorem joinT_length (k : Int) (P : List (List Tm)) (h : P ≠ []) : (joinT k P).length + 1 = lens P + P.length := by
  induction P with
  | nil => exact absurd rfl h
  | cons p P ih =>
    cases P with
    | nil => simp [joinT, lens]
    | cons q P =>
      have := ih (by simp)
      rw [joinT, twoT_length]
      unfold lens at *
      rw [List.map_cons, List.sum_cons, List.length_cons]
      omega
theorem lacksT_length (one : List Tm) (n : Nat) : (lacksT one n).length = (n + 1) * one.length + 2 * n + 1 := by
  induction n with
  | zero => rw [lacksT, unaT_length]; simp
  | succ n ih =>
    rw [lacksT, unaT_length, twoT_length, ih, Nat.succ_mul (n + 1)]
    omega
theorem lens_app (P Q : List (List Tm)) : lens (P ++ Q) = lens P + lens Q := by unfold lens; rw [List.map_append, List.sum_append]
theorem lens_rep (n : Nat) (p : List Tm) : lens (List.replicate n p) = n * p.length := by unfold lens; rw [List.map_replicate, List.sum_replicate_nat]
theorem lens_one (p : List Tm) : lens [p] = p.length := by simp [lens]
/-- How long a Rep's term is. -/
theorem repT_length {X : List Tm} {n m : Int} {nl : Bool} (hr : rightB n m = true) (b : Int) : ((repT X n m nl).length : Int) = (repS ((X.length : Int), b) n m nl).1 := by
  unfold repT repS
  cases hm : (m == 0) with
  | true => rfl
  | false =>
    have hm0 : m ≠ 0 := by intro e; rw [e] at hm; exact absurd hm (by decide)
    rw [if_neg (by decide), if_neg (by decide)]
    have hne := partsT_ne (X := unaT X 8 0) (nl := nl) hr hm0
    have hj := joinT_length 3 _ hne
    obtain ⟨m0, m1, y0, y1, c0, c1⟩ := cop_bd hr nl
    obtain ⟨M, hM⟩ : ∃ M : Nat, mustN n nl = M := ⟨_, (Int.toNat_of_nonneg m0).symm⟩
    have hc : copN n m nl = if m < 0 then mustN n nl + 1 else mustN n nl + mayN n m nl := rfl
    obtain ⟨a, ha⟩ : ∃ a, (unaT X 8 0).length = a := ⟨_, rfl⟩
    have hX : (X.length : Int) + 1 = a := by rw [← ha, unaT_length]; rfl
    simp only
    rw [hX, hc, hM]
    generalize hj1 : (joinT 3 (partsT (unaT X 8 0) n m nl)).length = J at *
    have hmay : mayN n m nl = if m < 0 then 0 else mayN n m nl := by unfold mayN; split <;> rfl
    unfold partsT at hj
    rw [hM, lens_app, List.length_append, List.length_replicate, lens_rep, ha] at hj
    simp only [Int.toNat_natCast] at hj
    by_cases hneg : m < 0
    · rw [if_pos hneg] at hj hmay ⊢
      rw [hmay, if_pos hneg]
      rw [lens_one, unaT_length, ha] at hj
      simp only [List.length_cons, List.length_nil] at hj
      have e : ((M : Int) + 1) * a = (M * a : Nat) + a := by rw [Int.add_mul]; simp
      rw [e]; omega
    · rw [if_neg hneg] at hj ⊢
      rw [if_neg hneg]
      by_cases hp : 0 < mayN n m nl
      · rw [if_pos hp] at hj
        obtain ⟨y, hy⟩ : ∃ y : Nat, mayN n m nl = (y : Int) + 1 := ⟨(mayN n m nl).toNat - 1, by omega⟩
        rw [hy] at hj ⊢
        rw [lens_one, show ((y : Int) + 1).toNat - 1 = y by omega, lacksT_length, ha] at hj
        simp only [List.length_cons, List.length_nil] at hj
        have e : ((M : Int) + ((y : Int) + 1)) * a = (M * a : Nat) + ((y + 1) * a : Nat) := by rw [Int.add_mul]; simp
        rw [e]; omega
      · rw [if_neg hp] at hj
        have hz : mayN n m nl = 0 := by omega
        rw [hz]
        simp [lens] at hj
        have e : ((M : Int) + 0) * a = (M * a : Nat) := by simp
        rw [e]; omega
theorem capI_eq {x : Int} (h : capI x < 1000000) : capI x = x := by
  unfold capI at *; split at h <;> omega
theorem fold_sum (K : List Sz) (hK : ∀ s ∈ K, 0 ≤ s.1 ∧ 0 ≤ s.2) (a : Sz) (ha : 0 ≤ a.1 ∧ 0 ≤ a.2 ∧ a.1 ≤ 1000000 ∧ a.2 ≤ 1000000) (h : (K.foldl addS a).1 < 1000000) : (K.foldl addS a).1 = a.1 + (K.map Prod.fst).sum ∧ 0 ≤ (K.map Prod.fst).sum ∧ ∀ s ∈ K, s.1 ≤ (K.map Prod.fst).sum := by
  induction K generalizing a with
  | nil => simp
  | cons s K ih =>
    have h1 := hK s (by simp)
    rw [List.foldl_cons] at h ⊢
    have ih := ih (fun x hx => hK x (by simp [hx])) (addS a s) ⟨capI_nonneg (by omega), capI_nonneg (by omega), capI_le _, capI_le _⟩ h
    obtain ⟨i1, i2, i3⟩ := ih
    have hc : (addS a s).1 < 1000000 := by omega
    have hc2 : (addS a s).1 = a.1 + s.1 := capI_eq hc
    rw [List.map_cons, List.sum_cons]
    refine ⟨by omega, by omega, fun t ht => ?_⟩
    rcases List.mem_cons.1 ht with rfl | ht
    · omega
    · have := i3 t ht; omega
theorem sum_fst (K : List Sz) (hK : ∀ s ∈ K, 0 ≤ s.1 ∧ 0 ≤ s.2) (h : (sumS K).1 < 1000000) : (sumS K).1 = (K.map Prod.fst).sum ∧ 0 ≤ (K.map Prod.fst).sum ∧ ∀ s ∈ K, s.1 ≤ (K.map Prod.fst).sum := by
  have := fold_sum K hK (0, 0) ⟨by decide, by decide, by decide, by decide⟩ h
  obtain ⟨a, b⟩ := this
  exact ⟨by unfold sumS; rw [a]; simp, b⟩
end LowP
end Go.Proofs.Ytddokdjlmdoebaa

/- Plain facts on terms of trees: a term is as long as its tree's size tells. No program is in sight. -/
namespace Go.Proofs.Ytddokdjlmdoebaa
open SetP AstP
namespace LowP
theorem cop_pos {n m : Int} (nl : Bool) (hr : rightB n m = true) (hm : m ≠ 0) : 1 ≤ copN n m nl := by
  obtain ⟨r0, r1, r2⟩ := (right_iff n m).1 hr
  unfold copN mayN mustN
  cases nl
  · simp only [Bool.false_and, Bool.false_eq_true, if_false]
    split <;> (try split) <;> omega
  · simp only [Bool.true_and, beq_iff_eq]
    split <;> (split <;> (try split)) <;> omega
theorem repS_ge {s : Sz} {n m : Int} {nl : Bool} (hr : rightB n m = true) (hm : (m == 0) = false) (hs : 0 ≤ s.1) : s.1 + 1 ≤ (repS s n m nl).1 := by
  have hm0 : m ≠ 0 := by intro e; rw [e] at hm; exact absurd hm (by decide)
  have hc := cop_pos nl hr hm0
  obtain ⟨_, _, y0, _, _, _⟩ := cop_bd hr nl
  unfold repS
  rw [hm, if_neg (by decide)]
  simp only
  have h1 : 1 * (s.1 + 1) ≤ copN n m nl * (s.1 + 1) := Int.mul_le_mul_of_nonneg_right hc (by omega)
  split <;> omega
theorem map_sum (l : List (List Tm)) : ((l.map List.length).sum : Nat) = (l.map fun p => (p.length : Int)).sum := by
  induction l with
  | nil => rfl
  | cons p l ih => simp only [List.map_cons, List.sum_cons]; omega
theorem termAt_length {L : List Nd} (hF : formedF L = true) (hok : ∀ j, j < L.length → nodeOk L j = true) (i : Nat) (hi : i < L.length) (h : (szAt L i).1 < 1000000) : ((termAt L i).length : Int) = (szAt L i).1 := by
  revert hi h
  induction i using Nat.strongRecOn with
  | _ i ih =>
    intro hi h
    have hsz := szAt_eq hF hi
    rw [hsz] at h ⊢
    simp only at h ⊢
    have hr := capI_eq h
    rw [hr] at h ⊢
    clear hr hsz
    have hnn : ∀ s ∈ (kidsF L (i : Int)).map (szAt L), 0 ≤ s.1 ∧ 0 ≤ s.2 := fun s hs => by
      obtain ⟨j, hj, rfl⟩ := List.mem_map.1 hs
      have := szAt_bd hF hok j (Nat.lt_trans (kidsF_lt hF hi hj) hi)
      exact ⟨this.1, this.2.2.1⟩
    have hkl := kidsF_length hF hi
    have hk1 : ∀ K : List Sz, 1 ≤ K.length ∨ K = [] := fun K => by cases K <;> simp
    rcases termAt_cases hF hok hi _ rfl with ⟨hk, ht⟩ | ⟨hk, j, hj, hji, ht⟩ | ⟨hk, hrt, j, hj, hji, ht⟩ | ⟨q, hk, h0, ht⟩
    · rw [ht]
      unfold rawS
      rcases hk with hk | hk
      · rw [hk]; rfl
      · rw [hk]; rfl
    · rw [ht, unaT_length]
      have e : (rawS (L.getD i ndEmpty) ((kidsF L (i : Int)).map (szAt L)) (lastNull L i)).1 = (sumS ((kidsF L (i : Int)).map (szAt L))).1 + 1 := by unfold rawS; rw [hk]; rfl
      rw [e] at h ⊢
      obtain ⟨s1, s2, s3⟩ := sum_fst _ hnn (by omega)
      rw [hj] at s1 h ⊢
      simp at s1
      have := ih j hji (by omega) (by simp at h; omega)
      simp only [List.map_cons, List.map_nil]
      omega
    · rw [ht]
      have e : rawS (L.getD i ndEmpty) ((kidsF L (i : Int)).map (szAt L)) (lastNull L i) = repS (sumS ((kidsF L (i : Int)).map (szAt L))) (L.getD i ndEmpty).n (L.getD i ndEmpty).m (lastNull L i) := by unfold rawS; rw [hk]; rfl
      have en : lastNull L i = nullAt L j := by unfold lastNull; rw [hj]; rfl
      rw [e, en] at h ⊢
      cases hm : ((L.getD i ndEmpty).m == 0) with
      | true =>
        unfold repT repS
        rw [hm]; rfl
      | false =>
        have hb := sumS_bd _ hnn
        have hg := repS_ge (nl := nullAt L j) hrt hm hb.1
        obtain ⟨s1, s2, s3⟩ := sum_fst _ hnn (by omega)
        have hs2 : (sumS ((kidsF L (i : Int)).map (szAt L))).1 = (szAt L j).1 := by rw [s1, hj]; simp
        have hj2 := ih j hji (by omega) (by omega)
        rw [repT_length hrt (sumS ((kidsF L (i : Int)).map (szAt L))).2, hj2, ← hs2]
    · rw [ht]
      have e : (rawS (L.getD i ndEmpty) ((kidsF L (i : Int)).map (szAt L)) (lastNull L i)).1 = (sumS ((kidsF L (i : Int)).map (szAt L))).1 + (((kidsF L (i : Int)).map (szAt L)).length - 1 : Int) := by
        unfold rawS
        rcases hk with ⟨hk, _⟩ | ⟨hk, _⟩ <;> (rw [hk]; rfl)
      rw [e, List.length_map] at h ⊢
      obtain ⟨s1, s2, s3⟩ := sum_fst _ hnn (by omega)
      have hjl := joinT_length q ((kidsF L (i : Int)).map (termAt L)) (by intro e; rw [List.map_eq_nil_iff] at e; rw [e] at h0; simp at h0)
      rw [List.length_map] at hjl
      have hl : (lens ((kidsF L (i : Int)).map (termAt L)) : Int) = (((kidsF L (i : Int)).map (szAt L)).map Prod.fst).sum := by
        unfold lens
        rw [map_sum, List.map_map, List.map_map]
        congr 1
        refine List.map_congr_left fun j hj => ?_
        have hji := kidsF_lt hF hi hj
        have := s3 _ (List.mem_map.2 ⟨j, hj, rfl⟩)
        exact ih j hji (by omega) (by omega)
      omega
end LowP
end Go.Proofs.Ytddokdjlmdoebaa
