/- Walks of the package lower: rep. -/
import Derived.Test.YtddokdjlmdoebaaProg
import Derived.WalkKit
import Derived.WalkSpells
import Derived.WalkLawsBesides
import Derived.Handy
import Derived.Lib.Hide
import Derived.Test.YtddokdjlmdoebaaMLoI
import Derived.Deep.Cut
import Derived.Test.YtddokdjlmdoebaaAstN
set_option linter.unusedVariables false
set_option linter.unusedSimpArgs false
namespace Go.Proofs.Ytddokdjlmdoebaa
open Go.RowKit SetP AstP LowP ParP
theorem shL_E (d : Nat) : shL d [tmE] = [tmE] := rfl
theorem shL_L (d : Nat) (f : Nat → Bool) : shL d [tmL f] = [tmL f] := rfl
set_option maxRecDepth 100000 in
theorem info_func : (Try.prog.info? 129).map (fun i => (i.zero, i.size, i.bytes)) = some (some .nilFunc, 1, 8) := by kernel_rfl
/-- The plan was laid. -/
structure Planned (b w' : World) (P : Nat) (mu ma : Int) (e : Bool) : Prop where
  below : Below b.heap.size b w'
  slab : Slab w' P #[.int .i64 mu, .int .i64 ma, .bool e] 187
  far : b.heap.size ≤ P
theorem pl_a {b w5 : World} {P : Nat} {mu ma : Int} {e : Bool} (hb : Below b.heap.size b w5) (hs : Slab w5 P #[.int .i64 0, .int .i64 0, .bool false] 187) (hP : b.heap.size ≤ P) :
    Planned b (((w5.setCell ⟨P, 0, none⟩ (.int .i64 mu)).setCell ⟨P, 1, none⟩ (.int .i64 ma)).setCell ⟨P, 2, none⟩ (.bool e)) P mu ma e :=
  ⟨below_set (below_set (below_set hb hP _) hP _) hP _, ((hs.set 0 _).set 1 _).set 2 _, hP⟩
theorem pl_b {b w5 : World} {mu ma : Int} {e : Bool} (hb : Below b.heap.size b w5) : Planned b (w5.alloc (.cells #[.int .i64 mu, .int .i64 ma, .bool e] 187)) w5.heap.size mu ma e :=
  ⟨hb.alloc hb.size _, Slab.new _ _ _, hb.size⟩
set_option maxRecDepth 100000 in
/-- join, of a row of one's own. -/
theorem join_row (B g : Nat) (V : Told) (k : Int) (PF : List (Value × List Tm)) {base : Nat} {A : Option Addr} {c n : Nat} (O : List Tm) (w : World) (h : w.ownsRow base 129 1 (.slice A n c) n (PF.map Prod.fst)) (hn : PF.length = n) (hg : g < base) (h0 : 0 < n) (hlen : n ≤ 100000)
    (hM : ∀ p ∈ PF, Makes B g V w p.1 p.2) (hO : Mk w B g V O) (hl : O.length + (joinT k (PF.map Prod.snd)).length ≤ 1000000) :
    Calls Try.prog 94 #[pp g, .int .i64 k, .slice A n c] w (Made B g V (O ++ shL O.length (joinT k (PF.map Prod.snd))) w) := by
  obtain ⟨b, cur, rfl, hb, hc, hs, hz, ht⟩ := row_at h h0
  subst hn
  refine join_any B g V k PF b 0 c cur O w (by intro e; rw [e] at h0; simp at h0) hM ⟨hs, by omega, fun j hj => ?_⟩ hc hlen hO hl
  rw [List.length_map] at hj
  rw [Nat.zero_add, ← ht, List.getElem?_take_of_lt (by omega)]
  simp
set_option maxRecDepth 100000 in
set_option maxHeartbeats 2000000 in
theorem rep_zero (B g : Nat) (V : Told) (kd kn n m : Int) (f : Nat → Bool) (kid : Nat) (O : List Tm) (w : World) (hm : (m == 0) = true) (hO : Mk w B g V O) (hl : O.length ≤ 1000000) :
    Calls Try.prog 92 #[pp g, ndV ⟨kd, kn, n, m, f⟩, .int .i64 kid] w (Made B g V (O ++ [tmE]) w) := by
  have C := fun w1 (h1 : Mk w1 B g V O) => mput_any h1 tmE #[.int .i64 1, .int .i64 (-1), .int .i64 (-1), .int .i64 0, .int .u64 0, .int .u64 0, .int .u64 0, .int .u64 0] (by simp [tmCells, tmE, wd_zSet]) hl
  have hbx : Below w.heap.size w (((w.alloc (.cells #[pp g] 85)).alloc (.cells (ndCells ⟨kd, kn, n, m, f⟩) 43)).alloc (.cells #[.int .i64 kid] 3)) := (((Below.refl _ _).alloc (by simp) _).alloc (by simp) _).alloc (by simp; omega) _
  have HO := Lib.hid (hO.keep hbx)
  have HB := Lib.hid ((Below.refl B w).trans (hbx.mono hO.le))
  have HK := Lib.hid (KeptM.of (g := g) hbx)
  generalize O ++ [tmE] = O1 at *
  have HC := Lib.hid C
  clear hbx hO C
  go_enter Try.func92, Try.ntmps92
  go_wp2_with fail
  refine (HC.out _ HO.out).mono ?_
  rintro e1 w1 ⟨rfl, hb1, hk1, h1⟩
  clear HC
  go_wp2_with fail
  go_ret
  exact ⟨rfl, HB.out.trans hb1, HK.out.trans hk1, h1⟩
set_option maxRecDepth 100000 in
set_option maxHeartbeats 2000000 in
theorem rep_any (B g : Nat) (V : Told) (kd kn n m : Int) (f : Nat → Bool) (kid : Nat) (X : List Tm) (nl : Bool) (O : List Tm) (w : World) (hr : rightB n m = true) (hm0 : (m == 0) = false) (hM : NodeMakes B g V w kid X)
    (gN N cN : Nat) (csN : Array Value) (hnull : V.null = .slice (some ⟨gN, 0, none⟩) N cN) (hN : Slab w gN csN 4) (hgN : gN ≠ g) (hkid : kid < N) (hcell : csN[kid]? = some (.bool nl)) (hO : Mk w B g V O) (hl : O.length + (repT X n m nl).length ≤ 1000000) :
    Calls Try.prog 92 #[pp g, ndV ⟨kd, kn, n, m, f⟩, .int .i64 kid] w (Made B g V (O ++ shL O.length (repT X n m nl)) w) := by
  have e0 : repT X n m nl = joinT 3 (partsT (unaT X 8 0) n m nl) := by unfold repT; rw [hm0]; rfl
  rw [e0] at hl ⊢
  have CP := planOf_any ⟨kd, kn, n, m, f⟩ nl hr
  obtain ⟨m0, m1, y0, y1, -, -⟩ := cop_bd hr nl
  have hne := partsT_ne (X := unaT X 8 0) (nl := nl) hr (by intro e; rw [e] at hm0; exact absurd hm0 (by decide))
  have hlt := hO.lt
  have hgNl := hN.lt
  have hbx : Below w.heap.size w (((w.alloc (.cells #[pp g] 85)).alloc (.cells (ndCells ⟨kd, kn, n, m, f⟩) 43)).alloc (.cells #[.int .i64 kid] 3)) := (((Below.refl _ _).alloc (by simp) _).alloc (by simp) _).alloc (by simp; omega) _
  have hbf : Below w.heap.size w (((((w.alloc (.cells #[pp g] 85)).alloc (.cells (ndCells ⟨kd, kn, n, m, f⟩) 43)).alloc (.cells #[.int .i64 kid] 3))).alloc (.cells #[Fone w.heap.size (w.heap.size + 1 + 1)] 129)) := hbx.alloc (by simp; omega) _
  have s0 : Slab (((w.alloc (.cells #[pp g] 85)).alloc (.cells (ndCells ⟨kd, kn, n, m, f⟩) 43)).alloc (.cells #[.int .i64 kid] 3)) w.heap.size #[pp g] 85 := ((Slab.new _ _ _).alloc _).alloc _
  have s1 : Slab (((w.alloc (.cells #[pp g] 85)).alloc (.cells (ndCells ⟨kd, kn, n, m, f⟩) 43)).alloc (.cells #[.int .i64 kid] 3)) (w.heap.size + 1) (ndCells ⟨kd, kn, n, m, f⟩) 43 := (Slab.newAt _ _ _ (by simp)).alloc _
  have s2 : Slab (((w.alloc (.cells #[pp g] 85)).alloc (.cells (ndCells ⟨kd, kn, n, m, f⟩) 43)).alloc (.cells #[.int .i64 kid] 3)) (w.heap.size + 1 + 1) #[.int .i64 kid] 3 := Slab.newAt _ _ _ (by simp)
  have s3 : Slab (((((w.alloc (.cells #[pp g] 85)).alloc (.cells (ndCells ⟨kd, kn, n, m, f⟩) 43)).alloc (.cells #[.int .i64 kid] 3))).alloc (.cells #[Fone w.heap.size (w.heap.size + 1 + 1)] 129)) (w.heap.size + 1 + 1 + 1) #[Fone w.heap.size (w.heap.size + 1 + 1)] 129 := Slab.newAt _ _ _ (by simp)
  have H0 := Lib.hid (s0.alloc (.cells #[Fone w.heap.size (w.heap.size + 1 + 1)] 129))
  have H1 := Lib.hid (s1.alloc (.cells #[Fone w.heap.size (w.heap.size + 1 + 1)] 129))
  have H2 := Lib.hid (s2.alloc (.cells #[Fone w.heap.size (w.heap.size + 1 + 1)] 129))
  have H3 := Lib.hid s3
  have HN := Lib.hid (hN.call hbf)
  obtain ⟨Ab, cb, hO'⟩ := hO.keep hbf
  have HG := Lib.hid hO'.slab
  have HO := Lib.hid (hO.keep hbf)
  have HB := Lib.hid hbf
  have HM := Lib.hid hM
  have HCP := Lib.hid CP
  have hmf : ∀ (fn : Fn) (first cap : Array Value) (w : World), (Instr.makeFunc fn first cap).run Try.prog w = .ok (.func fn first cap) w := fun _ _ _ _ => rfl
  have hsf := fun (a : Addr) (c : Array Value) (w : World) => run_store Try.prog w a (.func (.func 136) #[] c) .plain rfl
  obtain ⟨v0, v1, v2, v3⟩ := V
  simp only at hnull
  subst hnull
  obtain ⟨c1, f1⟩ := s1.facts
  have ck := (HN.out.cell kid).trans hcell
  have HCE := Lib.hid hcell
  obtain ⟨cg, fg⟩ := HG.out.facts
  obtain ⟨ck0, fk0⟩ := H0.out.facts
  obtain ⟨ck1, fk1⟩ := H1.out.facts
  obtain ⟨ck2, fk2⟩ := H2.out.facts
  have HNE := Lib.hid hne
  have HEQ : Hid (partsT (unaT X 8 0) n m nl = List.replicate (mustN n nl).toNat (unaT X 8 0) ++ if decide (m < 0) = true then [unaT (unaT X 8 0) 5 0] else if 0 < mayN n m nl then [lacksT (unaT X 8 0) ((mayN n m nl).toNat - 1)] else []) := Lib.hid (by unfold partsT; simp)
  obtain ⟨M, hMu⟩ : ∃ M : Nat, mustN n nl = M := ⟨_, (Int.toNat_of_nonneg m0).symm⟩
  rw [hMu] at HCP HEQ m1
  generalize hmay : mayN n m nl = ma at *
  generalize hen : decide (m < 0) = en at *
  generalize hPT : partsT (unaT X 8 0) n m nl = PT at *
  have HR := Lib.hid hl
  obtain ⟨O1, hO1⟩ : ∃ O1, O ++ shL O.length (joinT 3 PT) = O1 := ⟨_, rfl⟩
  rw [hO1]
  have HO1 := Lib.hid hO1
  have HHG := Lib.hid hgN
  obtain ⟨i0, hi, hz0, hz1, hz2⟩ := info_parts info_func
  have HI := Lib.hid hi; clear hi
  have HZ0 := Lib.hid hz0; clear hz0
  have HZ1 := Lib.hid hz1; clear hz1
  have HZ2 := Lib.hid hz2; clear hz2
  clear hMu hmay hen hPT hO1
  generalize (⟨v0, .slice (some ⟨gN, 0, none⟩) N cN, v2, v3⟩ : Told) = V at HM HO ⊢
  clear e0 hl hM CP hbx hbf hO' hO s0 s1 s2 s3 hN hr hcell hne m0
  go_enter Try.func92, Try.ntmps92
  go_wp2_with fail
  go_region_held3 (fun w' => (∀ i, w'.cell? ⟨w.heap.size, i, none⟩ = (#[pp g])[i]?) ∧ (∀ i, w'.cell? ⟨w.heap.size + 1, i, none⟩ = (ndCells ⟨kd, kn, n, m, f⟩)[i]?) ∧ (∀ i, w'.cell? ⟨w.heap.size + 1 + 1, i, none⟩ = (#[Value.int .i64 kid])[i]?) ∧ w'.cell? ⟨g, 1, none⟩ = some (.slice (some ⟨gN, 0, none⟩) N cN) ∧ w'.cell? ⟨gN, kid, none⟩ = some (.bool nl)) (first | exact ⟨K0.out.cell, K1.out.cell, K2.out.cell, (KG.out.cell 1), (KN.out.cell kid).trans HCE.out⟩ | exact ⟨(K0.out.alloc _).cell, (K1.out.alloc _).cell, (K2.out.alloc _).cell, ((KG.out.alloc _).cell 1), ((KN.out.alloc _).cell kid).trans HCE.out⟩ | exact ⟨((((K0.out).far (by omega) _).far (by omega) _).far (by omega) _).cell, ((((K1.out).far (by omega) _).far (by omega) _).far (by omega) _).cell, ((((K2.out).far (by omega) _).far (by omega) _).far (by omega) _).cell, (((((KG.out).far (by omega) _).far (by omega) _).far (by omega) _).cell 1), (((((KN.out).far (by omega) _).far (by omega) _).far (by omega) _).cell kid).trans HCE.out⟩ | exact ⟨H0.out.cell, H1.out.cell, H2.out.cell, (HG.out.cell 1), ck⟩ | exact ⟨(H0.out.alloc _).cell, (H1.out.alloc _).cell, (H2.out.alloc _).cell, ((HG.out.alloc _).cell 1), ((HN.out.alloc _).cell kid).trans HCE.out⟩) (first | (go_at_call 134; go_must (refine (HCP.out _).mono ?_; rintro e5 w5 ⟨rfl, hb5⟩; have HW5 : Hid (Below ((((((w.alloc (.cells #[pp g] 85)).alloc (.cells (ndCells ⟨kd, kn, n, m, f⟩) 43)).alloc (.cells #[.int .i64 kid] 3))).alloc (.cells #[Fone w.heap.size (w.heap.size + 1 + 1)] 129))).heap.size ((((((w.alloc (.cells #[pp g] 85)).alloc (.cells (ndCells ⟨kd, kn, n, m, f⟩) 43)).alloc (.cells #[.int .i64 kid] 3))).alloc (.cells #[Fone w.heap.size (w.heap.size + 1 + 1)] 129))) w5) := Lib.hid (by first | exact below_then ((Below.refl _ _).drew) hb5 | exact below_then (((Below.refl _ _).drew).alloc (by simp) _) hb5); have K0 := Lib.hid (H0.out.call HW5.out); have K1 := Lib.hid (H1.out.call HW5.out); have K2 := Lib.hid (H2.out.call HW5.out); have KG := Lib.hid (HG.out.call HW5.out); have KN := Lib.hid (HN.out.call HW5.out); have o8 := Slab.new w5 #[.int .i64 0, .int .i64 0, .bool false] 187; obtain ⟨c8, f8⟩ := o8.facts); (first | (have o9 := (Slab.newAt ((((((w.alloc (.cells #[pp g] 85)).alloc (.cells (ndCells ⟨kd, kn, n, m, f⟩) 43)).alloc (.cells #[.int .i64 kid] 3))).alloc (.cells #[Fone w.heap.size (w.heap.size + 1 + 1)] 129))).drew #[.int .i64 0, .int .i64 0, .bool false] 187 (g := w.heap.size + 1 + 1 + 1 + 1) (by simp)).callD hb5 rfl; obtain ⟨c9, f9⟩ := o9.facts) | skip)))
  all_goals
    have hps : ((((((w.alloc (.cells #[pp g] 85)).alloc (.cells (ndCells ⟨kd, kn, n, m, f⟩) 43)).alloc (.cells #[.int .i64 kid] 3))).alloc (.cells #[Fone w.heap.size (w.heap.size + 1 + 1)] 129))).heap.size = w.heap.size + 1 + 1 + 1 + 1 := by simp
    first
    | (have HP := pl_a (mu := (M : Int)) (ma := ma) (e := en) HW5.out o9 (by rw [hps]; exact Nat.le_refl _)
       generalize (((w5.setCell ⟨w.heap.size + 1 + 1 + 1 + 1, 0, none⟩ (.int .i64 (M : Int))).setCell ⟨w.heap.size + 1 + 1 + 1 + 1, 1, none⟩ (.int .i64 ma)).setCell ⟨w.heap.size + 1 + 1 + 1 + 1, 2, none⟩ (.bool en)) = W9 at HP ⊢
       generalize w.heap.size + 1 + 1 + 1 + 1 = P at HP ⊢)
    | (have HP := pl_b (mu := (M : Int)) (ma := ma) (e := en) HW5.out
       generalize w5.alloc (.cells #[.int .i64 (M : Int), .int .i64 ma, .bool en] 187) = W9 at HP ⊢
       generalize w5.heap.size = P at HP ⊢)
    obtain ⟨hP1, hP2, hP3⟩ := HP
    have J0 := Lib.hid (H0.out.call hP1)
    have J2 := Lib.hid (H2.out.call hP1)
    have J3 := Lib.hid (H3.out.call hP1)
    have JP := Lib.hid hP2
    have JO := Lib.hid (HO.out.keep hP1)
    have JB := Lib.hid (below_then HB.out hP1)
    have hw9 : w.heap.size ≤ W9.heap.size := JB.out.size
    have hg9 : g < W9.heap.size := by omega
    have hPg : P ≠ g := by omega
    obtain ⟨cp, fp⟩ := JP.out.facts
    try clear o9 c9 f9
    clear hb5 o8 c8 f8 K0 K1 K2 KG KN HW5 hP1 hP2 hP3 hps H0 H1 H2 H3 HN HG HO HCP HHG c1 f1 ck cg fg ck0 fk0 ck1 fk1 ck2 fk2 HCE hkid hgN hgNl
    clear hsf
    have hmM : M ≤ 99 := by omega
    go_wp2_with fail
    go_loopw [9, 28] (fun a i wr => ∃ (k : Nat) (A' : Option Addr) (c' : Nat), k ≤ M ∧ i = .int .i64 k ∧ a = .slice A' k c' ∧ wr.ownsRow W9.heap.size 129 1 (.slice A' k c') k (List.replicate k (Fone w.heap.size (w.heap.size + 1 + 1))) ∧ Below W9.heap.size W9 wr) (fun _ i _ => M - (intOf i).toNat)
    case atStart => exact ⟨0, none, 0, Nat.zero_le _, rfl, rfl, World.ownsRow_nil _ _ _ _, Below.refl _ _⟩
    case round =>
      clear cp fp
      obtain ⟨k, A', c', hk, rfl, rfl, hown, hX⟩ := hrel
      have HX := Lib.hid hX
      have hsz := hX.size
      obtain ⟨c3, f3⟩ := (J3.out.call hX).facts
      obtain ⟨cp, fp⟩ := (JP.out.call hX).facts
      clear hX
      by_cases hlt2 : k < M
      · have E1 : List.replicate (k + 1) (Fone w.heap.size (w.heap.size + 1 + 1)) = List.replicate k (Fone w.heap.size (w.heap.size + 1 + 1)) ++ [Fone w.heap.size (w.heap.size + 1 + 1)] := List.replicate_succ'
        have HE1 := Lib.hid E1
        clear E1
        go_wp2_with (at_builtin; go_must (refine wpList_append_elem _ rfl (.tmp 30) (.tmp 32) 128 rfl (W9.heap.size) 129 i0 _ _ _ Try.underlying128 HI.out HZ0.out HZ1.out HZ2.out rfl (by decide) _ _ _ _ rfl hown #[Fone w.heap.size (w.heap.size + 1 + 1)] _ rfl (by first | rfl | simp) rfl (by simp [Value.oneCell']) (by unfold maxLen; omega) (by omega) (by first | omega | (simp; omega)) ?_); intro A4 q4 w4 hown4 hbl4)
        go_roundw
        case rel => exact ⟨k + 1, A4, q4, by omega, by go_num, rfl, by rw [HE1.out]; exact hown4, HX.out.trans hbl4⟩
        case measure => simp [intOf]; omega
      · obtain rfl : k = M := by omega
        have hBw : B ≤ w.heap.size := by have := Mk.hB JO.out; omega
        have M1 := rep1_any B g _ kid X W9 _ _ J0.out J2.out (by omega) (by omega) (HM.out.keep (KeptM.of JB.out))
        have hck : ((k : Int)).toNat = k := by simp
        have hq := HEQ.out
        rw [hck] at hq
        have hcb := (J0.out.call HX.out).cell
        cases en with
        | true =>
          rw [if_pos rfl] at hq
          have M2 := rep2_any B g _ _ _ W9 _ _ J0.out J3.out (by omega) (by omega) M1
          have hmap : (List.replicate k (Fone w.heap.size (w.heap.size + 1 + 1), unaT X 8 0) ++ [(Fstar w.heap.size (w.heap.size + 1 + 1 + 1), unaT (unaT X 8 0) 5 0)]).map Prod.fst = List.replicate k (Fone w.heap.size (w.heap.size + 1 + 1)) ++ [Fstar w.heap.size (w.heap.size + 1 + 1 + 1)] := by simp
          have hsnd : PT = (List.replicate k (Fone w.heap.size (w.heap.size + 1 + 1), unaT X 8 0) ++ [(Fstar w.heap.size (w.heap.size + 1 + 1 + 1), unaT (unaT X 8 0) 5 0)]).map Prod.snd := by rw [hq]; simp
          have CJ := fun (A4 : Option Addr) (q4 : Nat) (w4 : World) (h4 : w4.ownsRow W9.heap.size 129 1 (.slice A4 (k + 1) q4) (k + 1) (List.replicate k (Fone w.heap.size (w.heap.size + 1 + 1)) ++ [Fstar w.heap.size (w.heap.size + 1 + 1 + 1)])) (hb : Below W9.heap.size W9 w4) => join_row B g _ 3 (List.replicate k (Fone w.heap.size (w.heap.size + 1 + 1), unaT X 8 0) ++ [(Fstar w.heap.size (w.heap.size + 1 + 1 + 1), unaT (unaT X 8 0) 5 0)]) O w4 (by rw [hmap]; exact h4) (by simp) hg9 (by omega) (by omega) (fun p hp => by
            rcases List.mem_append.1 hp with hp | hp
            · rw [(List.mem_replicate.1 hp).2]; exact M1.keep (KeptM.of hb)
            · rw [List.mem_singleton.1 hp]; exact M2.keep (KeptM.of hb)) (JO.out.keep hb) (by rw [← hsnd]; exact HR.out)
          rw [← hsnd, HO1.out] at CJ
          have HCJ := Lib.hid CJ
          clear CJ hsnd hmap
          clear hq hck M1 M2 c3 f3 HEQ
          go_wp2_with (at_builtin; go_must (refine wpList_append_elem _ rfl (.tmp 38) (.tmp 40) 128 rfl (W9.heap.size) 129 i0 _ _ _ Try.underlying128 HI.out HZ0.out HZ1.out HZ2.out rfl (by decide) _ _ _ _ rfl hown #[Fstar w.heap.size (w.heap.size + 1 + 1 + 1)] _ rfl (by first | rfl | simp) rfl (by simp [Value.oneCell']) (by unfold maxLen; omega) (by omega) (by first | omega | (simp; omega)) ?_); intro A4 q4 w4 hown4 hbl4; have HX4 := Lib.hid (HX.out.trans hbl4); have hcb4 := (J0.out.call HX4.out).cell)
          refine (HCJ.out _ _ _ hown4 HX4.out).mono ?_
          rintro e7 w7 ⟨rfl, hb7, hk7, h7⟩
          clear HCJ
          go_wp2_with fail
          go_ret
          exact ⟨rfl, (JB.out.mono hBw).trans ((HX4.out.mono (Nat.le_trans hBw hw9)).trans hb7), ((KeptM.of JB.out).trans (KeptM.of HX4.out)).trans hk7, h7⟩
        | false =>
          rw [if_neg (by decide)] at hq
          cases hma : decide (0 < ma) with
          | true =>
            have hma' : 0 < ma := of_decide_eq_true hma
            rw [if_pos hma'] at hq
            obtain ⟨m', hm'⟩ : ∃ m' : Nat, ma = (m' : Int) + 1 := ⟨ma.toNat - 1, by omega⟩
            have hmm : ma.toNat - 1 = m' := by omega
            rw [hmm] at hq
            have M2 := rep3_any B g _ _ _ W9 _ _ P m' _ _ _ hm' (by omega) J0.out J3.out JP.out (by omega) (by omega) hPg M1
            have hmap : (List.replicate k (Fone w.heap.size (w.heap.size + 1 + 1), unaT X 8 0) ++ [(Flack w.heap.size (w.heap.size + 1 + 1 + 1) P, lacksT (unaT X 8 0) m')]).map Prod.fst = List.replicate k (Fone w.heap.size (w.heap.size + 1 + 1)) ++ [Flack w.heap.size (w.heap.size + 1 + 1 + 1) P] := by simp
            have hsnd : PT = (List.replicate k (Fone w.heap.size (w.heap.size + 1 + 1), unaT X 8 0) ++ [(Flack w.heap.size (w.heap.size + 1 + 1 + 1) P, lacksT (unaT X 8 0) m')]).map Prod.snd := by rw [hq]; simp
            have CJ := fun (A4 : Option Addr) (q4 : Nat) (w4 : World) (h4 : w4.ownsRow W9.heap.size 129 1 (.slice A4 (k + 1) q4) (k + 1) (List.replicate k (Fone w.heap.size (w.heap.size + 1 + 1)) ++ [Flack w.heap.size (w.heap.size + 1 + 1 + 1) P])) (hb : Below W9.heap.size W9 w4) => join_row B g _ 3 (List.replicate k (Fone w.heap.size (w.heap.size + 1 + 1), unaT X 8 0) ++ [(Flack w.heap.size (w.heap.size + 1 + 1 + 1) P, lacksT (unaT X 8 0) m')]) O w4 (by rw [hmap]; exact h4) (by simp) hg9 (by omega) (by omega) (fun p hp => by
              rcases List.mem_append.1 hp with hp | hp
              · rw [(List.mem_replicate.1 hp).2]; exact M1.keep (KeptM.of hb)
              · rw [List.mem_singleton.1 hp]; exact M2.keep (KeptM.of hb)) (JO.out.keep hb) (by rw [← hsnd]; exact HR.out)
            rw [← hsnd, HO1.out] at CJ
            have HCJ := Lib.hid CJ
            clear CJ hsnd hmap
            clear hq hck M1 M2 c3 f3 HEQ hma hm' hmm
            go_wp2_with (at_builtin; go_must (refine wpList_append_elem _ rfl (.tmp 46) (.tmp 48) 128 rfl (W9.heap.size) 129 i0 _ _ _ Try.underlying128 HI.out HZ0.out HZ1.out HZ2.out rfl (by decide) _ _ _ _ rfl hown #[Flack w.heap.size (w.heap.size + 1 + 1 + 1) P] _ rfl (by first | rfl | simp) rfl (by simp [Value.oneCell']) (by unfold maxLen; omega) (by omega) (by first | omega | (simp; omega)) ?_); intro A4 q4 w4 hown4 hbl4; have HX4 := Lib.hid (HX.out.trans hbl4); have hcb4 := (J0.out.call HX4.out).cell)
            refine (HCJ.out _ _ _ hown4 HX4.out).mono ?_
            rintro e7 w7 ⟨rfl, hb7, hk7, h7⟩
            clear HCJ
            go_wp2_with fail
            go_ret
            exact ⟨rfl, (JB.out.mono hBw).trans ((HX4.out.mono (Nat.le_trans hBw hw9)).trans hb7), ((KeptM.of JB.out).trans (KeptM.of HX4.out)).trans hk7, h7⟩
          | false =>
            have hma' : ¬ 0 < ma := of_decide_eq_false hma
            rw [if_neg hma', List.append_nil] at hq
            have hk0 : 0 < k := by
              rcases Nat.eq_zero_or_pos k with h | h
              · exact absurd (by rw [hq, h]; rfl) HNE.out
              · exact h
            have hmap : (List.replicate k (Fone w.heap.size (w.heap.size + 1 + 1), unaT X 8 0)).map Prod.fst = List.replicate k (Fone w.heap.size (w.heap.size + 1 + 1)) := by simp
            have hsnd : PT = (List.replicate k (Fone w.heap.size (w.heap.size + 1 + 1), unaT X 8 0)).map Prod.snd := by rw [hq]; simp
            have CJ := join_row B g _ 3 (List.replicate k (Fone w.heap.size (w.heap.size + 1 + 1), unaT X 8 0)) O wr (by rw [hmap]; exact hown) (by simp) hg9 hk0 (by omega) (fun p hp => by
              rw [(List.mem_replicate.1 hp).2]; exact M1.keep (KeptM.of HX.out)) (JO.out.keep HX.out) (by rw [← hsnd]; exact HR.out)
            rw [← hsnd, HO1.out] at CJ
            have HCJ := Lib.hid CJ
            have HX4 := Lib.hid HX.out
            clear hq hck M1 c3 f3 HEQ hsnd hmap CJ hown
            go_wp2_with fail
            refine HCJ.out.mono ?_
            rintro e7 w7 ⟨rfl, hb7, hk7, h7⟩
            clear HCJ
            go_wp2_with fail
            go_ret
            exact ⟨rfl, (JB.out.mono hBw).trans ((HX4.out.mono (Nat.le_trans hBw hw9)).trans hb7), ((KeptM.of JB.out).trans (KeptM.of HX4.out)).trans hk7, h7⟩
end Go.Proofs.Ytddokdjlmdoebaa

/- Walks of the package lower: node. -/
namespace Go.Proofs.Ytddokdjlmdoebaa
open Go.RowKit SetP AstP LowP ParP
/-- What a maker's tree, its nulls and its numbers are, in memory. -/
structure TreeMem (w : World) (B : Nat) (A : Option Addr) (L : List Nd) (gN : Nat) (AM : Option Addr) : Prop where
  nodes : NodesAt w B A L
  null : ∃ cs, Slab w gN cs 4 ∧ ∀ k, k < L.length → cs[k]? = some (.bool (nullAt L k))
  gN : gN < B
  nums : IntsAt w B AM (Nums L L.length)
theorem TreeMem.keep {w w' : World} {B : Nat} {A : Option Addr} {L : List Nd} {gN : Nat} {AM : Option Addr} (h : TreeMem w B A L gN AM) (hb : Below B w w') : TreeMem w' B A L gN AM := by
  obtain ⟨cs, h1, h2⟩ := h.null
  exact ⟨h.nodes.below hb, ⟨cs, h1.below hb h.gN, h2⟩, h.gN, h.nums.below hb⟩
abbrev toldOf (B : Nat) (A : Option Addr) (c : Nat) (L : List Nd) (gN cN : Nat) (AM : Option Addr) (cM : Nat) : Told :=
  ⟨.slice A L.length c, .slice (some ⟨gN, 0, none⟩) L.length cN, .slice AM L.length cM, fun w => TreeMem w B A L gN AM⟩
set_option maxRecDepth 100000 in
set_option maxHeartbeats 2000000 in
theorem node_leaf {B g : Nat} {A : Option Addr} {c : Nat} {L : List Nd} {gN cN : Nat} {AM : Option Addr} {cM : Nat} (hlen : L.length ≤ 100000) (hF : formedF L = true) (i : Nat) (hi : i < L.length) (x : Nd) (hx : L.getD i ndEmpty = x) (O : List Tm) (w : World) (hO : Mk w B g (toldOf B A c L gN cN AM cM) O) (hk : x.kind = 1 ∨ x.kind = 2) (hl : O.length ≤ 1000000) :
    Calls Try.prog 54 #[pp g, .int .i64 i] w (Made B g (toldOf B A c L gN cN AM cM) (O ++ [if x.kind = 1 then tmE else tmL x.set]) w) := by
  obtain ⟨Ab, cb, h⟩ := hO
  have hM := h.mem
  obtain ⟨b, off, rfl, hb, hn8⟩ := hM.nodes.node hi
  rw [hx] at hn8
  unfold Node8 at hn8
  obtain ⟨n0, n1, n2, n3, n4, n5, n6, n7⟩ := hn8
  have hlt := h.slab.lt
  have hBw : B ≤ w.heap.size := h.le
  have hbw : b < w.heap.size := Nat.lt_of_lt_of_le hb hBw
  have hbx : Below w.heap.size w ((w.alloc (.cells #[pp g] 85)).alloc (.cells (ndCells x) 43)) := ((Below.refl _ _).alloc (by simp) _).alloc (by simp) _
  have s0 : Slab ((w.alloc (.cells #[pp g] 85)).alloc (.cells (ndCells x) 43)) w.heap.size #[pp g] 85 := (Slab.new _ _ _).alloc _
  have s1 : Slab ((w.alloc (.cells #[pp g] 85)).alloc (.cells (ndCells x) 43)) (w.heap.size + 1) (ndCells x) 43 := Slab.newAt _ _ _ (by simp)
  have hM2 := hM.keep (hbx.mono hBw)
  have CK := kids_any (some ⟨b, off, none⟩) c L (i : Int) ((w.alloc (.cells #[pp g] 85)).alloc (.cells (ndCells x) 43)) (hM2.nodes.more (Nat.le_trans hBw hbx.size))
  have hO2 : Mk ((w.alloc (.cells #[pp g] 85)).alloc (.cells (ndCells x) 43)) B g (toldOf B (some ⟨b, off, none⟩) c L gN cN AM cM) O := ⟨Ab, cb, h.keep hbx⟩
  have HO2 := Lib.hid hO2
  have HBX := Lib.hid hbx
  have hkl := kidsF_length hF hi
  rw [hx] at hkl
  have hat := formed_at hF hi
  have hstl := St_len (L := L) (k := i) (by omega)
  rw [hx] at hat
  have hkb : (kidsF L (i : Int)).length ≤ 100000 := by omega
  have hslab := h.slab
  have hs2 := h.slab.call hbx
  have HM2 := Lib.hid hM2
  obtain ⟨cg, fg⟩ := hslab.facts
  obtain ⟨cg2, fg2⟩ := hs2.facts
  have HS0 := Lib.hid s0
  have HS1 := Lib.hid s1
  have HSG := Lib.hid hs2
  have HF := Lib.hid hF
  have HX := Lib.hid hx
  obtain ⟨N, hN⟩ : ∃ N, L.length = N := ⟨_, rfl⟩
  rw [hN] at CK
  simp only [toldOf, hN] at cg cg2
  have hiN : i < N := by omega
  have HN := Lib.hid hN
  obtain ⟨K, hK⟩ : ∃ K, kidsF L (i : Int) = K := ⟨_, rfl⟩
  rw [hK] at CK hkl hkb
  have HK := Lib.hid hK
  clear h hM hM2 hbx hO2 hF hx hslab hs2 s0 s1 hN hK hat hstl
  have C1 := fun w1 (h1 : Mk w1 B g (toldOf B (some ⟨b, off, none⟩) c L gN cN AM cM) O) => mput_any h1 tmE #[.int .i64 1, .int .i64 (-1), .int .i64 (-1), .int .i64 0, .int .u64 0, .int .u64 0, .int .u64 0, .int .u64 0] (by simp [tmCells, tmE, wd_zSet]) hl
  have C2 := fun w1 (h1 : Mk w1 B g (toldOf B (some ⟨b, off, none⟩) c L gN cN AM cM) O) => mput_any h1 (tmL x.set) #[.int .i64 2, .int .i64 (-1), .int .i64 (-1), .int .i64 0, .int .u64 (wd x.set 0), .int .u64 (wd x.set 1), .int .u64 (wd x.set 2), .int .u64 (wd x.set 3)] (by simp [tmCells, tmL]) hl
  have HC1 := Lib.hid C1
  have HC2 := Lib.hid C2
  clear C1 C2
  obtain ⟨kd, kn, n, m, f⟩ := x
  simp only at hk
  rcases hk with rfl | rfl
  · rw [if_pos rfl]
    generalize O ++ [tmE] = O1 at *
    go_enter Try.func54, Try.ntmps54
    go_wp2_with fail
    refine CK.mono ?_
    rintro e3 w3 ⟨A3, c3, rfl, hrow, hb3⟩
    have HI3 := Lib.hid (row_at0 hrow (by omega))
    have HO3 := Lib.hid (HO2.out.keep hb3)
    have J0 := Lib.hid (HS0.out.call hb3)
    have J1 := Lib.hid (HS1.out.call hb3)
    have HBX3 := Lib.hid (below_then HBX.out hb3)
    have HB3 := Lib.hid ((Below.refl B w).trans (HBX3.out.mono hBw))
    obtain ⟨c0, f0⟩ := J0.out.facts
    obtain ⟨c1, f1⟩ := J1.out.facts
    clear CK hrow hb3 cg fg cg2 fg2 n0 n1 n2 n3 n4 n5 n6 n7
    go_wp2_with fail
    refine (HC1.out _ HO3.out).mono ?_
    rintro e7 w7 ⟨rfl, hb7, hk7, h7⟩
    clear HC1 HC2
    go_wp2_with fail
    go_ret
    exact ⟨rfl, HB3.out.trans hb7, (KeptM.of HBX3.out).trans hk7, h7⟩
  · rw [if_neg (show ¬ ((2 : Int) = 1) by decide)]
    generalize O ++ [tmL f] = O1 at *
    go_enter Try.func54, Try.ntmps54
    go_wp2_with fail
    refine CK.mono ?_
    rintro e3 w3 ⟨A3, c3, rfl, hrow, hb3⟩
    have HI3 := Lib.hid (row_at0 hrow (by omega))
    have HO3 := Lib.hid (HO2.out.keep hb3)
    have J0 := Lib.hid (HS0.out.call hb3)
    have J1 := Lib.hid (HS1.out.call hb3)
    have HBX3 := Lib.hid (below_then HBX.out hb3)
    have HB3 := Lib.hid ((Below.refl B w).trans (HBX3.out.mono hBw))
    obtain ⟨c0, f0⟩ := J0.out.facts
    obtain ⟨c1, f1⟩ := J1.out.facts
    clear CK hrow hb3 cg fg cg2 fg2 n0 n1 n2 n3 n4 n5 n6 n7
    go_wp2_with fail
    refine (HC2.out _ HO3.out).mono ?_
    rintro e7 w7 ⟨rfl, hb7, hk7, h7⟩
    clear HC1 HC2
    go_wp2_with fail
    go_ret
    exact ⟨rfl, HB3.out.trans hb7, (KeptM.of HBX3.out).trans hk7, h7⟩
set_option maxRecDepth 100000 in
theorem rep_all {B g : Nat} {A : Option Addr} {c : Nat} {L : List Nd} {gN cN : Nat} {AM : Option Addr} {cM : Nat} (kd kn n m : Int) (f : Nat → Bool) (hr : rightB n m = true) (j : Nat) (hj : j < L.length) (X : List Tm) (O : List Tm) (w : World)
    (hM : NodeMakes B g (toldOf B A c L gN cN AM cM) w j X) (hO : Mk w B g (toldOf B A c L gN cN AM cM) O) (hl : O.length + (repT X n m (nullAt L j)).length ≤ 1000000) :
    Calls Try.prog 92 #[pp g, ndV ⟨kd, kn, n, m, f⟩, .int .i64 j] w (Made B g (toldOf B A c L gN cN AM cM) (O ++ shL O.length (repT X n m (nullAt L j))) w) := by
  have hO' := hO
  obtain ⟨Ab, cb, h⟩ := hO'
  obtain ⟨cs, h1, h2⟩ := h.mem.null
  have h3 := h.mem.gN
  have h4 := h.hB
  cases hm : (m == 0) with
  | true =>
    have e : repT X n m (nullAt L j) = [tmE] := by unfold repT; rw [hm]; rfl
    rw [e, shL_E]
    exact rep_zero B g _ kd kn n m f j O w hm hO (by omega)
  | false => exact rep_any B g _ kd kn n m f j X (nullAt L j) O w hr hm hM gN L.length cN cs rfl h1 (by omega) hj (h2 j hj) hO hl
set_option maxRecDepth 100000 in
set_option maxHeartbeats 2000000 in
theorem node_rep {B g : Nat} {A : Option Addr} {c : Nat} {L : List Nd} {gN cN : Nat} {AM : Option Addr} {cM : Nat} (hlen : L.length ≤ 100000) (hF : formedF L = true) (i : Nat) (hi : i < L.length) (x : Nd) (hx : L.getD i ndEmpty = x) (O : List Tm) (w : World) (hO : Mk w B g (toldOf B A c L gN cN AM cM) O) (hk : x.kind = 4) (hr : rightB x.n x.m = true) (j : Nat) (hj : kidsF L (i : Int) = [j]) (hjl : j < L.length) (X : List Tm) (hM : NodeMakes B g (toldOf B A c L gN cN AM cM) w j X) (hl : O.length + (repT X x.n x.m (nullAt L j)).length ≤ 1000000) :
    Calls Try.prog 54 #[pp g, .int .i64 i] w (Made B g (toldOf B A c L gN cN AM cM) (O ++ shL O.length (repT X x.n x.m (nullAt L j))) w) := by
  have hNM := hM
  clear hM
  obtain ⟨Ab, cb, h⟩ := hO
  have hM := h.mem
  obtain ⟨b, off, rfl, hb, hn8⟩ := hM.nodes.node hi
  rw [hx] at hn8
  unfold Node8 at hn8
  obtain ⟨n0, n1, n2, n3, n4, n5, n6, n7⟩ := hn8
  have hlt := h.slab.lt
  have hBw : B ≤ w.heap.size := h.le
  have hbw : b < w.heap.size := Nat.lt_of_lt_of_le hb hBw
  have hbx : Below w.heap.size w ((w.alloc (.cells #[pp g] 85)).alloc (.cells (ndCells x) 43)) := ((Below.refl _ _).alloc (by simp) _).alloc (by simp) _
  have s0 : Slab ((w.alloc (.cells #[pp g] 85)).alloc (.cells (ndCells x) 43)) w.heap.size #[pp g] 85 := (Slab.new _ _ _).alloc _
  have s1 : Slab ((w.alloc (.cells #[pp g] 85)).alloc (.cells (ndCells x) 43)) (w.heap.size + 1) (ndCells x) 43 := Slab.newAt _ _ _ (by simp)
  have hM2 := hM.keep (hbx.mono hBw)
  have CK := kids_any (some ⟨b, off, none⟩) c L (i : Int) ((w.alloc (.cells #[pp g] 85)).alloc (.cells (ndCells x) 43)) (hM2.nodes.more (Nat.le_trans hBw hbx.size))
  have hO2 : Mk ((w.alloc (.cells #[pp g] 85)).alloc (.cells (ndCells x) 43)) B g (toldOf B (some ⟨b, off, none⟩) c L gN cN AM cM) O := ⟨Ab, cb, h.keep hbx⟩
  have HO2 := Lib.hid hO2
  have HBX := Lib.hid hbx
  have hkl := kidsF_length hF hi
  rw [hx] at hkl
  have hat := formed_at hF hi
  have hstl := St_len (L := L) (k := i) (by omega)
  rw [hx] at hat
  have hkb : (kidsF L (i : Int)).length ≤ 100000 := by omega
  have hslab := h.slab
  have hs2 := h.slab.call hbx
  have HM2 := Lib.hid hM2
  obtain ⟨cg, fg⟩ := hslab.facts
  obtain ⟨cg2, fg2⟩ := hs2.facts
  have HS0 := Lib.hid s0
  have HS1 := Lib.hid s1
  have HSG := Lib.hid hs2
  have HF := Lib.hid hF
  have HX := Lib.hid hx
  obtain ⟨N, hN⟩ : ∃ N, L.length = N := ⟨_, rfl⟩
  rw [hN] at CK
  simp only [toldOf, hN] at cg cg2
  have hiN : i < N := by omega
  have HN := Lib.hid hN
  obtain ⟨K, hK⟩ : ∃ K, kidsF L (i : Int) = K := ⟨_, rfl⟩
  rw [hK] at CK hkl hkb
  have HK := Lib.hid hK
  clear h hM hM2 hbx hO2 hF hx hslab hs2 s0 s1 hN hK hat hstl
  have hbxs := HBX.out.size
  have hKj : K = [j] := by rw [← HK.out, hj]
  subst hKj
  obtain ⟨kd, kn, n, m, f⟩ := x
  simp only at hk hr hl ⊢
  subst hk
  have C1 := fun w2 (hk2 : KeptM g w w2) (h2 : Mk w2 B g (toldOf B (some ⟨b, off, none⟩) c L gN cN AM cM) O) => rep_all 4 kn n m f hr j hjl X O w2 (hNM.keep hk2) h2 hl
  generalize O ++ shL O.length (repT X n m (nullAt L j)) = O1 at *
  have HC1 := Lib.hid C1
  generalize hV : toldOf B (some ⟨b, off, none⟩) c L gN cN AM cM = V at *
  clear C1 hV hl hNM hj hkl hr
  go_enter Try.func54, Try.ntmps54
  go_wp2_with fail
  refine CK.mono ?_
  rintro e3 w3 ⟨A3, c3, rfl, hrow, hb3⟩
  obtain ⟨gk, cur, rfl, hgk, hnc, hsl, hsz, htk⟩ := row_at hrow (by simp)
  have hcur : cur[0]? = some (.int .i64 (j : Int)) := by
    have e : cur.toList[0]? = (ints [j])[0]? := by rw [← htk, List.getElem?_take_of_lt (by simp)]
    rw [← Array.getElem?_toList, e]; rfl
  have HCU := Lib.hid hcur
  have HO3 := Lib.hid (HO2.out.keep hb3)
  have J0 := Lib.hid (HS0.out.call hb3)
  have J1 := Lib.hid (HS1.out.call hb3)
  have HBX3 := Lib.hid (below_then HBX.out hb3)
  have HB3 := Lib.hid ((Below.refl B w).trans (HBX3.out.mono hBw))
  have HSK := Lib.hid hsl
  have hgkg : gk ≠ g := by have := hbxs; omega
  obtain ⟨c0, f0⟩ := J0.out.facts
  obtain ⟨c1, f1⟩ := J1.out.facts
  have hck := (hsl.cell 0).trans hcur
  clear CK hrow hb3 cg fg cg2 fg2 n0 n1 n2 n3 n4 n5 n6 n7 hcur hsl hsz htk
  go_wp2_with fail
  go_region_held3 (fun w' => (∀ i, w'.cell? ⟨w.heap.size, i, none⟩ = (#[pp g])[i]?) ∧ (∀ i, w'.cell? ⟨w.heap.size + 1, i, none⟩ = (ndCells ⟨4, kn, n, m, f⟩)[i]?) ∧ w'.cell? ⟨gk, 0, none⟩ = some (.int .i64 j)) (first | exact ⟨T0.out.cell, T1.out, TK.out⟩ | exact ⟨J0.out.cell, J1.out.cell, hck⟩) (first | (go_at_call 92; go_must (refine (HC1.out _ (KeptM.of HBX3.out).drew HO3.out.drew).mono ?_; rintro e7 w7 ⟨rfl, hb7, hk7, h7⟩; have T0 := Lib.hid (hk7 _ _ _ J0.out.drew (by omega) (by decide)); have T1 := Lib.hid (hk7 _ _ _ J1.out.drew (by omega) (by decide)).cell; have TK := Lib.hid (((hk7 _ _ _ HSK.out.drew hgkg (by decide)).cell 0).trans HCU.out))))
  all_goals
    clear HC1
    go_wp2_with fail
    go_ret
    exact ⟨rfl, (HB3.out.drew).trans hb7, (KeptM.of HBX3.out).drew.trans hk7, h7⟩
set_option maxRecDepth 100000 in
set_option maxHeartbeats 2000000 in
theorem node_group {B g : Nat} {A : Option Addr} {c : Nat} {L : List Nd} {gN cN : Nat} {AM : Option Addr} {cM : Nat} (hlen : L.length ≤ 100000) (hF : formedF L = true) (i : Nat) (hi : i < L.length) (x : Nd) (hx : L.getD i ndEmpty = x) (O : List Tm) (w : World) (hO : Mk w B g (toldOf B A c L gN cN AM cM) O) (hk : x.kind = 3) (j : Nat) (hj : kidsF L (i : Int) = [j]) (X : List Tm) (hM : NodeMakes B g (toldOf B A c L gN cN AM cM) w j X) (hl : O.length + (unaT X 7 (numAt L i)).length ≤ 1000000) :
    Calls Try.prog 54 #[pp g, .int .i64 i] w (Made B g (toldOf B A c L gN cN AM cM) (O ++ shL O.length (unaT X 7 (numAt L i))) w) := by
  have hNM := hM
  clear hM
  rw [unaT_length] at hl
  rw [una_sh O X 7 _ hNM.1]
  obtain ⟨Ab, cb, h⟩ := hO
  have hM := h.mem
  obtain ⟨b, off, rfl, hb, hn8⟩ := hM.nodes.node hi
  rw [hx] at hn8
  unfold Node8 at hn8
  obtain ⟨n0, n1, n2, n3, n4, n5, n6, n7⟩ := hn8
  have hlt := h.slab.lt
  have hBw : B ≤ w.heap.size := h.le
  have hbw : b < w.heap.size := Nat.lt_of_lt_of_le hb hBw
  have hbx : Below w.heap.size w ((w.alloc (.cells #[pp g] 85)).alloc (.cells (ndCells x) 43)) := ((Below.refl _ _).alloc (by simp) _).alloc (by simp) _
  have s0 : Slab ((w.alloc (.cells #[pp g] 85)).alloc (.cells (ndCells x) 43)) w.heap.size #[pp g] 85 := (Slab.new _ _ _).alloc _
  have s1 : Slab ((w.alloc (.cells #[pp g] 85)).alloc (.cells (ndCells x) 43)) (w.heap.size + 1) (ndCells x) 43 := Slab.newAt _ _ _ (by simp)
  have hM2 := hM.keep (hbx.mono hBw)
  have CK := kids_any (some ⟨b, off, none⟩) c L (i : Int) ((w.alloc (.cells #[pp g] 85)).alloc (.cells (ndCells x) 43)) (hM2.nodes.more (Nat.le_trans hBw hbx.size))
  have hO2 : Mk ((w.alloc (.cells #[pp g] 85)).alloc (.cells (ndCells x) 43)) B g (toldOf B (some ⟨b, off, none⟩) c L gN cN AM cM) O := ⟨Ab, cb, h.keep hbx⟩
  have HO2 := Lib.hid hO2
  have HBX := Lib.hid hbx
  have hkl := kidsF_length hF hi
  rw [hx] at hkl
  have hat := formed_at hF hi
  have hstl := St_len (L := L) (k := i) (by omega)
  rw [hx] at hat
  have hkb : (kidsF L (i : Int)).length ≤ 100000 := by omega
  have hslab := h.slab
  have hs2 := h.slab.call hbx
  have HM2 := Lib.hid hM2
  obtain ⟨cg, fg⟩ := hslab.facts
  obtain ⟨cg2, fg2⟩ := hs2.facts
  have HS0 := Lib.hid s0
  have HS1 := Lib.hid s1
  have HSG := Lib.hid hs2
  have HF := Lib.hid hF
  have HX := Lib.hid hx
  obtain ⟨N, hN⟩ : ∃ N, L.length = N := ⟨_, rfl⟩
  rw [hN] at CK
  simp only [toldOf, hN] at cg cg2
  have hiN : i < N := by omega
  have HN := Lib.hid hN
  obtain ⟨K, hK⟩ : ∃ K, kidsF L (i : Int) = K := ⟨_, rfl⟩
  rw [hK] at CK hkl hkb
  have HK := Lib.hid hK
  clear h hM hM2 hbx hO2 hF hx hslab hs2 s0 s1 hN hK hat hstl
  have hbxs := HBX.out.size
  have hKj : K = [j] := by rw [← HK.out, hj]
  subst hKj
  have hl1 : (O ++ shL O.length X).length ≤ 1000000 := by rw [List.length_append, shL_length]; omega
  have C1 := fun w2 (hk2 : KeptM g w w2) (h2 : Mk w2 B g (toldOf B (some ⟨b, off, none⟩) c L gN cN AM cM) O) => hNM.2 O w2 hk2 h2 (by omega)
  have C3 := fun (w2 : World) (h2 : Mk w2 B g (toldOf B (some ⟨b, off, none⟩) c L gN cN AM cM) (O ++ shL O.length X)) => over_any h2 7 ((O ++ shL O.length X).length - 1) (numAt L i) hl1
  generalize O ++ shL O.length X = O1 at *
  generalize hn1 : (O1.length : Int) - 1 = m1 at *
  have HN1 := Lib.hid hn1
  obtain ⟨bM, offM, rfl, hbM, hcM⟩ := HM2.out.nums.at_ (j := i) (by rw [Nums_length]; exact hi)
  have hnm : (Nums L L.length).getD i 0 = numAt L i := by
    unfold Nums
    rw [List.getD_eq_getElem?_getD, List.getElem?_map, List.getElem?_range hi]; rfl
  rw [hnm] at hcM
  generalize numAt L i = nm at *
  generalize O1 ++ [tmU 7 m1 nm] = O2 at *
  generalize hV : toldOf B (some ⟨b, off, none⟩) c L gN cN (some ⟨bM, offM, none⟩) cM = V at *
  have hVn : V.nums = .slice (some ⟨bM, offM, none⟩) N cM := by rw [← hV]; simp only [toldOf, HN.out]
  have HVN := Lib.hid hVn
  have HC1 := Lib.hid C1
  have HC3 := Lib.hid C3
  have HCM := Lib.hid hcM
  have hBle : bM < B := hbM
  obtain ⟨kd, kn, n, m, f⟩ := x
  simp only at hk
  subst hk
  clear C1 C3 hn1 hV hVn hnm hl hl1 hNM hj hkl hcM
  go_enter Try.func54, Try.ntmps54
  go_wp2_with fail
  refine CK.mono ?_
  rintro e3 w3 ⟨A3, c3, rfl, hrow, hb3⟩
  obtain ⟨gk, cur, rfl, hgk, hnc, hsl, hsz, htk⟩ := row_at hrow (by simp)
  have hcur : cur[0]? = some (.int .i64 (j : Int)) := by
    have e : cur.toList[0]? = (ints [j])[0]? := by rw [← htk, List.getElem?_take_of_lt (by simp)]
    rw [← Array.getElem?_toList, e]; rfl
  have HCU := Lib.hid hcur
  have HO3 := Lib.hid (HO2.out.keep hb3)
  have J0 := Lib.hid (HS0.out.call hb3)
  have J1 := Lib.hid (HS1.out.call hb3)
  have HBX3 := Lib.hid (below_then HBX.out hb3)
  have HB3 := Lib.hid ((Below.refl B w).trans (HBX3.out.mono hBw))
  have HSK := Lib.hid hsl
  have hgkg : gk ≠ g := by have := hbxs; omega
  obtain ⟨c0, f0⟩ := J0.out.facts
  obtain ⟨c1, f1⟩ := J1.out.facts
  have hck := (hsl.cell 0).trans hcur
  clear CK hrow hb3 cg fg cg2 fg2 n0 n1 n2 n3 n4 n5 n6 n7 hcur hsl hsz htk
  have HCM3 := Lib.hid (((HBX3.out.mono hBw).cell (p := ⟨bM, offM + i, none⟩) hbM).trans (((HBX.out.mono hBw).cell (p := ⟨bM, offM + i, none⟩) hbM).symm.trans HCM.out))
  have HG3 : Hid (w3.cell? ⟨g, 2, none⟩ = some (.slice (some ⟨bM, offM, none⟩) N cM)) := Lib.hid (by
    obtain ⟨_, _, h3⟩ := HO3.out
    rw [← HVN.out]; exact h3.slab.cell 2)
  have hcm3 := HCM3.out
  have hcg3 := HG3.out
  go_wp2_with fail
  go_region_held3 (fun w' => (∀ i, w'.cell? ⟨w.heap.size, i, none⟩ = (#[pp g])[i]?) ∧ w'.cell? ⟨gk, 0, none⟩ = some (.int .i64 j) ∧ w'.cell? ⟨g, 2, none⟩ = some (.slice (some ⟨bM, offM, none⟩) N cM) ∧ w'.cell? ⟨bM, offM + i, none⟩ = some (.int .i64 nm)) (first | exact ⟨U0.out.cell, UK.out, UG.out, UM.out⟩ | exact ⟨T0.out.cell, TK.out, TG.out, TM.out⟩ | exact ⟨J0.out.cell, hck, HG3.out, HCM3.out⟩) (first | (go_at_call 54; go_must (refine (HC1.out _ (KeptM.of HBX3.out).drew HO3.out.drew).mono ?_; rintro e7 w7 ⟨he7, hb7, hk7, h7⟩; rw [HN1.out] at he7; subst he7; have T0 := Lib.hid (hk7 _ _ _ J0.out.drew (by omega) (by decide)); have TSK := Lib.hid (hk7 _ _ _ HSK.out.drew hgkg (by decide)); have TK := Lib.hid ((TSK.out.cell 0).trans HCU.out); have TM := Lib.hid ((hb7.cell (p := ⟨bM, offM + i, none⟩) hbM).trans HCM3.out); have TG : Hid (w7.cell? ⟨g, 2, none⟩ = some (.slice (some ⟨bM, offM, none⟩) N cM)) := Lib.hid (by obtain ⟨_, _, h3⟩ := h7; rw [← HVN.out]; exact h3.slab.cell 2))) | (go_at_call 91; go_must (refine (HC3.out _ h7).mono ?_; rintro e8 w8 ⟨rfl, hb8, hk8, h8⟩; have U0 := Lib.hid (hk8 _ _ _ T0.out (by omega) (by decide)); have UK := Lib.hid (((hk8 _ _ _ TSK.out hgkg (by decide)).cell 0).trans HCU.out); have UM := Lib.hid ((hb8.cell (p := ⟨bM, offM + i, none⟩) hbM).trans TM.out); have UG : Hid (w8.cell? ⟨g, 2, none⟩ = some (.slice (some ⟨bM, offM, none⟩) N cM)) := Lib.hid (by obtain ⟨_, _, h3⟩ := h8; rw [← HVN.out]; exact h3.slab.cell 2))))
  all_goals
    clear HC1 HC3
    go_wp2_with fail
    go_ret
    exact ⟨rfl, ((HB3.out.drew).trans hb7).trans hb8, ((KeptM.of HBX3.out).drew.trans hk7).trans hk8, h8⟩
end Go.Proofs.Ytddokdjlmdoebaa

/- Walks of the package lower: node, of nodes with many kids; node. -/
namespace Go.Proofs.Ytddokdjlmdoebaa
open Go.RowKit SetP AstP LowP ParP
set_option maxRecDepth 100000 in
set_option maxHeartbeats 2000000 in
theorem node_kids {B g : Nat} {A : Option Addr} {c : Nat} {L : List Nd} {gN cN : Nat} {AM : Option Addr} {cM : Nat} (hlen : L.length ≤ 100000) (hF : formedF L = true) (i : Nat) (hi : i < L.length) (x : Nd) (hx : L.getD i ndEmpty = x) (O : List Tm) (w : World) (hO : Mk w B g (toldOf B A c L gN cN AM cM) O) (q : Int) (hk : (x.kind = 5 ∧ q = 3) ∨ (x.kind = 6 ∧ q = 4)) (hne : 0 < (kidsF L (i : Int)).length) (hM : ∀ j ∈ kidsF L (i : Int), NodeMakes B g (toldOf B A c L gN cN AM cM) w j (termAt L j))
    (hl : O.length + (joinT q ((kidsF L (i : Int)).map (termAt L))).length ≤ 1000000) :
    Calls Try.prog 54 #[pp g, .int .i64 i] w (Made B g (toldOf B A c L gN cN AM cM) (O ++ shL O.length (joinT q ((kidsF L (i : Int)).map (termAt L)))) w) := by
  have hNM := hM
  clear hM
  obtain ⟨Ab, cb, h⟩ := hO
  have hM := h.mem
  obtain ⟨b, off, rfl, hb, hn8⟩ := hM.nodes.node hi
  rw [hx] at hn8
  unfold Node8 at hn8
  obtain ⟨n0, n1, n2, n3, n4, n5, n6, n7⟩ := hn8
  have hlt := h.slab.lt
  have hBw : B ≤ w.heap.size := h.le
  have hbw : b < w.heap.size := Nat.lt_of_lt_of_le hb hBw
  have hbx : Below w.heap.size w ((w.alloc (.cells #[pp g] 85)).alloc (.cells (ndCells x) 43)) := ((Below.refl _ _).alloc (by simp) _).alloc (by simp) _
  have s0 : Slab ((w.alloc (.cells #[pp g] 85)).alloc (.cells (ndCells x) 43)) w.heap.size #[pp g] 85 := (Slab.new _ _ _).alloc _
  have s1 : Slab ((w.alloc (.cells #[pp g] 85)).alloc (.cells (ndCells x) 43)) (w.heap.size + 1) (ndCells x) 43 := Slab.newAt _ _ _ (by simp)
  have hM2 := hM.keep (hbx.mono hBw)
  have CK := kids_any (some ⟨b, off, none⟩) c L (i : Int) ((w.alloc (.cells #[pp g] 85)).alloc (.cells (ndCells x) 43)) (hM2.nodes.more (Nat.le_trans hBw hbx.size))
  have hO2 : Mk ((w.alloc (.cells #[pp g] 85)).alloc (.cells (ndCells x) 43)) B g (toldOf B (some ⟨b, off, none⟩) c L gN cN AM cM) O := ⟨Ab, cb, h.keep hbx⟩
  have HO2 := Lib.hid hO2
  have HBX := Lib.hid hbx
  have hkl := kidsF_length hF hi
  rw [hx] at hkl
  have hat := formed_at hF hi
  have hstl := St_len (L := L) (k := i) (by omega)
  rw [hx] at hat
  have hkb : (kidsF L (i : Int)).length ≤ 100000 := by omega
  have hslab := h.slab
  have hs2 := h.slab.call hbx
  have HM2 := Lib.hid hM2
  obtain ⟨cg, fg⟩ := hslab.facts
  obtain ⟨cg2, fg2⟩ := hs2.facts
  have HS0 := Lib.hid s0
  have HS1 := Lib.hid s1
  have HSG := Lib.hid hs2
  have HF := Lib.hid hF
  have HX := Lib.hid hx
  obtain ⟨N, hN⟩ : ∃ N, L.length = N := ⟨_, rfl⟩
  rw [hN] at CK
  simp only [toldOf, hN] at cg cg2
  have hiN : i < N := by omega
  have HN := Lib.hid hN
  obtain ⟨K, hK⟩ : ∃ K, kidsF L (i : Int) = K := ⟨_, rfl⟩
  rw [hK] at CK hkl hkb
  have HK := Lib.hid hK
  clear h hM hM2 hbx hO2 hF hx hslab hs2 s0 s1 hN hK hat hstl
  have HNM := Lib.hid hNM
  have HL := Lib.hid hl
  rw [HK.out] at HNM HL hne ⊢
  obtain ⟨O1, hO1⟩ : ∃ O1, O ++ shL O.length (joinT q (K.map (termAt L))) = O1 := ⟨_, rfl⟩
  rw [hO1]
  have HO1 := Lib.hid hO1
  generalize hV : toldOf B (some ⟨b, off, none⟩) c L gN cN AM cM = V at *
  obtain ⟨i0, hi0, hz0, hz1, hz2⟩ := info_parts info_func
  have HI := Lib.hid hi0; clear hi0
  have HZ0 := Lib.hid hz0; clear hz0
  have HZ1 := Lib.hid hz1; clear hz1
  have HZ2 := Lib.hid hz2; clear hz2
  have hmf : ∀ (fn : Fn) (first cap : Array Value) (w : World), (Instr.makeFunc fn first cap).run Try.prog w = .ok (.func fn first cap) w := fun _ _ _ _ => rfl
  obtain ⟨M, hMl⟩ : ∃ M, K.length = M := ⟨_, rfl⟩
  rw [hMl] at CK hkb hne
  have HML := Lib.hid hMl
  obtain ⟨kd, kn, n, m, f⟩ := x
  simp only at hk
  clear hNM hl hO1 hV hMl hkl
  rcases hk with ⟨rfl, rfl⟩ | ⟨rfl, rfl⟩
  all_goals
    go_enter Try.func54, Try.ntmps54
    go_wp2_with fail
    refine CK.mono ?_
    rintro e3 w3 ⟨A3, c3, rfl, hrow, hb3⟩
    have HI3 := Lib.hid (row_at0 hrow (by omega))
    have HO3 := Lib.hid (HO2.out.keep hb3)
    have J0 := Lib.hid (HS0.out.call hb3)
    have J1 := Lib.hid (HS1.out.call hb3)
    have HBX3 := Lib.hid (below_then HBX.out hb3)
    have HB3 := Lib.hid ((Below.refl B w).trans (HBX3.out.mono hBw))
    obtain ⟨c0, f0⟩ := J0.out.facts
    obtain ⟨c1, f1⟩ := J1.out.facts
    clear CK hrow hb3 cg fg cg2 fg2 n0 n1 n2 n3 n4 n5 n6 n7
    go_wp2_with fail
    have hw3 : w.heap.size ≤ w3.heap.size := HBX3.out.size
    have hg3 : g < w3.heap.size := by omega
    go_loopw [7, 63] (fun a i wr => ∃ (k : Nat) (A' : Option Addr) (c' : Nat) (ps : List (Nat × Nat)), k ≤ M ∧ i = .int .i64 k ∧ a = .slice A' k c' ∧ wr.ownsRow w3.heap.size 129 1 (.slice A' k c') k (ps.map fun p => Fnode w.heap.size p.1) ∧ ps.map Prod.snd = K.take k ∧ (∀ p ∈ ps, Slab wr p.1 #[.int .i64 (p.2 : Nat)] 3 ∧ p.1 ≠ g) ∧ Below w3.heap.size w3 wr) (fun _ i _ => M - (intOf i).toNat)
    case atStart => exact ⟨0, none, 0, [], Nat.zero_le _, rfl, rfl, World.ownsRow_nil _ _ _ _, rfl, (by intro p hp; cases hp), Below.refl _ _⟩
    case round =>
      clear c0 f0 c1 f1
      obtain ⟨k, A', c', ps, hk, rfl, rfl, hown, hps, hbox, hX⟩ := hrel
      have HX := Lib.hid hX
      have HPS := Lib.hid hps
      have HBOX := Lib.hid hbox
      have hsz := hX.size
      obtain ⟨c0, f0⟩ := (J0.out.call hX).facts
      obtain ⟨c1, f1⟩ := (J1.out.call hX).facts
      clear hX hps hbox
      by_cases hlt2 : k < M
      · have hmK : k < K.length := by rw [HML.out]; exact hlt2
        obtain ⟨b3, off3, rfl, hb3, hc3⟩ := (HI3.out.below HX.out).at_ (j := k) hmK
        have hts := take_snoc hmK
        have HTS := Lib.hid hts
        generalize K.getD k 0 = kj at *
        clear hts
        have hown3 : (wr.alloc (.cells #[.int .i64 (kj : Int)] 3)).ownsRow w3.heap.size 129 1 (.slice A' k c') k (ps.map fun p => Fnode w.heap.size p.1) := hown.alloc _
        have sB : Slab (wr.alloc (.cells #[.int .i64 (kj : Int)] 3)) wr.heap.size #[.int .i64 (kj : Int)] 3 := Slab.new _ _ _
        have HSB := Lib.hid sB
        have hbr : b3 < wr.heap.size := by omega
        clear sB hown
        go_wp2_with (at_builtin; go_must (refine wpList_append_elem_at _ rfl (.tmp 67) (.tmp 69) 128 rfl (w3.heap.size) 129 i0 _ _ _ Try.underlying128 HI.out HZ0.out HZ1.out HZ2.out rfl (by decide) _ _ _ _ ?q1 hown3 _ _ ?q2 (by first | rfl | simp) ?q3 ?q4 (by unfold maxLen; omega) (by omega) (by first | omega | (simp; omega)) ?_); (case q1 => rfl); (case q2 => first | rfl | exact slice_at (by simp)); (case q3 => rfl); (case q4 => simp [Value.oneCell']); intro A4 q4 w4 hown4 hbl4 has4)
        have HX4 := Lib.hid ((HX.out.alloc hsz (.cells #[.int .i64 (kj : Int)] 3)).trans hbl4)
        have hb4 : ∀ p ∈ ps ++ [(wr.heap.size, kj)], Slab w4 p.1 #[.int .i64 (p.2 : Nat)] 3 ∧ p.1 ≠ g := by
          intro p hp
          rcases List.mem_append.1 hp with hp | hp
          · have hs := ((HBOX.out p hp).1.alloc (.cells #[.int .i64 (kj : Int)] 3))
            exact ⟨(has4 _ _ _ hs (row_not hown3 hs (by decide))).1, (HBOX.out p hp).2⟩
          · rw [List.mem_singleton.1 hp]
            exact ⟨(has4 _ _ _ HSB.out (row_not hown3 HSB.out (by decide))).1, by show wr.heap.size ≠ g; omega⟩
        have HB4 := Lib.hid hb4
        clear hb4 has4 hbl4
        go_roundw
        case rel => exact ⟨k + 1, A4, q4, ps ++ [(wr.heap.size, kj)], by omega, by go_num, rfl, by rw [List.map_append]; exact hown4, by rw [List.map_append, HPS.out, HTS.out]; rfl, HB4.out, HX4.out⟩
        case measure => simp [intOf]; omega
      · obtain rfl : k = M := by omega
        have htk : K.take k = K := by rw [← HML.out, List.take_length]
        have hps := HPS.out
        rw [htk] at hps
        have hfst : (ps.map fun p => ((Fnode w.heap.size p.1 : Value), termAt L p.2)).map Prod.fst = ps.map fun p => Fnode w.heap.size p.1 := by rw [List.map_map]; rfl
        have hsnd : (ps.map fun p => ((Fnode w.heap.size p.1 : Value), termAt L p.2)).map Prod.snd = K.map (termAt L) := by rw [List.map_map, ← hps, List.map_map]; rfl
        have hpl : (ps.map fun p => ((Fnode w.heap.size p.1 : Value), termAt L p.2)).length = k := by rw [List.length_map, ← List.length_map (f := Prod.snd), hps, HML.out]
        have CJ := fun (qq : Int) (hqq : O.length + (joinT qq (K.map (termAt L))).length ≤ 1000000) => join_row B g V qq (ps.map fun p => ((Fnode w.heap.size p.1 : Value), termAt L p.2)) O wr (by rw [hfst]; exact hown) hpl hg3 hne (by omega) (fun p hp => by
          obtain ⟨p', hp', rfl⟩ := List.mem_map.1 hp
          have hin : p'.2 ∈ K := by rw [← hps]; exact List.mem_map.2 ⟨p', hp', rfl⟩
          exact node1_any B g V p'.2 (termAt L p'.2) wr w.heap.size p'.1 (J0.out.call HX.out) (HBOX.out p' hp').1 (by omega) (HBOX.out p' hp').2 ((HNM.out p'.2 hin).keep (KeptM.of (HBX3.out.trans (HX.out.mono hw3))))) (HO3.out.keep HX.out) (by rw [hsnd]; exact hqq)
        have CJ := CJ _ HL.out
        rw [hsnd, HO1.out] at CJ
        have HCJ := Lib.hid CJ
        clear CJ hfst hsnd hpl hps htk hown
        go_wp2_with fail
        refine HCJ.out.mono ?_
        rintro e7 w7 ⟨rfl, hb7, hk7, h7⟩
        clear HCJ
        go_wp2_with fail
        go_ret
        exact ⟨rfl, (HB3.out.trans (HX.out.mono (Nat.le_trans hBw hw3))).trans hb7, ((KeptM.of HBX3.out).trans (KeptM.of HX.out)).trans hk7, h7⟩
end Go.Proofs.Ytddokdjlmdoebaa

/- Walks of the package lower: node, of every node of a tree. -/
namespace Go.Proofs.Ytddokdjlmdoebaa
open Go.RowKit SetP AstP LowP ParP
theorem one_kid {L : List Nd} {i : Nat} (hF : formedF L = true) (hi : i < L.length) (h : (L.getD i ndEmpty).kids = 1) : ∃ j, kidsF L (i : Int) = [j] := by
  have := kidsF_length hF hi
  rw [h] at this
  exact List.length_eq_one_iff.1 this
theorem termAt_cases {L : List Nd} (hF : formedF L = true) (hok : ∀ j, j < L.length → nodeOk L j = true) {i : Nat} (hi : i < L.length) (x : Nd) (hx : L.getD i ndEmpty = x) :
    ((x.kind = 1 ∨ x.kind = 2) ∧ termAt L i = [if x.kind = 1 then tmE else tmL x.set]) ∨
    (x.kind = 3 ∧ ∃ j, kidsF L (i : Int) = [j] ∧ j < i ∧ termAt L i = unaT (termAt L j) 7 (numAt L i)) ∨
    (x.kind = 4 ∧ rightB x.n x.m = true ∧ ∃ j, kidsF L (i : Int) = [j] ∧ j < i ∧ termAt L i = repT (termAt L j) x.n x.m (nullAt L j)) ∨
    (∃ q : Int, ((x.kind = 5 ∧ q = 3) ∨ (x.kind = 6 ∧ q = 4)) ∧ 0 < (kidsF L (i : Int)).length ∧ termAt L i = joinT q ((kidsF L (i : Int)).map (termAt L))) := by
  have ht := termAt_eq hF hi
  have hni := nodeIs (nodeOk_parts (hok i hi)).1
  have hkl := kidsF_length hF hi
  simp only at ht
  rw [hx] at ht hni hkl
  cases hni with
  | empty hk hn h => left; rw [ht, hk]; exact ⟨.inl rfl, rfl⟩
  | set hk hn h => left; rw [ht, hk]; exact ⟨.inr rfl, rfl⟩
  | group hk hn h =>
    obtain ⟨j, hj⟩ := one_kid hF hi (by rw [hx]; exact hn)
    refine .inr (.inl ⟨hk, j, hj, kidsF_lt hF hi (by rw [hj]; simp), ?_⟩)
    rw [ht, hk, hj]; rfl
  | rep hk hn hr h =>
    obtain ⟨j, hj⟩ := one_kid hF hi (by rw [hx]; exact hn)
    refine .inr (.inr (.inl ⟨hk, hr, j, hj, kidsF_lt hF hi (by rw [hj]; simp), ?_⟩))
    rw [ht, hk, hj]; rfl
  | cat hk n hn h2 h =>
    refine .inr (.inr (.inr ⟨3, .inl ⟨hk, rfl⟩, by rw [hkl, hn]; simp; omega, ?_⟩))
    rw [ht, hk]; rfl
  | alt hk n hn h2 h =>
    refine .inr (.inr (.inr ⟨4, .inr ⟨hk, rfl⟩, by rw [hkl, hn]; simp; omega, ?_⟩))
    rw [ht, hk]; rfl
theorem repT_pos {X : List Tm} {n m : Int} {nl : Bool} (h : rightB n m = true) : 0 < (repT X n m nl).length := by
  unfold repT
  split
  · simp
  · rename_i hm
    exact joinT_pos 3 _ (partsT_ne h (by intro e; exact hm (by rw [e]; rfl))) partsT_pos
theorem termAt_pos {L : List Nd} (hF : formedF L = true) (hok : ∀ j, j < L.length → nodeOk L j = true) (i : Nat) (hi : i < L.length) : 0 < (termAt L i).length := by
  revert hi
  induction i using Nat.strongRecOn with
  | _ i ih =>
    intro hi
    rcases termAt_cases hF hok hi _ rfl with ⟨_, h⟩ | ⟨_, j, hj, hji, h⟩ | ⟨_, hr, j, hj, hji, h⟩ | ⟨q, _, h0, h⟩
    · rw [h]; simp
    · rw [h, unaT_length]; omega
    · rw [h]; exact repT_pos hr
    · rw [h]
      refine joinT_pos q _ (by intro e; rw [List.map_eq_nil_iff] at e; rw [e] at h0; simp at h0) fun p hp => ?_
      obtain ⟨j, hj, rfl⟩ := List.mem_map.1 hp
      exact ih j (kidsF_lt hF hi hj) (Nat.lt_trans (kidsF_lt hF hi hj) hi)
theorem mnode_any {B g : Nat} {A : Option Addr} {c : Nat} {L : List Nd} {gN cN : Nat} {AM : Option Addr} {cM : Nat} (hlen : L.length ≤ 100000) (hF : formedF L = true) (hok : ∀ j, j < L.length → nodeOk L j = true) (i : Nat) (hi : i < L.length) :
    ∀ w, NodeMakes B g (toldOf B A c L gN cN AM cM) w i (termAt L i) := by
  revert hi
  induction i using Nat.strongRecOn with
  | _ i ih =>
    intro hi w
    refine ⟨termAt_pos hF hok i hi, fun O w1 _ hO hl => ?_⟩
    rcases termAt_cases hF hok hi _ rfl with ⟨hk, h⟩ | ⟨hk, j, hj, hji, h⟩ | ⟨hk, hr, j, hj, hji, h⟩ | ⟨q, hk, h0, h⟩
    · rw [h] at hl ⊢
      have e : ∀ d, shL d [if (L.getD i ndEmpty).kind = 1 then tmE else tmL (L.getD i ndEmpty).set] = [if (L.getD i ndEmpty).kind = 1 then tmE else tmL (L.getD i ndEmpty).set] := fun d => by split <;> rfl
      rw [e]
      exact node_leaf hlen hF i hi _ rfl O w1 hO hk (by simp at hl; omega)
    · rw [h] at hl ⊢
      exact node_group hlen hF i hi _ rfl O w1 hO hk j hj _ (ih j hji (by omega) w1) hl
    · rw [h] at hl ⊢
      exact node_rep hlen hF i hi _ rfl O w1 hO hk hr j hj (by omega) _ (ih j hji (by omega) w1) hl
    · rw [h] at hl ⊢
      exact node_kids hlen hF i hi _ rfl O w1 hO q hk h0 (fun j hj => ih j (kidsF_lt hF hi hj) (Nat.lt_trans (kidsF_lt hF hi hj) hi) w1) hl
end Go.Proofs.Ytddokdjlmdoebaa
