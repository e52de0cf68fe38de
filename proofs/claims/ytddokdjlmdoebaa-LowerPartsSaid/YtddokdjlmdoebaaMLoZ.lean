/- Walks of the package lower: Lower, of a tree within the limits. -/
import Derived.Test.YtddokdjlmdoebaaProg
import Derived.WalkKit
import Derived.WalkSpells
import Derived.WalkLawsBesides
import Derived.Handy
import Derived.Lib.Hide
import Derived.Test.YtddokdjlmdoebaaMLoV
import Derived.Test.YtddokdjlmdoebaaMLoD
import Derived.Test.YtddokdjlmdoebaaMAsk
set_option linter.unusedVariables false
set_option linter.unusedSimpArgs false
namespace Go.Proofs.Ytddokdjlmdoebaa
open Go.RowKit SetP AstP LowP ParP
theorem flatT_get (L : List Tm) (j f : Nat) (hj : j < L.length) (hf : f < 8) : (flatT L)[j * 8 + f]? = (tmCells (L.getD j tmE))[f]? := by
  unfold flatT
  induction L generalizing j with
  | nil => simp at hj
  | cons x L ih =>
    rw [List.flatMap_cons]
    cases j with
    | zero => rw [Nat.zero_mul, Nat.zero_add, List.getElem?_append_left (by simpa using hf)]; simp
    | succ j =>
      rw [List.getElem?_append_right (by simp; omega)]
      have := ih j (by simpa using hj)
      rw [show (j + 1) * 8 + f - (tmCells x).toList.length = j * 8 + f by simp; omega]
      rw [this]; rfl
theorem TermAt.of_row {w : World} {base n c : Nat} {A : Option Addr} {L : List Tm} (h : w.ownsRow base 47 8 (.slice A n c) n (flatT L)) (hn : L.length = n) (hb : n ≤ 1000000) : TermAt w w.heap.size A L := by
  refine ⟨by omega, ?_⟩
  rcases Nat.eq_zero_or_pos n with h0 | h0
  · exact .inl (by omega)
  · obtain ⟨g, rfl, _, hg, _, hc⟩ := row_cell h h0
    refine .inr ⟨g, 0, rfl, hg, fun j hj => ?_⟩
    have hh : ∀ f, f < 8 → w.cell? ⟨g, 0 + j * 8 + f, none⟩ = (tmCells (L.getD j tmE))[f]? := fun f hf => by
      rw [Nat.zero_add, hc _ (by omega), flatT_get L j f hj hf]
    exact ⟨hh 0 (by omega), hh 1 (by omega), hh 2 (by omega), hh 3 (by omega), hh 4 (by omega), hh 5 (by omega), hh 6 (by omega), hh 7 (by omega)⟩
set_option maxRecDepth 100000 in
set_option maxHeartbeats 2000000 in
theorem lower_ok (A : Option Addr) (c : Nat) (L : List Nd) (hR : rightF L = true) (hlen : L.length ≤ 100000) (T P S n1 n2 : Int) (hs : sizeF L = (n1, n2)) (h1 : n1 ≤ 400) (h1T : n1 ≤ T) (h2 : n2 ≤ 64) (h2P : n2 ≤ max P 0) (h20 : 0 ≤ n2) (lo : List Nat) (hG : GoodT (termAt L (L.length - 1)) lo)
    (w : World) (hL : NodesAt w w.heap.size A L) :
    Calls Try.prog 22 #[.slice A L.length c, .agg #[.int .i64 T, .int .i64 P, .int .i64 S]] w fun e w' => ∃ A' c', e = .returned (.tuple #[.slice A' (termAt L (L.length - 1)).length c', .int .i64 0]) ∧
      w'.ownsRow w.heap.size 47 8 (.slice A' (termAt L (L.length - 1)).length c') (termAt L (L.length - 1)).length (flatT (termAt L (L.length - 1))) ∧ Below w.heap.size w w' := by
  obtain ⟨hF, hok, _⟩ := right_parts hR
  have hpos := (root_size hF).1
  have HB0 := Lib.hid ((Below.refl w.heap.size w).alloc (Nat.le_refl _) (.cells #[.int .i64 T, .int .i64 P, .int .i64 S] 30))
  have o0 : Slab (w.alloc (.cells #[.int .i64 T, .int .i64 P, .int .i64 S] 30)) w.heap.size #[.int .i64 T, .int .i64 P, .int .i64 S] 30 := Slab.new _ _ _
  have HL := Lib.hid hL
  have CR := fun w1 (hb : Below w.heap.size w w1) => right_any A c L w1 ((hL.below hb).more hb.size)
  have CS := fun w1 (hb : Below w.heap.size w w1) => lsize_any A c L (by omega) w1 ((hL.below hb).more hb.size)
  have CN := fun w1 (hb : Below w.heap.size w w1) => lnull_any A c L w1 ((hL.below hb).more hb.size)
  have CM := fun w1 (hb : Below w.heap.size w w1) => numbers_any A c L w1 ((hL.below hb).more hb.size)
  rw [hR] at CR
  rw [hs] at CS
  have e : nullF L = nullL L L.length := by unfold nullF; rw [hR]; rfl
  rw [e, nullL_length] at CN
  rw [numsF_length hF] at CM
  have HCR := Lib.hid CR
  have HCS := Lib.hid CS
  have HCN := Lib.hid CN
  have HCM := Lib.hid CM
  have HF := Lib.hid hF
  have HOK := Lib.hid hok
  have HG := Lib.hid hG
  obtain ⟨N, hN⟩ : ∃ N, L.length = N := ⟨_, rfl⟩
  have HN := Lib.hid hN
  rw [hN] at HCR HCS HCN HCM HG hlen hpos ⊢
  have O0 := Lib.hid o0
  have d1 : decide (400 < n1) = false := decide_eq_false (by omega)
  have d2 : decide (T < n1) = false := decide_eq_false (by omega)
  have d3 : decide (64 < n2) = false := decide_eq_false (by omega)
  have hm1 : decide (min T 400 < n1) = false := decide_eq_false (by omega)
  have hm2 : decide (min (max P 0) 64 < n2) = false := decide_eq_false (by omega)
  clear CR CS CN CM hs e hL hR hF hok hG hN o0
  generalize hXe : termAt L (N - 1) = X at *
  have HXE := Lib.hid hXe
  clear hXe
  go_enter Try.func22, Try.ntmps22
  go_wp2_with fail
  refine (HCR.out _ HB0.out).mono ?_
  rintro e1 w1 ⟨rfl, hb1⟩
  have HB1 := Lib.hid (below_then HB0.out hb1)
  have O1 := Lib.hid (O0.out.call hb1)
  obtain ⟨c1, f1⟩ := O1.out.facts
  go_wp2_with fail
  refine (HCS.out _ HB1.out).mono ?_
  rintro e2 w2 ⟨rfl, hb2⟩
  have HB2 := Lib.hid (below_then HB1.out hb2)
  have O2 := Lib.hid (O1.out.call hb2)
  obtain ⟨c2, f2⟩ := O2.out.facts
  clear hb1 hb2 c1 f1
  go_wp2_with fail
  all_goals
    refine (HCN.out _ HB2.out).mono ?_
    rintro e3 w3 ⟨A3, c3, rfl, hrow3, hb3⟩
    have HB3 := Lib.hid (below_then HB2.out hb3)
    obtain ⟨gN, cur, rfl, hgN, hnc, hsl, hsz, htk⟩ := row_at hrow3 hpos
    have hcur : ∀ k, k < N → cur[k]? = some (.bool (nullAt L k)) := fun k hk => by
      have e : cur.toList[k]? = ((nullL L N).map Value.bool)[k]? := by rw [← htk, List.getElem?_take_of_lt (by omega)]
      rw [← Array.getElem?_toList, e, List.getElem?_map, nullL_get L hk]; rfl
    have HSL := Lib.hid hsl
    have HCU := Lib.hid hcur
    clear hrow3 hb3 hsl hsz htk hcur hnc c2 f2
    go_wp2_with fail
    refine (HCM.out _ HB3.out).mono ?_
    rintro e4 w4 ⟨A4, c4, rfl, hrow4, hb4⟩
    have HB4 := Lib.hid (below_then HB3.out hb4)
    have hnum := row_at0 hrow4 (by omega)
    rw [numsF_Nums HF.out] at hnum
    have hsl4 := HSL.out.call hb4
    have hww : w.heap.size ≤ w4.heap.size := HB4.out.size
    have hB5 : Below w4.heap.size w4 (w4.alloc (.cells #[.slice A N c, .slice (some ⟨gN, 0, none⟩) N c3, .slice A4 N c4, .slice none 0 0] 88)) := (Below.refl _ _).alloc (Nat.le_refl _) _
    have hMk : Mk (w4.alloc (.cells #[.slice A N c, .slice (some ⟨gN, 0, none⟩) N c3, .slice A4 N c4, .slice none 0 0] 88)) w4.heap.size w4.heap.size (toldOf w4.heap.size A c L gN c3 A4 c4) [] := by
      refine ⟨none, 0, ?_, World.ownsRow_nil _ _ _ _, Nat.le_refl _, ?_, fun u u' hb h => TreeMem.keep h hb⟩
      · show Slab _ _ #[.slice A L.length c, .slice (some ⟨gN, 0, none⟩) L.length c3, .slice A4 L.length c4, .slice none 0 0] _
        rw [HN.out]; exact Slab.new _ _ _
      · exact ⟨((HL.out.below HB4.out).more hww).below hB5, ⟨cur, hsl4.alloc _, fun k hk => HCU.out k (by rw [← HN.out]; exact hk)⟩, hsl4.lt, hnum.below hB5⟩
    have CD := (mnode_any (B := w4.heap.size) (g := w4.heap.size) (A := A) (c := c) (gN := gN) (cN := c3) (AM := A4) (cM := c4) (by rw [HN.out]; exact hlen) HF.out HOK.out (N - 1) (by rw [HN.out]; omega) (w4.alloc (.cells #[.slice A N c, .slice (some ⟨gN, 0, none⟩) N c3, .slice A4 N c4, .slice none 0 0] 88))).2 [] (w4.alloc (.cells #[.slice A N c, .slice (some ⟨gN, 0, none⟩) N c3, .slice A4 N c4, .slice none 0 0] 88)) (KeptM.refl _ _) hMk (by rw [HXE.out]; have := HG.out.le; simp; omega)
    rw [HXE.out] at CD
    have hsh : ([] : List Tm) ++ shL ([] : List Tm).length X = X := by simp [shL_zero]
    rw [hsh] at CD
    have HCD := Lib.hid CD
    have hr : (N : Int) - 1 = ((N - 1 : Nat) : Int) := by omega
    have HR := Lib.hid hr
    have HB5 := Lib.hid (HB4.out.trans (hB5.mono hww))
    clear CD hMk hsl4 hnum hB5 hrow4 hb4 hsh hr
    go_wp2_with fail
    rw [HR.out]
    refine HCD.out.mono ?_
    rintro e6 w6 ⟨rfl, hb6, hk6, Ab, cb, hm6⟩
    have HB6 := Lib.hid (HB5.out.trans (hb6.mono hww))
    have HM6 := Lib.hid hm6
    have hs6 := hm6.slab
    have hcap : X.length ≤ cb := by
      obtain ⟨g', _, _, _, h, _⟩ := row_cell hm6.row HG.out.pos
      exact h
    have CT := tright_any Ab cb X lo w6 (TermAt.of_row hm6.row rfl (by have := HG.out.le; omega)) hcap HG.out
    obtain ⟨c6, f6⟩ := hs6.facts
    have HCT := Lib.hid CT
    clear hb6 hk6 hm6 hs6 CT HCD hcap
    go_wp2_with fail
    refine HCT.out.mono ?_
    rintro e7 w7 ⟨rfl, hb7⟩
    have hs7 := HM6.out.slab.call hb7
    have HRW := Lib.hid (row_mono (row_call HM6.out.row hb7) hww)
    have HB7 := Lib.hid (below_then HB6.out hb7)
    obtain ⟨c7, f7⟩ := hs7.facts
    clear hb7 hs7 HCT c6 f6
    go_wp2_with fail
    refine bodyPost_ret (v := .tuple #[.slice Ab X.length cb, .int .i64 0]) (by simp [results, Try.results22, go_sem]) rfl ⟨Ab, cb, rfl, HRW.out, HB7.out⟩
end Go.Proofs.Ytddokdjlmdoebaa

/- Walks of the package lower: Lower, of a tree that is too great, or none. -/
namespace Go.Proofs.Ytddokdjlmdoebaa
open Go.RowKit SetP AstP LowP ParP
set_option maxRecDepth 100000 in
set_option maxHeartbeats 2000000 in
theorem lower_not (A : Option Addr) (c : Nat) (L : List Nd) (hR : rightF L = false) (T P S : Int) (w : World) (hL : NodesAt w w.heap.size A L) :
    Calls Try.prog 22 #[.slice A L.length c, .agg #[.int .i64 T, .int .i64 P, .int .i64 S]] w fun e w' => e = .returned (.tuple #[.slice none 0 0, .int .i64 11]) ∧ Below w.heap.size w w' := by
  have HB0 := Lib.hid ((Below.refl w.heap.size w).alloc (Nat.le_refl _) (.cells #[.int .i64 T, .int .i64 P, .int .i64 S] 30))
  have CR := fun w1 (hb : Below w.heap.size w w1) => right_any A c L w1 ((hL.below hb).more hb.size)
  rw [hR] at CR
  have HCR := Lib.hid CR
  clear CR hL hR
  go_enter Try.func22, Try.ntmps22
  go_wp2_with fail
  refine (HCR.out _ HB0.out).mono ?_
  rintro e1 w1 ⟨rfl, hb1⟩
  have HB1 := Lib.hid (below_then HB0.out hb1)
  clear hb1 HCR
  go_wp2_with fail
  refine bodyPost_ret (v := .tuple #[.slice none 0 0, .int .i64 11]) (by simp [results, Try.results22, go_sem]) rfl ⟨rfl, HB1.out⟩
set_option maxRecDepth 100000 in
set_option maxHeartbeats 2000000 in
theorem lower_small (A : Option Addr) (c : Nat) (L : List Nd) (hR : rightF L = true) (hlen : L.length ≤ 100000) (T P S n1 n2 : Int) (hs : sizeF L = (n1, n2)) (h1 : T < n1) (hT : T < 400)
    (w : World) (hL : NodesAt w w.heap.size A L) :
    Calls Try.prog 22 #[.slice A L.length c, .agg #[.int .i64 T, .int .i64 P, .int .i64 S]] w fun e w' => e = .returned (.tuple #[.slice none 0 0, .int .i64 10]) ∧ Below w.heap.size w w' := by
  have HB0 := Lib.hid ((Below.refl w.heap.size w).alloc (Nat.le_refl _) (.cells #[.int .i64 T, .int .i64 P, .int .i64 S] 30))
  have o0 : Slab (w.alloc (.cells #[.int .i64 T, .int .i64 P, .int .i64 S] 30)) w.heap.size #[.int .i64 T, .int .i64 P, .int .i64 S] 30 := Slab.new _ _ _
  have O0 := Lib.hid o0
  have CR := fun w1 (hb : Below w.heap.size w w1) => right_any A c L w1 ((hL.below hb).more hb.size)
  have CS := fun w1 (hb : Below w.heap.size w w1) => lsize_any A c L (by omega) w1 ((hL.below hb).more hb.size)
  rw [hR] at CR
  rw [hs] at CS
  have HCR := Lib.hid CR
  have HCS := Lib.hid CS
  have d1 : decide (400 < T) = false := decide_eq_false (by omega)
  have d2 : decide (T < n1) = true := decide_eq_true h1
  clear CR CS hL hR hs o0
  go_enter Try.func22, Try.ntmps22
  go_wp2_with fail
  refine (HCR.out _ HB0.out).mono ?_
  rintro e1 w1 ⟨rfl, hb1⟩
  have HB1 := Lib.hid (below_then HB0.out hb1)
  have O1 := Lib.hid (O0.out.call hb1)
  go_wp2_with fail
  refine (HCS.out _ HB1.out).mono ?_
  rintro e2 w2 ⟨rfl, hb2⟩
  have HB2 := Lib.hid (below_then HB1.out hb2)
  have O2 := Lib.hid (O1.out.call hb2)
  obtain ⟨c2, f2⟩ := O2.out.facts
  clear hb1 hb2 HCR HCS
  go_wp2_with fail
  all_goals
    refine bodyPost_ret (v := .tuple #[.slice none 0 0, .int .i64 10]) (by simp [results, Try.results22, go_sem]) rfl ⟨rfl, HB2.out⟩
end Go.Proofs.Ytddokdjlmdoebaa

/- Plain facts: the term of the laws' fixed tree. No program is in sight. -/
namespace Go.Proofs.Ytddokdjlmdoebaa
open SetP AstP LowP
def l11 : List Nd := [⟨2, 0, 0, 0, fun _ => false⟩, ⟨4, 1, 2, 3, fun _ => false⟩]
def x11 : List Tm := [tmL zSet, tmU 8 0 0, tmL zSet, tmU 8 2 0, tmL zSet, tmU 8 4 0, tmU 6 5 0, tmB 3 3 6, tmB 3 1 7]
set_option maxRecDepth 100000 in
theorem l11_right : rightF l11 = true := by rfl
set_option maxRecDepth 100000 in
theorem l11_size : sizeF l11 = (9, 3) := by rfl
set_option maxRecDepth 100000 in
theorem l11_term : termAt l11 1 = x11 := by rfl
theorem x11_good : GoodT x11 [0, 0, 2, 2, 4, 4, 4, 2, 0] := by
  have hc : ∀ i, i < x11.length → i = 0 ∨ i = 1 ∨ i = 2 ∨ i = 3 ∨ i = 4 ∨ i = 5 ∨ i = 6 ∨ i = 7 ∨ i = 8 := fun i hi => by
    have : i < 9 := hi
    omega
  have hno : ∀ i, i < x11.length → (x11.getD i tmE).kind ≠ 7 := fun i hi => by
    rcases hc i hi with rfl | rfl | rfl | rfl | rfl | rfl | rfl | rfl | rfl <;> decide
  refine ⟨rfl, by decide, by decide, fun i hi => ?_, fun i hi => ⟨?_, ?_, ?_⟩, fun i hi => ?_, fun i hi h => absurd h (hno i hi), by decide, rfl⟩
  · rcases hc i hi with rfl | rfl | rfl | rfl | rfl | rfl | rfl | rfl | rfl
    · exact .leaf (.inr rfl) rfl rfl rfl
    · exact .one (.inr (.inr (.inr rfl))) 0 rfl rfl rfl rfl
    · exact .leaf (.inr rfl) rfl rfl rfl
    · exact .one (.inr (.inr (.inr rfl))) 2 rfl rfl rfl rfl
    · exact .leaf (.inr rfl) rfl rfl rfl
    · exact .one (.inr (.inr (.inr rfl))) 4 rfl rfl rfl rfl
    · exact .one (.inr (.inl rfl)) 5 rfl rfl rfl rfl
    · exact .two (.inl rfl) 6 3 rfl rfl rfl rfl (by decide) rfl
    · exact .two (.inl rfl) 7 1 rfl rfl rfl rfl (by decide) rfl
  · rcases hc i hi with rfl | rfl | rfl | rfl | rfl | rfl | rfl | rfl | rfl <;> (intro _; first | rfl | (rename_i h; exact absurd rfl h))
  · rcases hc i hi with rfl | rfl | rfl | rfl | rfl | rfl | rfl | rfl | rfl <;> (intro _; rfl)
  · exact fun h => absurd h (hno i hi)
  · rcases hc i hi with rfl | rfl | rfl | rfl | rfl | rfl | rfl | rfl | rfl <;> decide
end Go.Proofs.Ytddokdjlmdoebaa

/- Walks of the laws of layer 11: sure. -/
namespace Go.Proofs.Ytddokdjlmdoebaa
open Go.RowKit SetP AstP LowP ParP
abbrev c11 : Array Value := #[.int .i64 2, .int .i64 0, .int .i64 0, .int .i64 0, .int .u64 0, .int .u64 0, .int .u64 0, .int .u64 0, .int .i64 4, .int .i64 1, .int .i64 2, .int .i64 3, .int .u64 0, .int .u64 0, .int .u64 0, .int .u64 0]
theorem l11_at (w : World) (B b : Nat) (h : Slab w b c11 43) (hb : b < B) : NodesAt w B (some ⟨b, 0, none⟩) l11 := by
  refine ⟨by decide, .inr ⟨b, 0, rfl, hb, fun j hj f hf => ?_⟩⟩
  have hj2 : j = 0 ∨ j = 1 := by have : j < 2 := hj; omega
  have hf2 : f = 0 ∨ f = 1 ∨ f = 2 ∨ f = 3 ∨ f = 4 ∨ f = 5 ∨ f = 6 ∨ f = 7 := by omega
  rw [h.cell]
  rcases hj2 with rfl | rfl <;> rcases hf2 with rfl | rfl | rfl | rfl | rfl | rfl | rfl | rfl <;> simp [l11, ndCells, wd_zero]
set_option maxRecDepth 100000 in
set_option maxHeartbeats 2000000 in
theorem sure11_any (w : World) : Calls Try.prog 17 #[] w fun e w' => e = .returned (.bool true) ∧ Below w.heap.size w w' := by
  have HB0 := Lib.hid ((Below.refl w.heap.size w).alloc (Nat.le_refl _) (.cells c11 43))
  have s0 : Slab (w.alloc (.cells c11 43)) w.heap.size c11 43 := Slab.new _ _ _
  have HS0 := Lib.hid s0
  have C1 := fun c w1 (h : NodesAt w1 w1.heap.size (some ⟨w.heap.size, 0, none⟩) l11) => lsize_any (some ⟨w.heap.size, 0, none⟩) c l11 (by decide) w1 h
  have C2 := fun c w1 (h : NodesAt w1 w1.heap.size (some ⟨w.heap.size, 0, none⟩) l11) => lower_ok (some ⟨w.heap.size, 0, none⟩) c l11 l11_right (by decide) 400 64 0 9 3 l11_size (by decide) (by decide) (by decide) (by decide) (by decide) _ x11_good w1 h
  have C3 := fun c w1 (h : NodesAt w1 w1.heap.size (some ⟨w.heap.size, 0, none⟩) l11) => lower_small (some ⟨w.heap.size, 0, none⟩) c l11 l11_right (by decide) 8 64 0 9 3 l11_size (by decide) (by decide) w1 h
  have C4 := fun c w1 (h : NodesAt w1 w1.heap.size (some ⟨w.heap.size, 0, none⟩) l11) => lnull_any (some ⟨w.heap.size, 0, none⟩) c l11 w1 h
  rw [l11_size] at C1
  rw [show termAt l11 (l11.length - 1) = x11 from l11_term, show x11.length = 9 from rfl] at C2
  have hn2 : (nullF l11).length = 2 := by unfold nullF; rw [l11_right, if_pos rfl, nullL_length]; rfl
  rw [hn2] at C4
  have HC1 := Lib.hid C1
  have HC2 := Lib.hid C2
  have HC3 := Lib.hid C3
  have HC4 := Lib.hid C4
  clear C1 C2 C3 C4 s0
  go_enter Try.func17, Try.ntmps17
  go_wp2_with fail
  refine (HC1.out 2 _ (l11_at _ _ _ HS0.out HS0.out.lt)).mono ?_
  rintro e1 w1 ⟨rfl, hb1⟩
  have HB1 := Lib.hid (below_then HB0.out hb1)
  have HS1 := Lib.hid (HS0.out.call hb1)
  clear hb1
  go_wp2_with fail
  refine (HC2.out 2 _ (l11_at _ _ _ HS1.out HS1.out.lt)).mono ?_
  rintro e2 w2 ⟨A2, c2, rfl, hown2, hb2⟩
  obtain ⟨g, rfl, hgb, hgl, hgc, hcell⟩ := row_cell hown2 (by decide)
  have k64 : w2.cell? ⟨g, 64, none⟩ = some (.int .i64 3) := (hcell 64 (by decide)).trans rfl
  have HB2 := Lib.hid (below_then HB1.out hb2)
  have HS2 := Lib.hid (HS1.out.call hb2)
  clear hb2 hown2 hcell
  go_wp2_with fail
  refine (HC3.out 2 _ (l11_at _ _ _ HS2.out HS2.out.lt)).mono ?_
  rintro e3 w3 ⟨rfl, hb3⟩
  have k3 := ((bcell hb3).1 g 64 hgl).trans k64
  have HB3 := Lib.hid (below_then HB2.out hb3)
  have HS3 := Lib.hid (HS2.out.call hb3)
  clear hb3 k64
  go_wp2_with fail
  refine (HC4.out 2 _ (l11_at _ _ _ HS3.out HS3.out.lt)).mono ?_
  rintro e4 w4 ⟨A4, c4, rfl, hown4, hb4⟩
  have HB4 := Lib.hid (below_then HB3.out hb4)
  clear hb4 hown4
  go_wp2_with fail
  go_ret
  exact ⟨rfl, HB4.out⟩
end Go.Proofs.Ytddokdjlmdoebaa
