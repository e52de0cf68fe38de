/- Walks of the package bracket: the bracket of a set. -/
import Derived.Test.YtfcgmgpcbenfpaaGreatProg
import Derived.WalkKit
import Derived.WalkSpells
import Derived.WalkLawsBesides
import Derived.Handy
import Derived.Lib.Hide
import Derived.Test.YtfcgmgpcbenfpaaGreatMBkp
import Derived.Test.YtfcgmgpcbenfpaaGreatMBset
import Derived.Deep.QuietTactic
import Derived.Deep.RegionHeld3
import Derived.BigQuiet
import Derived.IntWalk
set_option linter.unusedVariables false
set_option linter.unusedSimpArgs false
namespace Go.Proofs.YtfcgmgpcbenfpaaGreat
open Go.RowKit SetP BrkP
attribute [local go_sem] run_eq_set0
set_option maxRecDepth 100000 in
theorem conv_textU (w : World) (a : Addr) (k cap : Nat) (l : List UInt8) (hk : l.length = k) (hc : ∀ j (hj : j < l.length), w.cell? (a.add j) = some (.int .u8 (l[j].toNat : Int))) :
    (convert 87 9 (.slice (some a) k cap)).run Tryz.prog w = .ok (.string ⟨l.toArray⟩) w := by
  subst hk
  exact run_convert_bytes_back w 87 9 5 a cap l Tryz.underlying87 Tryz.underlying5 Tryz.underlying9 hc
def runU (c d : UInt8) : List UInt8 := if c == d then [c] else if (d.toNat : Int) == (c.toNat : Int) + 1 then [c, d] else [c, 45, d]
theorem runU_runT {p : Int × Int} (g : BrkP.Good p) : BrkP.runT p = runU (chB p.1) (chB p.2) := by
  have h1 := g.le
  have h2 := g.hi
  have ea := chB_nat g.lo (by omega)
  have eb := chB_nat (z := p.2) (by have := g.lo; omega) g.hi
  unfold BrkP.runT runU
  have e1 : (chB p.1 == chB p.2) = (p.1 == p.2) := by
    rw [Bool.eq_iff_iff]; simp only [beq_iff_eq]
    constructor
    · intro h; rw [← ea, ← eb, h]
    · intro h; rw [h]
  rw [e1, ea, eb]
set_option maxRecDepth 100000 in
set_option maxHeartbeats 2000000 in
theorem runText_any (c d : UInt8) (w : World) : Calls Tryz.prog 122 #[.agg #[.int .u8 (c.toNat : Int), .int .u8 (d.toNat : Int)]] w fun e w' => e = .returned (.string ⟨(runU c d).toArray⟩) ∧ Below w.heap.size w w' := by
  have hc : c.toNat < 256 := c.toNat_lt
  have hd : d.toNat < 256 := d.toNat_lt
  have e0 : ((c.toNat : Int) == (d.toNat : Int)) = (c == d) := by
    rw [Bool.eq_iff_iff]; simp [← UInt8.toNat_inj]; omega
  unfold runU
  have o0 : Slab (w.alloc (.cells #[.int .u8 (c.toNat : Int), .int .u8 (d.toNat : Int)] 163)) w.heap.size #[.int .u8 (c.toNat : Int), .int .u8 (d.toNat : Int)] 163 := Slab.new _ _ _
  cases h1 : (c == d) with
  | true =>
    rw [h1] at e0
    go_enter Tryz.func122, Tryz.ntmps122
    go_wp2
    go_quiet (fail)
    go_wp2
    rw [conv_textU _ ⟨_, 0, none⟩ 1 _ ([c]) rfl ?_]
    · go_wp2
      go_ret
      exact ⟨rfl, (below_drewN ((Below.refl w.heap.size w).alloc (Nat.le_refl _) _) _).alloc (by simp) _⟩
    · intro j hj
      obtain rfl : j = 0 := by simpa using hj
      exact (Slab.cell (Slab.newAt _ _ _ (by simp)) 0).trans rfl
  | false =>
  rw [h1] at e0
  have e5 : IntKind.i64.wrap ((c.toNat : Int) + 1) = (c.toNat : Int) + 1 := IntWalk.i64_in _ (by omega)
  cases h2 : ((d.toNat : Int) == (c.toNat : Int) + 1) with
  | true =>
    go_enter Tryz.func122, Tryz.ntmps122
    go_wp2
    go_quiet (fail)
    go_wp2
    rw [conv_textU _ ⟨_, 0, none⟩ 2 _ ([c, d]) rfl ?_]
    · go_wp2
      go_ret
      exact ⟨rfl, (below_drewN ((Below.refl w.heap.size w).alloc (Nat.le_refl _) _) _).alloc (by simp) _⟩
    · intro j hj
      have : j = 0 ∨ j = 1 := by simp at hj; omega
      rcases this with rfl | rfl
      · exact (Slab.cell (Slab.newAt _ _ _ (by simp)) 0).trans rfl
      · exact (Slab.cell (Slab.newAt _ _ _ (by simp)) 1).trans rfl
  | false =>
    go_enter Tryz.func122, Tryz.ntmps122
    go_wp2
    go_quiet (fail)
    go_wp2
    rw [conv_textU _ ⟨_, 0, none⟩ 3 _ ([c, 45, d]) rfl ?_]
    · go_wp2
      go_ret
      exact ⟨rfl, (below_drewN ((Below.refl w.heap.size w).alloc (Nat.le_refl _) _) _).alloc (by simp) _⟩
    · intro j hj
      have : j = 0 ∨ j = 1 ∨ j = 2 := by simp at hj; omega
      rcases this with rfl | rfl | rfl
      · exact (Slab.cell (Slab.newAt _ _ _ (by simp)) 0).trans rfl
      · exact (Slab.cell (Slab.newAt _ _ _ (by simp)) 1).trans rfl
      · exact (Slab.cell (Slab.newAt _ _ _ (by simp)) 2).trans rfl
def fourL : List Int := [93, 91, 94, 45]
theorem four_addL : addL (fun _ => false) fourL = four := by
  funext x
  unfold addL fourL four
  simp only [List.foldl_cons, List.foldl_nil, addB]
  simp [Bool.or_assoc]
set_option maxRecDepth 100000 in
theorem with4 (g c : Nat) (w : World) (o : Slab w g #[.int .u8 93, .int .u8 91, .int .u8 94, .int .u8 45] 5) :
    Calls Tryz.prog 121 #[.agg #[.int .u64 0, .int .u64 0, .int .u64 0, .int .u64 0], .slice (some ⟨g, 0, none⟩) 4 c] w fun e w' => e = .returned (setV four) ∧ Below w.heap.size w w' := by
  have h := with_some (fun _ => false) g 0 c fourL w (by decide) o.lt (fun i hi => by
    have hi' : i < 4 := hi
    rw [Nat.zero_add, o.cell]
    match i, hi' with
    | 0, _ => rfl
    | 1, _ => rfl
    | 2, _ => rfl
    | 3, _ => rfl) (fun i hi => by
    have hi' : i < 4 := hi
    match i, hi' with
    | 0, _ => exact ⟨by decide, by decide⟩
    | 1, _ => exact ⟨by decide, by decide⟩
    | 2, _ => exact ⟨by decide, by decide⟩
    | 3, _ => exact ⟨by decide, by decide⟩)
  rw [four_addL] at h
  unfold setV at h
  rw [wd_zero, wd_zero, wd_zero, wd_zero] at h
  exact h
set_option maxRecDepth 100000 in
theorem less4 (f : Nat → Bool) (w : World) : Calls Tryz.prog 120 #[setV f, setV four] w fun e w' => e = .returned (setV (restF f)) ∧ Below w.heap.size w w' := less_any f four w
set_option maxRecDepth 100000 in
theorem has93 (f : Nat → Bool) (w : World) : Calls Tryz.prog 118 #[setV f, .int .u8 93] w fun e w' => e = .returned (.bool (f 93)) ∧ Below w.heap.size w w' := has_any f 93 (by decide) (by decide) w
set_option maxRecDepth 100000 in
theorem has91 (f : Nat → Bool) (w : World) : Calls Tryz.prog 118 #[setV f, .int .u8 91] w fun e w' => e = .returned (.bool (f 91)) ∧ Below w.heap.size w w' := has_any f 91 (by decide) (by decide) w
set_option maxRecDepth 100000 in
theorem has94 (f : Nat → Bool) (w : World) : Calls Tryz.prog 118 #[setV f, .int .u8 94] w fun e w' => e = .returned (.bool (f 94)) ∧ Below w.heap.size w w' := has_any f 94 (by decide) (by decide) w
set_option maxRecDepth 100000 in
theorem has45 (f : Nat → Bool) (w : World) : Calls Tryz.prog 118 #[setV f, .int .u8 45] w fun e w' => e = .returned (.bool (f 45)) ∧ Below w.heap.size w w' := has_any f 45 (by decide) (by decide) w
theorem runsT_len (R : List (Int × Int)) : (runsT R).length ≤ 3 * R.length := by
  induction R with
  | nil => simp [runsT]
  | cons p R ih =>
    have e : runsT (p :: R) = BrkP.runT p ++ runsT R := rfl
    have : (BrkP.runT p).length ≤ 3 := by unfold BrkP.runT; split; simp; split <;> simp
    rw [e, List.length_append, List.length_cons]; omega
theorem runsT_take {R : List (Int × Int)} {k : Nat} (h : k < R.length) : runsT (R.take (k + 1)) = runsT (R.take k) ++ BrkP.runT R[k] := by
  unfold runsT
  rw [List.take_add_one, List.getElem?_eq_getElem h, List.flatMap_append]
  simp
abbrev strB (l : List UInt8) : ByteArray := ⟨l.toArray⟩
theorem strB_app (l m : List UInt8) : strB l ++ strB m = strB (l ++ m) := bytes_ext (by rw [ByteArray.data_append]; simp)
theorem strB_size (l : List UInt8) : (strB l).size = l.length := by show l.toArray.size = _; simp
theorem below_da {a w : World} (h : Below a.heap.size a w) (k : Nat) (o : Obj) : Below a.heap.size a ((w.drewN k).alloc o) := (below_drewN h k).alloc h.size o
theorem runU_len (c d : UInt8) : (runU c d).length ≤ 3 := by unfold runU; split; simp; split <;> simp
theorem strB_nil (l : List UInt8) : ((strB l).toList == []) = l.isEmpty := by
  have e : (strB l).toList = l := by rw [ByteArray.toList_eq]
  rw [e]; cases l <;> rfl
theorem str_eq (l m : List UInt8) : ((strB l).toList == m) = (l == m) := by
  have e : (strB l).toList = l := by rw [ByteArray.toList_eq]
  rw [e]
theorem q1 : (((⟨#[45]⟩ : ByteArray) ++ ⟨#[94]⟩).toList == [94]) = false := (congrArg (fun s : ByteArray => s.toList == [94]) (strB_app [45] [94])).trans (str_eq _ _)
theorem q2 : (((⟨#[45]⟩ : ByteArray) ++ ⟨#[]⟩).toList == [94]) = false := (congrArg (fun s : ByteArray => s.toList == [94]) (strB_app [45] [])).trans (str_eq _ _)
theorem q3 : ((⟨#[94]⟩ : ByteArray).toList == [94]) = true := str_eq [94] [94]
theorem q4 : ((⟨#[]⟩ : ByteArray).toList == [94]) = false := str_eq [] [94]
set_option maxRecDepth 100000 in
set_option maxHeartbeats 2000000 in
theorem btext_any (f : Nat → Bool) (w : World) : Calls Tryz.prog 106 #[setV f] w fun e w' => e = .returned (.string (strB (textB f))) ∧ Below w.heap.size w w' := by
  have o0 : Slab (w.alloc (.cells (cells4 f) 49)) w.heap.size (cells4 f) 49 := Slab.new _ _ _
  have HB0 := Lib.hid ((Below.refl w.heap.size w).alloc (Nat.le_refl _) (.cells (cells4 f) 49))
  obtain ⟨TT, hTT⟩ : ∃ TT, strB (textB f) = TT := ⟨_, rfl⟩
  rw [hTT]
  have HT := Lib.hid hTT
  clear hTT
  cases h0 : same f (fun _ => false) with
  | true =>
    have ht : textB f = [91, 94, 0, 45, 255, 93] := by unfold textB; rw [if_pos h0]
    have hv : TT = ⟨#[91, 94, 0, 45, 255, 93]⟩ := by rw [← HT.out, ht]
    subst hv
    clear ht
    go_enter Tryz.func106, Tryz.ntmps106
    go_wp2
    go_ret
    exact ⟨rfl, HB0.out⟩
  | false =>
    have ht : textB f = if (outB f).isEmpty && lastB f == [94] then [] else 91 :: (outB f ++ lastB f ++ [93]) := by unfold textB; rw [if_neg (by rw [h0]; simp)]
    have HTX := Lib.hid ht
    clear ht
    have K93 := has93 f
    have K91 := has91 f
    have K94 := has94 f
    have K45 := has45 f
    go_enter Tryz.func106, Tryz.ntmps106
    go_wp2_with fail
    refine (K93 _).mono ?_
    rintro e1 w1 ⟨rfl, hb1⟩
    have o1 := o0.call hb1
    have HB1 := Lib.hid (below_then HB0.out hb1)
    obtain ⟨c1, f1⟩ := o1.facts
    clear hb1 o0 HB0
    have hR := runsB_length (restF f) 256
    have hgood := runs_good f
    have HG := Lib.hid hgood
    clear hgood
    cases h93 : f 93 with
    | true =>
      go_wp2_with fail
      go_region_held3 (fun w' => (∀ i, w'.cell? ⟨w.heap.size, i, none⟩ = (cells4 f)[i]?)) (first | exact o1.cell | exact (o1.alloc _).cell | exact ((o1.drewN _).alloc _).cell) (first | (go_at_call 121; refine (with4 _ _ _ (by first | exact Slab.new _ _ _ | exact Slab.newAt _ _ _ (by simp))).mono ?_; rintro e2 w2 ⟨rfl, hb2⟩; replace HB1 := Lib.hid (below_then (by first | exact below_da HB1.out _ _ | exact HB1.out.alloc HB1.out.size _) hb2); replace o1 := Slab.call (by first | exact (o1.drewN _).alloc _ | exact o1.alloc _) hb2; clear hb2) | (go_at_call 120; refine (less4 f _).mono ?_; rintro e3 w3 ⟨rfl, hb3⟩; replace HB1 := Lib.hid (below_then (by first | exact HB1.out | exact HB1.out.drew | exact below_drewN HB1.out _) hb3); replace o1 := o1.callD hb3 rfl; clear hb3) | (go_at_call 119; refine (runs_any (restF f) _).mono ?_; rintro e4 w4 ⟨A4, c4, rfl, hown, hb4⟩; replace HB1 := Lib.hid (below_then (by first | exact HB1.out | exact HB1.out.drew | exact below_drewN HB1.out _) hb4); replace o1 := o1.callD hb4 rfl; clear hb4))
      obtain ⟨n, hn⟩ : ∃ n, (runsF (restF f)).length = n := ⟨_, rfl⟩
      have hrow : 0 < n → ∃ q cur, A4 = some ⟨q, 0, none⟩ ∧ Slab w4 q cur 163 ∧ ∀ j, j < n * 2 → cur[j]? = (pairCells (runsF (restF f)))[j]? := by
        intro h0
        obtain ⟨q, cur, rfl, _, _, hs, _, ht⟩ := row_at hown (by omega)
        refine ⟨q, cur, rfl, hs, fun j hj => ?_⟩
        rw [← ht, List.getElem?_take_of_lt (by omega)]; simp
      rw [hn]
      have hn2 : n ≤ 256 := by rw [← hn]; exact hR
      have HN := Lib.hid hn
      clear hown hR hn c1 f1
      go_wp2
      go_loopw [3, 19] (fun s i wr => ∃ (k : Nat) (S : ByteArray), k ≤ n ∧ i = .int .i64 k ∧ s = .string S ∧ S = strB ([93] ++ runsT ((runsF (restF f)).take k)) ∧ Slab wr w.heap.size (cells4 f) 49 ∧ Below w.heap.size w wr ∧
          (0 < n → ∃ q cur, A4 = some ⟨q, 0, none⟩ ∧ Slab wr q cur 163 ∧ ∀ j, j < n * 2 → cur[j]? = (pairCells (runsF (restF f)))[j]?)) (fun _ i _ => n - (intOf i).toNat)
      case atStart => exact ⟨0, _, by omega, rfl, rfl, by simp [runsT], o1, HB1.out, hrow⟩
      case round =>
        clear o1 HB1 hrow
        obtain ⟨k, S, hk, rfl, rfl, hS, o, hB, hrow⟩ := hrel
        have HB := Lib.hid hB; clear hB
        have HS := Lib.hid hS
        have hSz : S.size ≤ 1000 := by
          rw [hS, strB_size]
          have := runsT_len ((runsF (restF f)).take k)
          rw [List.length_take] at this
          simp; omega
        clear hS
        by_cases hlt : k < n
        · obtain ⟨q, cur, rfl, hs, hcur⟩ := hrow (by omega)
          have HR2 := Lib.hid hrow
          clear hrow
          have hkl : k < (runsF (restF f)).length := by rw [HN.out]; exact hlt
          have hg := HG.out _ (List.getElem_mem hkl)
          have hp := pairCells_at (runsF (restF f)) k hkl
          have ht := runsT_take hkl
          rw [runU_runT hg] at ht
          have ea := chB_nat hg.lo (by have := hg.le; have := hg.hi; omega)
          have eb := chB_nat (z := (runsF (restF f))[k].2) (by have := hg.lo; have := hg.le; omega) hg.hi
          have p1 := (hs.cell (k * 2)).trans ((hcur _ (by omega)).trans hp.1)
          have p2 := (hs.cell (k * 2 + 1)).trans ((hcur _ (by omega)).trans hp.2)
          rw [← ea] at p1
          rw [← eb] at p2
          generalize chB (runsF (restF f))[k].1 = c at *
          generalize chB (runsF (restF f))[k].2 = d at *
          have HT2 := Lib.hid ht
          have CR := runText_any c d
          have hul := runU_len c d
          obtain ⟨T, hT⟩ : ∃ T, (⟨(runU c d).toArray⟩ : ByteArray) = T := ⟨_, rfl⟩
          have hU : T.size = (runU c d).length := by rw [← hT]; exact strB_size _
          rw [hT] at CR
          have HTT := Lib.hid hT
          have hTz : T.size ≤ 3 := by omega
          have o2 := o.alloc (.cells #[.int .u8 (c.toNat : Int), .int .u8 (d.toNat : Int)] 163)
          have HB2 := Lib.hid (HB.out.alloc HB.out.size (.cells #[.int .u8 (c.toNat : Int), .int .u8 (d.toNat : Int)] 163))
          have hs2 := hs.alloc (.cells #[.int .u8 (c.toNat : Int), .int .u8 (d.toNat : Int)] 163)
          have HCUR := Lib.hid hcur
          clear ht hp hg ea eb hul hU hT hcur hkl o hs
          go_wp2_with fail
          refine (CR _).mono ?_
          rintro e5 w5 ⟨rfl, hb5⟩
          have o5 := o2.call hb5
          have hs5 := hs2.call hb5
          have HB5 := Lib.hid (below_then HB2.out hb5)
          clear hb5 p1 p2 o2 hs2 CR
          go_wp2
          go_roundw
          case rel =>
            refine ⟨k + 1, _, by omega, by go_num, rfl, ?_, o5, HB5.out, fun _ => ⟨q, cur, rfl, hs5, HCUR.out⟩⟩
            rw [HS.out, ← HTT.out, HT2.out]
            exact (strB_app _ _).trans (by rw [List.append_assoc])
          case measure => simp [intOf]; omega
        · have hkn : (runsF (restF f)).take k = runsF (restF f) := List.take_of_length_le (by rw [HN.out]; omega)
          rw [hkn] at HS
          obtain ⟨c1, f1⟩ := o.facts
          clear hrow hkn
          have hout : outB f = ([93] ++ runsT (runsF (restF f))) ++ optB (f 91) 91 := by unfold outB; rw [h93]; rfl
          go_wp2_with fail
          refine (K91 _).mono ?_
          rintro e5 w5 ⟨rfl, hb5⟩
          have o5 := o.call hb5
          have HB5 := Lib.hid (below_then HB.out hb5)
          obtain ⟨c5, f5⟩ := o5.facts
          clear hb5
          cases h91 : f 91 with
          | true =>
            rw [h91] at hout
            go_wp2_with fail
            obtain ⟨O, hO⟩ : ∃ O, S ++ (⟨#[91]⟩ : ByteArray) = O := ⟨_, rfl⟩
            rw [hO]
            have hOz : O.size ≤ 2000 := by rw [← hO, ByteArray.size_append']; show S.size + 1 ≤ 2000; omega
            have HO : Hid (O = strB (outB f)) := Lib.hid (by rw [← hO, hout, HS.out]; exact strB_app _ [91])
            clear hO hout
            have hEq : (O.toList == []) = (outB f).isEmpty := by rw [HO.out]; exact strB_nil _
            have hE2 : O.toList.isEmpty = (outB f).isEmpty := by rw [HO.out, ByteArray.toList_eq]
            refine (K94 _).mono ?_
            rintro e6 w6 ⟨rfl, hb6⟩
            have o6 := o5.call hb6
            have HB6 := Lib.hid (below_then HB5.out hb6)
            obtain ⟨c6, f6⟩ := o6.facts
            clear hb6 o5 c5 f5
            have g1 := q1
            have g2 := q2
            have g3 := q3
            have g4 := q4
            cases hE : (outB f).isEmpty <;> cases h94 : f 94 <;> cases h45 : f 45
            all_goals
              rw [hE] at hEq hE2
              go_wp2_with fail
              refine (K45 _).mono ?_
              rintro e7 w7 ⟨rfl, hb7⟩
              have o7 := o6.call hb7
              have HB7 := Lib.hid (below_then HB6.out hb7)
              obtain ⟨c7, f7⟩ := o7.facts
              clear hb7 o6 c6 f6
              go_wp2_with fail
              first
              | (refine (K45 _).mono ?_
                 rintro e8 w8 ⟨rfl, hb8⟩
                 have HB8 := Lib.hid (below_then HB7.out hb8)
                 clear hb8
                 go_wp2
                 go_loud (go_ret
                          refine ⟨congrArg (fun s : ByteArray => Ending.returned (Value.string s)) ?_, HB8.out⟩
                          have hh := HO.out
                          have hl : lastB f = if f 45 && (outB f).isEmpty then 45 :: optB (f 94) 94 else optB (f 94) 94 ++ optB (f 45) 45 := rfl
                          rw [h45, h94, hE] at hl
                          rw [← HT.out, HTX.out, hl, hE]
                          first
                            | rfl
                            | (rw [hh]; simp only [Bool.true_and, Bool.false_and, Bool.and_true, Bool.and_false, if_true, if_false, Bool.false_eq_true, optB]; apply bytes_ext; simp [ByteArray.data_append])))
              | (go_ret
                 refine ⟨congrArg (fun s : ByteArray => Ending.returned (Value.string s)) ?_, HB7.out⟩
                 have hh := HO.out
                 have hl : lastB f = if f 45 && (outB f).isEmpty then 45 :: optB (f 94) 94 else optB (f 94) 94 ++ optB (f 45) 45 := rfl
                 rw [h45, h94, hE] at hl
                 rw [← HT.out, HTX.out, hl, hE]
                 first
                   | rfl
                   | (rw [hh]; simp only [Bool.true_and, Bool.false_and, Bool.and_true, Bool.and_false, if_true, if_false, Bool.false_eq_true, optB]; apply bytes_ext; simp [ByteArray.data_append]))
          | false =>
            rw [h91] at hout
            go_wp2_with fail
            obtain ⟨O, hO⟩ : ∃ O, S = O := ⟨_, rfl⟩
            rw [hO]
            have hOz : O.size ≤ 2000 := by rw [← hO]; omega
            have HO : Hid (O = strB (outB f)) := Lib.hid (by rw [← hO, hout, HS.out]; simp [optB])
            clear hO hout
            have hEq : (O.toList == []) = (outB f).isEmpty := by rw [HO.out]; exact strB_nil _
            have hE2 : O.toList.isEmpty = (outB f).isEmpty := by rw [HO.out, ByteArray.toList_eq]
            refine (K94 _).mono ?_
            rintro e6 w6 ⟨rfl, hb6⟩
            have o6 := o5.call hb6
            have HB6 := Lib.hid (below_then HB5.out hb6)
            obtain ⟨c6, f6⟩ := o6.facts
            clear hb6 o5 c5 f5
            have g1 := q1
            have g2 := q2
            have g3 := q3
            have g4 := q4
            cases hE : (outB f).isEmpty <;> cases h94 : f 94 <;> cases h45 : f 45
            all_goals
              rw [hE] at hEq hE2
              go_wp2_with fail
              refine (K45 _).mono ?_
              rintro e7 w7 ⟨rfl, hb7⟩
              have o7 := o6.call hb7
              have HB7 := Lib.hid (below_then HB6.out hb7)
              obtain ⟨c7, f7⟩ := o7.facts
              clear hb7 o6 c6 f6
              go_wp2_with fail
              first
              | (refine (K45 _).mono ?_
                 rintro e8 w8 ⟨rfl, hb8⟩
                 have HB8 := Lib.hid (below_then HB7.out hb8)
                 clear hb8
                 go_wp2
                 go_loud (go_ret
                          refine ⟨congrArg (fun s : ByteArray => Ending.returned (Value.string s)) ?_, HB8.out⟩
                          have hh := HO.out
                          have hl : lastB f = if f 45 && (outB f).isEmpty then 45 :: optB (f 94) 94 else optB (f 94) 94 ++ optB (f 45) 45 := rfl
                          rw [h45, h94, hE] at hl
                          rw [← HT.out, HTX.out, hl, hE]
                          first
                            | rfl
                            | (rw [hh]; simp only [Bool.true_and, Bool.false_and, Bool.and_true, Bool.and_false, if_true, if_false, Bool.false_eq_true, optB]; apply bytes_ext; simp [ByteArray.data_append])))
              | (go_ret
                 refine ⟨congrArg (fun s : ByteArray => Ending.returned (Value.string s)) ?_, HB7.out⟩
                 have hh := HO.out
                 have hl : lastB f = if f 45 && (outB f).isEmpty then 45 :: optB (f 94) 94 else optB (f 94) 94 ++ optB (f 45) 45 := rfl
                 rw [h45, h94, hE] at hl
                 rw [← HT.out, HTX.out, hl, hE]
                 first
                   | rfl
                   | (rw [hh]; simp only [Bool.true_and, Bool.false_and, Bool.and_true, Bool.and_false, if_true, if_false, Bool.false_eq_true, optB]; apply bytes_ext; simp [ByteArray.data_append]))
    | false =>
      go_wp2_with fail
      go_region_held3 (fun w' => (∀ i, w'.cell? ⟨w.heap.size, i, none⟩ = (cells4 f)[i]?)) (first | exact o1.cell | exact (o1.alloc _).cell | exact ((o1.drewN _).alloc _).cell) (first | (go_at_call 121; refine (with4 _ _ _ (by first | exact Slab.new _ _ _ | exact Slab.newAt _ _ _ (by simp))).mono ?_; rintro e2 w2 ⟨rfl, hb2⟩; replace HB1 := Lib.hid (below_then (by first | exact below_da HB1.out _ _ | exact HB1.out.alloc HB1.out.size _) hb2); replace o1 := Slab.call (by first | exact (o1.drewN _).alloc _ | exact o1.alloc _) hb2; clear hb2) | (go_at_call 120; refine (less4 f _).mono ?_; rintro e3 w3 ⟨rfl, hb3⟩; replace HB1 := Lib.hid (below_then (by first | exact HB1.out | exact HB1.out.drew | exact below_drewN HB1.out _) hb3); replace o1 := o1.callD hb3 rfl; clear hb3) | (go_at_call 119; refine (runs_any (restF f) _).mono ?_; rintro e4 w4 ⟨A4, c4, rfl, hown, hb4⟩; replace HB1 := Lib.hid (below_then (by first | exact HB1.out | exact HB1.out.drew | exact below_drewN HB1.out _) hb4); replace o1 := o1.callD hb4 rfl; clear hb4))
      obtain ⟨n, hn⟩ : ∃ n, (runsF (restF f)).length = n := ⟨_, rfl⟩
      have hrow : 0 < n → ∃ q cur, A4 = some ⟨q, 0, none⟩ ∧ Slab w4 q cur 163 ∧ ∀ j, j < n * 2 → cur[j]? = (pairCells (runsF (restF f)))[j]? := by
        intro h0
        obtain ⟨q, cur, rfl, _, _, hs, _, ht⟩ := row_at hown (by omega)
        refine ⟨q, cur, rfl, hs, fun j hj => ?_⟩
        rw [← ht, List.getElem?_take_of_lt (by omega)]; simp
      rw [hn]
      have hn2 : n ≤ 256 := by rw [← hn]; exact hR
      have HN := Lib.hid hn
      clear hown hR hn c1 f1
      go_wp2
      go_loopw [3, 19] (fun s i wr => ∃ (k : Nat) (S : ByteArray), k ≤ n ∧ i = .int .i64 k ∧ s = .string S ∧ S = strB ([] ++ runsT ((runsF (restF f)).take k)) ∧ Slab wr w.heap.size (cells4 f) 49 ∧ Below w.heap.size w wr ∧
          (0 < n → ∃ q cur, A4 = some ⟨q, 0, none⟩ ∧ Slab wr q cur 163 ∧ ∀ j, j < n * 2 → cur[j]? = (pairCells (runsF (restF f)))[j]?)) (fun _ i _ => n - (intOf i).toNat)
      case atStart => exact ⟨0, _, by omega, rfl, rfl, by simp [runsT], o1, HB1.out, hrow⟩
      case round =>
        clear o1 HB1 hrow
        obtain ⟨k, S, hk, rfl, rfl, hS, o, hB, hrow⟩ := hrel
        have HB := Lib.hid hB; clear hB
        have HS := Lib.hid hS
        have hSz : S.size ≤ 1000 := by
          rw [hS, strB_size]
          have := runsT_len ((runsF (restF f)).take k)
          rw [List.length_take] at this
          simp; omega
        clear hS
        by_cases hlt : k < n
        · obtain ⟨q, cur, rfl, hs, hcur⟩ := hrow (by omega)
          have HR2 := Lib.hid hrow
          clear hrow
          have hkl : k < (runsF (restF f)).length := by rw [HN.out]; exact hlt
          have hg := HG.out _ (List.getElem_mem hkl)
          have hp := pairCells_at (runsF (restF f)) k hkl
          have ht := runsT_take hkl
          rw [runU_runT hg] at ht
          have ea := chB_nat hg.lo (by have := hg.le; have := hg.hi; omega)
          have eb := chB_nat (z := (runsF (restF f))[k].2) (by have := hg.lo; have := hg.le; omega) hg.hi
          have p1 := (hs.cell (k * 2)).trans ((hcur _ (by omega)).trans hp.1)
          have p2 := (hs.cell (k * 2 + 1)).trans ((hcur _ (by omega)).trans hp.2)
          rw [← ea] at p1
          rw [← eb] at p2
          generalize chB (runsF (restF f))[k].1 = c at *
          generalize chB (runsF (restF f))[k].2 = d at *
          have HT2 := Lib.hid ht
          have CR := runText_any c d
          have hul := runU_len c d
          obtain ⟨T, hT⟩ : ∃ T, (⟨(runU c d).toArray⟩ : ByteArray) = T := ⟨_, rfl⟩
          have hU : T.size = (runU c d).length := by rw [← hT]; exact strB_size _
          rw [hT] at CR
          have HTT := Lib.hid hT
          have hTz : T.size ≤ 3 := by omega
          have o2 := o.alloc (.cells #[.int .u8 (c.toNat : Int), .int .u8 (d.toNat : Int)] 163)
          have HB2 := Lib.hid (HB.out.alloc HB.out.size (.cells #[.int .u8 (c.toNat : Int), .int .u8 (d.toNat : Int)] 163))
          have hs2 := hs.alloc (.cells #[.int .u8 (c.toNat : Int), .int .u8 (d.toNat : Int)] 163)
          have HCUR := Lib.hid hcur
          clear ht hp hg ea eb hul hU hT hcur hkl o hs
          go_wp2_with fail
          refine (CR _).mono ?_
          rintro e5 w5 ⟨rfl, hb5⟩
          have o5 := o2.call hb5
          have hs5 := hs2.call hb5
          have HB5 := Lib.hid (below_then HB2.out hb5)
          clear hb5 p1 p2 o2 hs2 CR
          go_wp2
          go_roundw
          case rel =>
            refine ⟨k + 1, _, by omega, by go_num, rfl, ?_, o5, HB5.out, fun _ => ⟨q, cur, rfl, hs5, HCUR.out⟩⟩
            rw [HS.out, ← HTT.out, HT2.out]
            exact (strB_app _ _).trans (by rw [List.append_assoc])
          case measure => simp [intOf]; omega
        · have hkn : (runsF (restF f)).take k = runsF (restF f) := List.take_of_length_le (by rw [HN.out]; omega)
          rw [hkn] at HS
          obtain ⟨c1, f1⟩ := o.facts
          clear hrow hkn
          have hout : outB f = ([] ++ runsT (runsF (restF f))) ++ optB (f 91) 91 := by unfold outB; rw [h93]; rfl
          go_wp2_with fail
          refine (K91 _).mono ?_
          rintro e5 w5 ⟨rfl, hb5⟩
          have o5 := o.call hb5
          have HB5 := Lib.hid (below_then HB.out hb5)
          obtain ⟨c5, f5⟩ := o5.facts
          clear hb5
          cases h91 : f 91 with
          | true =>
            rw [h91] at hout
            go_wp2_with fail
            obtain ⟨O, hO⟩ : ∃ O, S ++ (⟨#[91]⟩ : ByteArray) = O := ⟨_, rfl⟩
            rw [hO]
            have hOz : O.size ≤ 2000 := by rw [← hO, ByteArray.size_append']; show S.size + 1 ≤ 2000; omega
            have HO : Hid (O = strB (outB f)) := Lib.hid (by rw [← hO, hout, HS.out]; exact strB_app _ [91])
            clear hO hout
            have hEq : (O.toList == []) = (outB f).isEmpty := by rw [HO.out]; exact strB_nil _
            have hE2 : O.toList.isEmpty = (outB f).isEmpty := by rw [HO.out, ByteArray.toList_eq]
            refine (K94 _).mono ?_
            rintro e6 w6 ⟨rfl, hb6⟩
            have o6 := o5.call hb6
            have HB6 := Lib.hid (below_then HB5.out hb6)
            obtain ⟨c6, f6⟩ := o6.facts
            clear hb6 o5 c5 f5
            have g1 := q1
            have g2 := q2
            have g3 := q3
            have g4 := q4
            cases hE : (outB f).isEmpty <;> cases h94 : f 94 <;> cases h45 : f 45
            all_goals
              rw [hE] at hEq hE2
              go_wp2_with fail
              refine (K45 _).mono ?_
              rintro e7 w7 ⟨rfl, hb7⟩
              have o7 := o6.call hb7
              have HB7 := Lib.hid (below_then HB6.out hb7)
              obtain ⟨c7, f7⟩ := o7.facts
              clear hb7 o6 c6 f6
              go_wp2_with fail
              first
              | (refine (K45 _).mono ?_
                 rintro e8 w8 ⟨rfl, hb8⟩
                 have HB8 := Lib.hid (below_then HB7.out hb8)
                 clear hb8
                 go_wp2
                 go_loud (go_ret
                          refine ⟨congrArg (fun s : ByteArray => Ending.returned (Value.string s)) ?_, HB8.out⟩
                          have hh := HO.out
                          have hl : lastB f = if f 45 && (outB f).isEmpty then 45 :: optB (f 94) 94 else optB (f 94) 94 ++ optB (f 45) 45 := rfl
                          rw [h45, h94, hE] at hl
                          rw [← HT.out, HTX.out, hl, hE]
                          first
                            | rfl
                            | (rw [hh]; simp only [Bool.true_and, Bool.false_and, Bool.and_true, Bool.and_false, if_true, if_false, Bool.false_eq_true, optB]; apply bytes_ext; simp [ByteArray.data_append])))
              | (go_ret
                 refine ⟨congrArg (fun s : ByteArray => Ending.returned (Value.string s)) ?_, HB7.out⟩
                 have hh := HO.out
                 have hl : lastB f = if f 45 && (outB f).isEmpty then 45 :: optB (f 94) 94 else optB (f 94) 94 ++ optB (f 45) 45 := rfl
                 rw [h45, h94, hE] at hl
                 rw [← HT.out, HTX.out, hl, hE]
                 first
                   | rfl
                   | (rw [hh]; simp only [Bool.true_and, Bool.false_and, Bool.and_true, Bool.and_false, if_true, if_false, Bool.false_eq_true, optB]; apply bytes_ext; simp [ByteArray.data_append]))
          | false =>
            rw [h91] at hout
            go_wp2_with fail
            obtain ⟨O, hO⟩ : ∃ O, S = O := ⟨_, rfl⟩
            rw [hO]
            have hOz : O.size ≤ 2000 := by rw [← hO]; omega
            have HO : Hid (O = strB (outB f)) := Lib.hid (by rw [← hO, hout, HS.out]; simp [optB])
            clear hO hout
            have hEq : (O.toList == []) = (outB f).isEmpty := by rw [HO.out]; exact strB_nil _
            have hE2 : O.toList.isEmpty = (outB f).isEmpty := by rw [HO.out, ByteArray.toList_eq]
            refine (K94 _).mono ?_
            rintro e6 w6 ⟨rfl, hb6⟩
            have o6 := o5.call hb6
            have HB6 := Lib.hid (below_then HB5.out hb6)
            obtain ⟨c6, f6⟩ := o6.facts
            clear hb6 o5 c5 f5
            have g1 := q1
            have g2 := q2
            have g3 := q3
            have g4 := q4
            cases hE : (outB f).isEmpty <;> cases h94 : f 94 <;> cases h45 : f 45
            all_goals
              rw [hE] at hEq hE2
              go_wp2_with fail
              refine (K45 _).mono ?_
              rintro e7 w7 ⟨rfl, hb7⟩
              have o7 := o6.call hb7
              have HB7 := Lib.hid (below_then HB6.out hb7)
              obtain ⟨c7, f7⟩ := o7.facts
              clear hb7 o6 c6 f6
              go_wp2_with fail
              first
              | (refine (K45 _).mono ?_
                 rintro e8 w8 ⟨rfl, hb8⟩
                 have HB8 := Lib.hid (below_then HB7.out hb8)
                 clear hb8
                 go_wp2
                 go_loud (go_ret
                          refine ⟨congrArg (fun s : ByteArray => Ending.returned (Value.string s)) ?_, HB8.out⟩
                          have hh := HO.out
                          have hl : lastB f = if f 45 && (outB f).isEmpty then 45 :: optB (f 94) 94 else optB (f 94) 94 ++ optB (f 45) 45 := rfl
                          rw [h45, h94, hE] at hl
                          rw [← HT.out, HTX.out, hl, hE]
                          first
                            | rfl
                            | (rw [hh]; simp only [Bool.true_and, Bool.false_and, Bool.and_true, Bool.and_false, if_true, if_false, Bool.false_eq_true, optB]; apply bytes_ext; simp [ByteArray.data_append])))
              | (go_ret
                 refine ⟨congrArg (fun s : ByteArray => Ending.returned (Value.string s)) ?_, HB7.out⟩
                 have hh := HO.out
                 have hl : lastB f = if f 45 && (outB f).isEmpty then 45 :: optB (f 94) 94 else optB (f 94) 94 ++ optB (f 45) 45 := rfl
                 rw [h45, h94, hE] at hl
                 rw [← HT.out, HTX.out, hl, hE]
                 first
                   | rfl
                   | (rw [hh]; simp only [Bool.true_and, Bool.false_and, Bool.and_true, Bool.and_false, if_true, if_false, Bool.false_eq_true, optB]; apply bytes_ext; simp [ByteArray.data_append]))
end Go.Proofs.YtfcgmgpcbenfpaaGreat
