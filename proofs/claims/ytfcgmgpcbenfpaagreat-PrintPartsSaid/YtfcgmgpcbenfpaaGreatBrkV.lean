/- Walks of the package gimletref03: the bracket of a set. -/
import Derived.Test.YtfcgmgpcbenfpaaGreatProg
import Derived.WalkKit
import Derived.WalkSpells
import Derived.WalkLawsBesides
import Derived.Handy
import Derived.Lib.Hide
import Derived.Test.YtfcgmgpcbenfpaaGreatBrkU
import Derived.Test.YtfcgmgpcbenfpaaGreatMRef
import Derived.Lib.SmallJoins
import Derived.Deep.RegionWith
set_option linter.unusedVariables false
set_option linter.unusedSimpArgs false
namespace Go.Proofs.YtfcgmgpcbenfpaaGreat
open Go.RowKit SetP BrkP
attribute [local go_sem] run_eq_set0
namespace BrkP
def upF (x : Nat) : Bool := x == 94
theorem up_same (f : Nat → Bool) : same f upF = ((outB f).isEmpty && lastB f == [94]) := by
  have hrest : ∀ x, x < 256 → coverF (runsF (restF f)) x = restF f x := cover_rest f
  rw [Bool.eq_iff_iff]
  constructor
  · intro h
    have hx := same_iff.1 h
    have f93 : f 93 = false := hx 93 (by decide)
    have f91 : f 91 = false := hx 91 (by decide)
    have f94 : f 94 = true := hx 94 (by decide)
    have f45 : f 45 = false := hx 45 (by decide)
    have hR : runsF (restF f) = [] := by
      cases hr : runsF (restF f) with
      | nil => rfl
      | cons p R =>
        exfalso
        have g := runs_good f p (by rw [hr]; exact List.mem_cons_self ..)
        obtain ⟨g0, g1, g2, g3, g4⟩ := g
        have hc := hrest p.1.toNat (by omega)
        rw [hr] at hc
        have ht : coverF (p :: R) p.1.toNat = true := by
          unfold coverF
          rw [List.any_cons, Bool.or_eq_true]
          left; unfold rngF; simp; omega
        rw [ht] at hc
        unfold restF at hc
        rw [hx _ (by omega), g3] at hc
        unfold upF at hc
        have h94 : p.1.toNat = 94 := by simpa using hc.symm
        rw [h94] at g3
        exact absurd g3 (by decide)
    have ho : outB f = [] := by unfold outB; rw [f93, hR, f91]; rfl
    unfold lastB
    rw [ho, f45, f94]; rfl
  · intro h
    rw [Bool.and_eq_true] at h
    obtain ⟨h1, h2⟩ := h
    have ho' : outB f = [] := by simpa using h1
    have hparts := ho'
    unfold outB at hparts
    rw [List.append_eq_nil_iff, List.append_eq_nil_iff] at hparts
    obtain ⟨⟨p1, p2⟩, p3⟩ := hparts
    have f93 : f 93 = false := by cases h : f 93 with | false => rfl | true => rw [h] at p1; cases p1
    have f91 : f 91 = false := by cases h : f 91 with | false => rfl | true => rw [h] at p3; cases p3
    have hR : runsF (restF f) = [] := by
      cases hr : runsF (restF f) with
      | nil => rfl
      | cons p R =>
        rw [hr] at p2
        obtain ⟨m, hm⟩ := runT_head p
        have : runsT (p :: R) = runT p ++ runsT R := rfl
        rw [this, hm] at p2; cases p2
    have f45 : f 45 = false := by
      cases h : f 45 with
      | false => rfl
      | true => unfold lastB at h2; rw [h, ho'] at h2; cases h3 : f 94 <;> rw [h3] at h2 <;> exact absurd h2 (by decide)
    have f94 : f 94 = true := by
      cases h : f 94 with
      | true => rfl
      | false => unfold lastB at h2; rw [f45, h, ho'] at h2; exact absurd h2 (by decide)
    have hno : ∀ x, x < 256 → restF f x = false := fun x hx => by rw [← hrest x hx, hR]; rfl
    refine same_iff.2 fun x hx => ?_
    have h := hno x hx
    unfold restF four at h
    unfold upF
    by_cases e1 : x = 93
    · subst e1; rw [f93]; rfl
    by_cases e2 : x = 91
    · subst e2; rw [f91]; rfl
    by_cases e3 : x = 94
    · subst e3; rw [f94]; rfl
    by_cases e4 : x = 45
    · subst e4; rw [f45]; rfl
    have : f x = false := by simpa [e1, e2, e3, e4] using h
    rw [this]; simp [e3]
theorem runU_cases {c d : UInt8} (h : c.toNat ≤ d.toNat) : (runU c d = [c] ∧ d.toNat = c.toNat) ∨ (runU c d = [c] ++ [d] ∧ d.toNat = c.toNat + 1) ∨ (runU c d = ([c] ++ [45]) ++ [d] ∧ c.toNat + 1 < d.toNat) := by
  unfold runU
  by_cases e1 : c = d
  · subst e1; left; exact ⟨by simp, rfl⟩
  have n1 : (c == d) = false := by simpa using e1
  have n2 : c.toNat ≠ d.toNat := fun h => e1 (UInt8.toNat_inj.1 h)
  rw [n1]
  by_cases e2 : d.toNat = c.toNat + 1
  · right; left
    refine ⟨?_, e2⟩
    rw [if_neg (by simp), if_pos (by simp; omega)]; rfl
  · right; right
    refine ⟨?_, by omega⟩
    rw [if_neg (by simp), if_neg (by simp; omega)]; rfl
end BrkP
set_option maxRecDepth 100000 in
theorem rwith4 (g c : Nat) (w : World) (hb : g < w.heap.size) (hc : ∀ i, w.cell? ⟨g, i, none⟩ = (#[.int .u8 93, .int .u8 91, .int .u8 94, .int .u8 45] : Array Value)[i]?) :
    Calls Tryz.prog 108 #[.agg #[.int .u64 0, .int .u64 0, .int .u64 0, .int .u64 0], .slice (some ⟨g, 0, none⟩) 4 c] w fun e w' => e = .returned (setV four) ∧ Below w.heap.size w w' := by
  have h := rwith_some (fun _ => false) g 0 c fourL w (by decide) hb (fun i hi => by
    have hi' : i < 4 := hi
    rw [Nat.zero_add, hc]
    match i, hi' with
    | 0, _ => rfl
    | 1, _ => rfl
    | 2, _ => rfl
    | 3, _ => rfl) (fun i hi => by
    have hi' : i < 4 := hi
    match i, hi' with
    | 0, _ => exact ⟨by decide, by decide⟩
    | 1, _ => exact ⟨by decide, by decide⟩
    | 2, _ => exact ⟨by decide, by decide⟩
    | 3, _ => exact ⟨by decide, by decide⟩)
  rw [four_addL] at h
  unfold setV at h
  rw [wd_zero, wd_zero, wd_zero, wd_zero] at h
  exact h
set_option maxRecDepth 100000 in
theorem rwith1 (g c : Nat) (w : World) (hb : g < w.heap.size) (hc : ∀ i, w.cell? ⟨g, i, none⟩ = (#[.int .u8 94] : Array Value)[i]?) :
    Calls Tryz.prog 108 #[.agg #[.int .u64 0, .int .u64 0, .int .u64 0, .int .u64 0], .slice (some ⟨g, 0, none⟩) 1 c] w fun e w' => e = .returned (setV upF) ∧ Below w.heap.size w w' := by
  have h := rwith_some (fun _ => false) g 0 c [94] w (by decide) hb (fun i hi => by
    have hi' : i < 1 := hi
    obtain rfl : i = 0 := by omega
    rw [Nat.zero_add, hc]; rfl) (fun i hi => by
    have hi' : i < 1 := hi
    obtain rfl : i = 0 := by omega
    exact ⟨by decide, by decide⟩)
  have e : addL (fun _ => false) [94] = upF := by
    funext x
    unfold addL upF
    simp only [List.foldl_cons, List.foldl_nil, addB]
    simp
  rw [e] at h
  unfold setV at h
  rw [wd_zero, wd_zero, wd_zero, wd_zero] at h
  exact h
set_option maxRecDepth 100000 in
theorem rhas93 (f : Nat → Bool) (w : World) : Calls Tryz.prog 107 #[setV f, .int .i64 93] w fun e w' => e = .returned (.bool (f 93)) ∧ Below w.heap.size w w' := rhas_any f 93 (by decide) (by decide) w
set_option maxRecDepth 100000 in
theorem rhas91 (f : Nat → Bool) (w : World) : Calls Tryz.prog 107 #[setV f, .int .i64 91] w fun e w' => e = .returned (.bool (f 91)) ∧ Below w.heap.size w w' := rhas_any f 91 (by decide) (by decide) w
set_option maxRecDepth 100000 in
theorem rhas94 (f : Nat → Bool) (w : World) : Calls Tryz.prog 107 #[setV f, .int .i64 94] w fun e w' => e = .returned (.bool (f 94)) ∧ Below w.heap.size w w' := rhas_any f 94 (by decide) (by decide) w
set_option maxRecDepth 100000 in
theorem rhas45 (f : Nat → Bool) (w : World) : Calls Tryz.prog 107 #[setV f, .int .i64 45] w fun e w' => e = .returned (.bool (f 45)) ∧ Below w.heap.size w w' := rhas_any f 45 (by decide) (by decide) w
set_option maxRecDepth 100000 in
theorem rless4 (f : Nat → Bool) (w : World) : Calls Tryz.prog 110 #[setV f, setV four, .int .i64 3] w fun e w' => e = .returned (setV (restF f)) ∧ Below w.heap.size w w' := rboth_less f four w
def onN (N : Act → World → Prop) : Exit → Act → World → Prop
  | .normal, a, w => N a w
  | _, _, _ => False
theorem region_cut {P : Program} {c : Code} {a : Act} {w : World} {Q : Exit → Act → World → Prop} (act : Act) (R : World → Prop) (h1 : ∀ N : Act → World → Prop, Hid (∀ W, R W → N act W) → c.wp P (onN N) a w) (h2 : ∀ W, R W → Q .normal act W) : c.wp P Q a w :=
  Code.wp_mono (fun e b W h => by cases e <;> first | exact h | exact False.elim h) (h1 (Q .normal) (Lib.hid h2))
set_option maxRecDepth 100000 in
theorem conv_textV (w : World) (a : Addr) (k cap : Nat) (l : List UInt8) (T : ByteArray) (hT : (⟨l.toArray⟩ : ByteArray) = T) (hk : l.length = k) (hc : ∀ j (hj : j < l.length), w.cell? (a.add j) = some (.int .u8 (l[j].toNat : Int))) :
    (convert 87 9 (.slice (some a) k cap)).run Tryz.prog w = .ok (.string T) w := by
  rw [conv_textU w a k cap l hk hc, hT]
set_option maxRecDepth 100000 in
set_option maxHeartbeats 2000000 in
theorem brtext_any (f : Nat → Bool) (w : World) : Calls Tryz.prog 94 #[setV f] w fun e w' => e = .returned (.string (strB (textB f))) ∧ Below w.heap.size w w' := by
  have o0 : Slab (w.alloc (.cells (cells4 f) 49)) w.heap.size (cells4 f) 49 := Slab.new _ _ _
  have HB0 := Lib.hid ((Below.refl w.heap.size w).alloc (Nat.le_refl _) (.cells (cells4 f) 49))
  obtain ⟨TT, hTT⟩ : ∃ TT, strB (textB f) = TT := ⟨_, rfl⟩
  rw [hTT]
  have HT := Lib.hid hTT
  clear hTT
  cases h0 : same f (fun _ => false) with
  | true =>
    have ht : textB f = [91, 94, 0, 45, 255, 93] := by unfold textB; rw [if_pos h0]
    have hv : TT = ⟨#[91, 94, 0, 45, 255, 93]⟩ := by rw [← HT.out, ht]
    subst hv
    clear ht
    go_enter Tryz.func94, Tryz.ntmps94
    go_wp2
    go_ret
    exact ⟨rfl, HB0.out⟩
  | false =>
    have ht : textB f = if same f upF then [] else 91 :: (outB f ++ lastB f ++ [93]) := by unfold textB; rw [if_neg (by rw [h0]; simp), up_same]
    have HTX := Lib.hid ht
    clear ht
    have K93 := rhas93 f
    have K91 := rhas91 f
    have K94 := rhas94 f
    have K45 := rhas45 f
    have kc := fun (w : World) (C : Array Value) (n c : Nat) => Lib.run_convert_bytes_const (P := Tryz.prog) w 87 5 C n c Tryz.underlying87 Tryz.underlying5
    have kd := fun (w : World) (C : Array Value) (n c g : Nat) (hg : g = w.heap.size) => Go.Joins.run_convert_bytes_const_at (P := Tryz.prog) w 87 5 C n c g hg Tryz.underlying87 Tryz.underlying5
    have ke := fun (w : World) (C : Array Value) (n c : Nat) => show (convert 87 87 (.slice (some ⟨w.heap.size, 0, none⟩) n c)).run Tryz.prog ((w.alloc (.cells C 5)).drew) = .ok (.slice (some ⟨w.heap.size, 0, none⟩) n c) ((w.alloc (.cells C 5 (C.size, C.size + 1))).drew) from kc w.drew C n c
    have kf := fun (w : World) (C : Array Value) (n c k : Nat) => show (convert 87 87 (.slice (some ⟨w.heap.size, 0, none⟩) n c)).run Tryz.prog ((w.alloc (.cells C 5)).drewN k) = .ok (.slice (some ⟨w.heap.size, 0, none⟩) n c) ((w.alloc (.cells C 5 (C.size, C.size + 1))).drewN k) from kc (w.drewN k) C n c
    have o1 := o0.alloc (.cells #[.int .u8 93, .int .u8 91, .int .u8 94, .int .u8 45] 5 (4, 5))
    have HB1 := Lib.hid (HB0.out.alloc HB0.out.size (.cells #[.int .u8 93, .int .u8 91, .int .u8 94, .int .u8 45] 5 (4, 5)))
    go_enter Tryz.func94, Tryz.ntmps94
    go_wp2_with fail
    refine (rwith4 _ _ _ (by simp) (fun i => Go.Joins.cell_alloc_mark_at _ _ _ _ _ i (by simp))).mono ?_
    rintro e1 w1 ⟨rfl, hb1⟩
    have o2 := o1.call hb1
    have HB2 := Lib.hid (below_then HB1.out hb1)
    obtain ⟨c1, f1⟩ := o2.facts
    clear hb1 o0 HB0 o1 HB1
    have o3 := o2.alloc (.cells #[.int .u64 (wd four 0), .int .u64 (wd four 1), .int .u64 (wd four 2), .int .u64 (wd four 3)] 49)
    have s3 : Slab (w1.alloc (.cells #[.int .u64 (wd four 0), .int .u64 (wd four 1), .int .u64 (wd four 2), .int .u64 (wd four 3)] 49)) w1.heap.size (cells4 four) 49 := Slab.new _ _ _
    have HB3 := Lib.hid (HB2.out.alloc HB2.out.size (.cells #[.int .u64 (wd four 0), .int .u64 (wd four 1), .int .u64 (wd four 2), .int .u64 (wd four 3)] 49))
    obtain ⟨w2, hw2⟩ : ∃ w2, w1.alloc (.cells #[.int .u64 (wd four 0), .int .u64 (wd four 1), .int .u64 (wd four 2), .int .u64 (wd four 3)] 49) = w2 := ⟨_, rfl⟩
    obtain ⟨p2, hp2⟩ : ∃ p2, w1.heap.size = p2 := ⟨_, rfl⟩
    have hne : w.heap.size < p2 := by rw [← hp2]; exact o2.lt
    have kE := fun w => run_eq_set w f upF
    go_wp2_with fail
    rw [hw2] at o3 s3 HB3
    rw [hp2] at s3
    clear o2 HB2 c1 f1 hw2 hp2
    have hlt3 := o3.lt
    obtain ⟨c3, f3⟩ := o3.facts
    refine' region_cut _ (fun W => Slab W w.heap.size (cells4 f) 49 ∧ Slab W p2 (cells4 four) 49 ∧ Below w.heap.size w W) ?h1 ?h2
    case h1 =>
      intro N hN
      go_region_with ((go_at_call 108; refine (rwith1 _ _ _ (by simp) (fun i => by (try rw [World.cell?_drew]); (try rw [World.cell?_drewN]); exact Go.Joins.cell_alloc_mark_at _ _ _ _ _ i (by simp))).mono ?_; rintro e4 w4 ⟨rfl, hb4⟩; replace HB3 := Lib.hid (below_then (by first | exact (HB3.out.alloc HB3.out.size _).drew | exact below_drewN (HB3.out.alloc HB3.out.size _) _ | exact below_da HB3.out _ _ | exact HB3.out.alloc HB3.out.size _) hb4); replace o3 := Slab.call (by first | exact (o3.alloc _).drew | exact (o3.alloc _).drewN _ | exact (o3.drewN _).alloc _ | exact o3.alloc _) hb4; replace s3 := Slab.call (by first | exact (s3.alloc _).drew | exact (s3.alloc _).drewN _ | exact (s3.drewN _).alloc _ | exact s3.alloc _) hb4; obtain ⟨c4, f4⟩ := o3.facts; clear hb4))
      all_goals exact hN.out _ ⟨o3, s3, HB3.out⟩
    case h2 =>
    clear o3 s3 HB3 c3 hlt3
    rintro w3 ⟨o3, s3, hB3⟩
    have HB3 := Lib.hid hB3; clear hB3
    clear kc kd ke kf kE f3
    cases hU : same f upF with
    | true =>
      rw [hU] at HTX
      have hv : TT = ⟨#[]⟩ := by rw [← HT.out, HTX.out]; rfl
      clear HTX
      go_wp2
      go_ret
      exact ⟨congrArg (fun s : ByteArray => Ending.returned (Value.string s)) hv.symm, HB3.out⟩
    | false =>
      rw [hU, if_neg (by simp)] at HTX
      obtain ⟨c1, f1⟩ := o3.facts
      obtain ⟨c2, f2⟩ := s3.facts
      go_wp2_with fail
      refine (K93 _).mono ?_
      rintro e1 w4 ⟨rfl, hb4⟩
      have o4 := o3.call hb4
      have s4 := s3.call hb4
      have HB4 := Lib.hid (below_then HB3.out hb4)
      clear c1 f1 c2 f2 hb4 o3 s3 HB3
      obtain ⟨c1, f1⟩ := o4.facts
      obtain ⟨c2, f2⟩ := s4.facts
      have hR := runsB_length (restF f) 256
      have HG := Lib.hid (runs_good f)
      have KL := rless4 f
      have KR := rruns_any (restF f)
      cases h93 : f 93 with
      | true =>
        go_wp2_with fail
        refine (KL _).mono ?_
        rintro e5 w5 ⟨rfl, hb5⟩
        have o5 := o4.call hb5
        have HB5 := Lib.hid (below_then HB4.out hb5)
        clear hb5 c1 f1 c2 f2 o4 s4 HB4 hne
        go_wp2_with fail
        refine (KR _).mono ?_
        rintro e6 w6 ⟨A4, c4, rfl, hown, hb6⟩
        have o1 := o5.call hb6
        have HB1 := Lib.hid (below_then HB5.out hb6)
        clear hb6 o5 HB5
        obtain ⟨n, hn⟩ : ∃ n, (runsF (restF f)).length = n := ⟨_, rfl⟩
        have hrow : 0 < n → ∃ q cur, A4 = some ⟨q, 0, none⟩ ∧ Slab w6 q cur 163 ∧ ∀ j, j < n * 2 → cur[j]? = (pairCells (runsF (restF f)))[j]? := by
          intro h0
          obtain ⟨q, cur, rfl, _, _, hs, _, ht⟩ := row_at hown (by omega)
          refine ⟨q, cur, rfl, hs, fun j hj => ?_⟩
          rw [← ht, List.getElem?_take_of_lt (by omega)]; simp
        rw [hn]
        have hn2 : n ≤ 256 := by rw [← hn]; exact hR
        have HN := Lib.hid hn
        clear hown hR hn KL KR
        go_wp2
        go_loopw [4, 6, 7, 8] (fun s i _ _ wr => ∃ (k : Nat) (S : ByteArray), k ≤ n ∧ i = .int .i64 k ∧ s = .string S ∧ S = strB ([93] ++ runsT ((runsF (restF f)).take k)) ∧ Slab wr w.heap.size (cells4 f) 49 ∧ Below w.heap.size w wr ∧
            (0 < n → ∃ q cur, A4 = some ⟨q, 0, none⟩ ∧ Slab wr q cur 163 ∧ ∀ j, j < n * 2 → cur[j]? = (pairCells (runsF (restF f)))[j]?)) (fun _ i _ _ _ => n - (intOf i).toNat)
        case atStart => exact ⟨0, _, by omega, rfl, rfl, by simp [runsT], o1, HB1.out, hrow⟩
        case round =>
          clear o1 HB1 hrow
          obtain ⟨k, S, hk, rfl, rfl, hS, o, hB, hrow⟩ := hrel
          have HB := Lib.hid hB; clear hB
          have HS := Lib.hid hS
          have hSz : S.size ≤ 1000 := by
            rw [hS, strB_size]
            have := runsT_len ((runsF (restF f)).take k)
            rw [List.length_take] at this
            simp; omega
          clear hS
          by_cases hlt : k < n
          · obtain ⟨q, cur, rfl, hs, hcur⟩ := hrow (by omega)
            clear hrow
            have hkl : k < (runsF (restF f)).length := by rw [HN.out]; exact hlt
            have hg := HG.out _ (List.getElem_mem hkl)
            have hp := pairCells_at (runsF (restF f)) k hkl
            have ht := runsT_take hkl
            rw [runU_runT hg] at ht
            have ea := chB_nat hg.lo (by have := hg.le; have := hg.hi; omega)
            have eb := chB_nat (z := (runsF (restF f))[k].2) (by have := hg.lo; have := hg.le; omega) hg.hi
            have hle : (chB (runsF (restF f))[k].1).toNat ≤ (chB (runsF (restF f))[k].2).toNat := by have := hg.le; omega
            have p1 := (hs.cell (k * 2)).trans ((hcur _ (by omega)).trans hp.1)
            have p2 := (hs.cell (k * 2 + 1)).trans ((hcur _ (by omega)).trans hp.2)
            rw [← ea] at p1
            rw [← eb] at p2
            generalize chB (runsF (restF f))[k].1 = c at *
            generalize chB (runsF (restF f))[k].2 = d at *
            have HT2 := Lib.hid ht
            have hu := runU_cases hle
            obtain ⟨TC, hTC⟩ : ∃ T, (⟨[c].toArray⟩ : ByteArray) = T := ⟨_, rfl⟩
            obtain ⟨TD, hTD⟩ : ∃ T, (⟨[d].toArray⟩ : ByteArray) = T := ⟨_, rfl⟩
            have hTCz : TC.size = 1 := by rw [← hTC]; rfl
            have hTDz : TD.size = 1 := by rw [← hTD]; rfl
            have HC := Lib.hid hTC
            have HD := Lib.hid hTD
            have HCUR := Lib.hid hcur
            have hcl : c.toNat < 256 := c.toNat_lt
            have hdl : d.toNat < 256 := d.toNat_lt
            have e5 : IntKind.i64.wrap ((c.toNat : Int) + 1) = (c.toNat : Int) + 1 := IntWalk.i64_in _ (by omega)
            clear ht hp hg ea eb hle hTC hTD hcur hkl
            cases hu with
            | inl hu =>
              obtain ⟨hu, hcd⟩ := hu
              have t1 : ((c.toNat : Int) + 1 < (d.toNat : Int)) = False := by rw [eq_iff_iff]; constructor <;> intro h <;> first | exact h.elim | omega
              have t2 : ((c.toNat : Int) < (d.toNat : Int)) = False := by rw [eq_iff_iff]; constructor <;> intro h <;> first | exact h.elim | omega
              have t3 : (c.toNat < d.toNat) = False := by rw [eq_iff_iff]; constructor <;> intro h <;> first | exact h.elim | omega
              obtain ⟨S1, hjS1⟩ : ∃ T, S ++ TC = T := ⟨_, rfl⟩
              have hzS1 : S1.size ≤ 1001 := by rw [← hjS1, ByteArray.size_append']; omega
              have HS1 := Lib.hid hjS1
              have HU := Lib.hid hu
              clear hu hcd
              go_wp2_with fail
              go_quiet (fail)
              go_wp2
              rw [conv_textV _ ⟨_, 0, none⟩ 1 _ [c] TC HC.out rfl ?_]
              rotate_left
              · intro j hj
                obtain rfl : j = 0 := by simpa using hj
                exact (Slab.cell (Slab.newAt _ _ _ (by simp)) 0).trans rfl
              go_wp2
              go_roundw
              case rel =>
                refine ⟨k + 1, _, by omega, by go_num, rfl, ?_, (o.drewN _).alloc _, (below_drewN HB.out _).alloc (below_drewN HB.out _).size _, fun _ => ⟨q, cur, rfl, (hs.drewN _).alloc _, HCUR.out⟩⟩
                rw [← HS1.out, HS.out, ← HC.out, HT2.out, HU.out]
                exact (strB_app _ _).trans (by rw [List.append_assoc])
              case measure => simp [intOf]; omega
            | inr hu =>
            cases hu with
            | inl hu =>
              obtain ⟨hu, hcd⟩ := hu
              have t1 : ((c.toNat : Int) + 1 < (d.toNat : Int)) = False := by rw [eq_iff_iff]; constructor <;> intro h <;> first | exact h.elim | omega
              have t2 : ((c.toNat : Int) < (d.toNat : Int)) = True := by rw [eq_iff_iff]; constructor <;> intro h <;> first | trivial | omega
              have t3 : (c.toNat < d.toNat) = True := by rw [eq_iff_iff]; constructor <;> intro h <;> first | trivial | omega
              obtain ⟨S1, hjS1⟩ : ∃ T, S ++ TC = T := ⟨_, rfl⟩
              have hzS1 : S1.size ≤ 1001 := by rw [← hjS1, ByteArray.size_append']; omega
              have HS1 := Lib.hid hjS1
              obtain ⟨S2, hjS2⟩ : ∃ T, S1 ++ TD = T := ⟨_, rfl⟩
              have hzS2 : S2.size ≤ 1002 := by rw [← hjS2, ByteArray.size_append']; omega
              have HS2 := Lib.hid hjS2
              have HU := Lib.hid hu
              clear hu hcd
              go_wp2_with fail
              go_quiet (fail)
              go_wp2
              rw [conv_textV _ ⟨_, 0, none⟩ 1 _ [c] TC HC.out rfl ?_]
              rotate_left
              · intro j hj
                obtain rfl : j = 0 := by simpa using hj
                exact (Slab.cell (Slab.newAt _ _ _ (by simp)) 0).trans rfl
              go_wp2
              rw [conv_textV _ ⟨_, 0, none⟩ 1 _ [d] TD HD.out rfl ?_]
              rotate_left
              · intro j hj
                obtain rfl : j = 0 := by simpa using hj
                exact (Slab.cell (Slab.newAt _ _ _ (by simp)) 0).trans rfl
              go_wp2
              go_roundw
              case rel =>
                refine ⟨k + 1, _, by omega, by go_num, rfl, ?_, ((o.drewN _).alloc _).alloc _, ((below_drewN HB.out _).alloc (below_drewN HB.out _).size _).alloc ((below_drewN HB.out _).alloc (below_drewN HB.out _).size _).size _, fun _ => ⟨q, cur, rfl, ((hs.drewN _).alloc _).alloc _, HCUR.out⟩⟩
                rw [← HS2.out, ← HS1.out, HS.out, ← HC.out, ← HD.out, HT2.out, HU.out]
                exact (congrArg (· ++ strB [d]) (strB_app _ _)).trans ((strB_app _ _).trans (by simp only [List.append_assoc]))
              case measure => simp [intOf]; omega
            | inr hu =>
              obtain ⟨hu, hcd⟩ := hu
              have t1 : ((c.toNat : Int) + 1 < (d.toNat : Int)) = True := by rw [eq_iff_iff]; constructor <;> intro h <;> first | trivial | omega
              have t2 : ((c.toNat : Int) < (d.toNat : Int)) = True := by rw [eq_iff_iff]; constructor <;> intro h <;> first | trivial | omega
              have t3 : (c.toNat < d.toNat) = True := by rw [eq_iff_iff]; constructor <;> intro h <;> first | trivial | omega
              obtain ⟨S1, hjS1⟩ : ∃ T, S ++ TC = T := ⟨_, rfl⟩
              have hzS1 : S1.size ≤ 1001 := by rw [← hjS1, ByteArray.size_append']; omega
              have HS1 := Lib.hid hjS1
              obtain ⟨S2, hjS2⟩ : ∃ T, S1 ++ (⟨#[45]⟩ : ByteArray) = T := ⟨_, rfl⟩
              have hzS2 : S2.size ≤ 1002 := by rw [← hjS2, ByteArray.size_append']; show S1.size + 1 ≤ 1002; omega
              have HS2 := Lib.hid hjS2
              obtain ⟨S3, hjS3⟩ : ∃ T, S2 ++ TD = T := ⟨_, rfl⟩
              have hzS3 : S3.size ≤ 1003 := by rw [← hjS3, ByteArray.size_append']; omega
              have HS3 := Lib.hid hjS3
              have HU := Lib.hid hu
              clear hu hcd
              go_wp2_with fail
              go_quiet (fail)
              go_wp2
              rw [conv_textV _ ⟨_, 0, none⟩ 1 _ [c] TC HC.out rfl ?_]
              rotate_left
              · intro j hj
                obtain rfl : j = 0 := by simpa using hj
                exact (Slab.cell (Slab.newAt _ _ _ (by simp)) 0).trans rfl
              go_wp2
              rw [conv_textV _ ⟨_, 0, none⟩ 1 _ [d] TD HD.out rfl ?_]
              rotate_left
              · intro j hj
                obtain rfl : j = 0 := by simpa using hj
                exact (Slab.cell (Slab.newAt _ _ _ (by simp)) 0).trans rfl
              go_wp2
              go_roundw
              case rel =>
                refine ⟨k + 1, _, by omega, by go_num, rfl, ?_, ((o.drewN _).alloc _).alloc _, ((below_drewN HB.out _).alloc (below_drewN HB.out _).size _).alloc ((below_drewN HB.out _).alloc (below_drewN HB.out _).size _).size _, fun _ => ⟨q, cur, rfl, ((hs.drewN _).alloc _).alloc _, HCUR.out⟩⟩
                rw [← HS3.out, ← HS2.out, ← HS1.out, HS.out, ← HC.out, ← HD.out, HT2.out, HU.out]
                exact (congrArg (fun x => (x ++ strB [45]) ++ strB [d]) (strB_app _ _)).trans ((congrArg (· ++ strB [d]) (strB_app _ _)).trans ((strB_app _ _).trans (by simp only [List.append_assoc])))
              case measure => simp [intOf]; omega
          · have hkn : (runsF (restF f)).take k = runsF (restF f) := List.take_of_length_le (by rw [HN.out]; omega)
            rw [hkn] at HS
            obtain ⟨c1, f1⟩ := o.facts
            clear hrow hkn
            have hout : outB f = ([93] ++ runsT (runsF (restF f))) ++ optB (f 91) 91 := by unfold outB; rw [h93]; rfl
            go_wp2_with fail
            refine (K91 _).mono ?_
            rintro e5 w5 ⟨rfl, hb5⟩
            have o5 := o.call hb5
            have HB5 := Lib.hid (below_then HB.out hb5)
            obtain ⟨c5, f5⟩ := o5.facts
            clear hb5
            cases h91 : f 91 with
            | true =>
              rw [h91] at hout
              go_wp2_with fail
              obtain ⟨O, hO⟩ : ∃ O, S ++ (⟨#[91]⟩ : ByteArray) = O := ⟨_, rfl⟩
              rw [hO]
              have hOz : O.size ≤ 2000 := by rw [← hO, ByteArray.size_append']; show S.size + 1 ≤ 2000; omega
              have HO : Hid (O = strB (outB f)) := Lib.hid (by rw [← hO, hout, HS.out]; exact strB_app _ [91])
              clear hO hout
              have hEq : (O.toList == []) = (outB f).isEmpty := by rw [HO.out]; exact strB_nil _
              have hE2 : O.toList.isEmpty = (outB f).isEmpty := by rw [HO.out, ByteArray.toList_eq]
              refine (K94 _).mono ?_
              rintro e6 w6 ⟨rfl, hb6⟩
              have o6 := o5.call hb6
              have HB6 := Lib.hid (below_then HB5.out hb6)
              obtain ⟨c6, f6⟩ := o6.facts
              clear hb6 o5 c5 f5
              cases hE : (outB f).isEmpty <;> cases h94 : f 94 <;> cases h45 : f 45
              all_goals
                rw [hE] at hEq hE2
                go_wp2_with fail
                refine (K45 _).mono ?_
                rintro e7 w7 ⟨rfl, hb7⟩
                have HB7 := Lib.hid (below_then HB6.out hb7)
                clear hb7 o6 c6 f6
                go_wp2
                go_ret
                refine ⟨congrArg (fun s : ByteArray => Ending.returned (Value.string s)) ?_, HB7.out⟩
                have hh := HO.out
                have hl : lastB f = if f 45 && (outB f).isEmpty then 45 :: optB (f 94) 94 else optB (f 94) 94 ++ optB (f 45) 45 := rfl
                rw [h45, h94, hE] at hl
                have hnil : (outB f).isEmpty = true → outB f = [] := fun h => by simpa using h
                rw [hE] at hnil
                rw [← HT.out, HTX.out, hl]
                first
                | (rw [hh]; simp only [Bool.true_and, Bool.false_and, Bool.and_true, Bool.and_false, if_true, if_false, Bool.false_eq_true, optB]; apply bytes_ext; simp [ByteArray.data_append]; done)
                | (rw [hnil rfl]; simp only [Bool.true_and, Bool.false_and, Bool.and_true, Bool.and_false, if_true, if_false, Bool.false_eq_true, optB]; apply bytes_ext; simp [ByteArray.data_append]; done)
            | false =>
              rw [h91] at hout
              go_wp2_with fail
              obtain ⟨O, hO⟩ : ∃ O, S = O := ⟨_, rfl⟩
              rw [hO]
              have hOz : O.size ≤ 2000 := by rw [← hO]; omega
              have HO : Hid (O = strB (outB f)) := Lib.hid (by rw [← hO, hout, HS.out]; simp [optB])
              clear hO hout
              have hEq : (O.toList == []) = (outB f).isEmpty := by rw [HO.out]; exact strB_nil _
              have hE2 : O.toList.isEmpty = (outB f).isEmpty := by rw [HO.out, ByteArray.toList_eq]
              refine (K94 _).mono ?_
              rintro e6 w6 ⟨rfl, hb6⟩
              have o6 := o5.call hb6
              have HB6 := Lib.hid (below_then HB5.out hb6)
              obtain ⟨c6, f6⟩ := o6.facts
              clear hb6 o5 c5 f5
              cases hE : (outB f).isEmpty <;> cases h94 : f 94 <;> cases h45 : f 45
              all_goals
                rw [hE] at hEq hE2
                go_wp2_with fail
                refine (K45 _).mono ?_
                rintro e7 w7 ⟨rfl, hb7⟩
                have HB7 := Lib.hid (below_then HB6.out hb7)
                clear hb7 o6 c6 f6
                go_wp2
                go_ret
                refine ⟨congrArg (fun s : ByteArray => Ending.returned (Value.string s)) ?_, HB7.out⟩
                have hh := HO.out
                have hl : lastB f = if f 45 && (outB f).isEmpty then 45 :: optB (f 94) 94 else optB (f 94) 94 ++ optB (f 45) 45 := rfl
                rw [h45, h94, hE] at hl
                have hnil : (outB f).isEmpty = true → outB f = [] := fun h => by simpa using h
                rw [hE] at hnil
                rw [← HT.out, HTX.out, hl]
                first
                | (rw [hh]; simp only [Bool.true_and, Bool.false_and, Bool.and_true, Bool.and_false, if_true, if_false, Bool.false_eq_true, optB]; apply bytes_ext; simp [ByteArray.data_append]; done)
                | (rw [hnil rfl]; simp only [Bool.true_and, Bool.false_and, Bool.and_true, Bool.and_false, if_true, if_false, Bool.false_eq_true, optB]; apply bytes_ext; simp [ByteArray.data_append]; done)
      | false =>
        go_wp2_with fail
        refine (KL _).mono ?_
        rintro e5 w5 ⟨rfl, hb5⟩
        have o5 := o4.call hb5
        have HB5 := Lib.hid (below_then HB4.out hb5)
        clear hb5 c1 f1 c2 f2 o4 s4 HB4 hne
        go_wp2_with fail
        refine (KR _).mono ?_
        rintro e6 w6 ⟨A4, c4, rfl, hown, hb6⟩
        have o1 := o5.call hb6
        have HB1 := Lib.hid (below_then HB5.out hb6)
        clear hb6 o5 HB5
        obtain ⟨n, hn⟩ : ∃ n, (runsF (restF f)).length = n := ⟨_, rfl⟩
        have hrow : 0 < n → ∃ q cur, A4 = some ⟨q, 0, none⟩ ∧ Slab w6 q cur 163 ∧ ∀ j, j < n * 2 → cur[j]? = (pairCells (runsF (restF f)))[j]? := by
          intro h0
          obtain ⟨q, cur, rfl, _, _, hs, _, ht⟩ := row_at hown (by omega)
          refine ⟨q, cur, rfl, hs, fun j hj => ?_⟩
          rw [← ht, List.getElem?_take_of_lt (by omega)]; simp
        rw [hn]
        have hn2 : n ≤ 256 := by rw [← hn]; exact hR
        have HN := Lib.hid hn
        clear hown hR hn KL KR
        go_wp2
        go_loopw [4, 6, 7, 8] (fun s i _ _ wr => ∃ (k : Nat) (S : ByteArray), k ≤ n ∧ i = .int .i64 k ∧ s = .string S ∧ S = strB ([] ++ runsT ((runsF (restF f)).take k)) ∧ Slab wr w.heap.size (cells4 f) 49 ∧ Below w.heap.size w wr ∧
            (0 < n → ∃ q cur, A4 = some ⟨q, 0, none⟩ ∧ Slab wr q cur 163 ∧ ∀ j, j < n * 2 → cur[j]? = (pairCells (runsF (restF f)))[j]?)) (fun _ i _ _ _ => n - (intOf i).toNat)
        case atStart => exact ⟨0, _, by omega, rfl, rfl, by simp [runsT], o1, HB1.out, hrow⟩
        case round =>
          clear o1 HB1 hrow
          obtain ⟨k, S, hk, rfl, rfl, hS, o, hB, hrow⟩ := hrel
          have HB := Lib.hid hB; clear hB
          have HS := Lib.hid hS
          have hSz : S.size ≤ 1000 := by
            rw [hS, strB_size]
            have := runsT_len ((runsF (restF f)).take k)
            rw [List.length_take] at this
            simp; omega
          clear hS
          by_cases hlt : k < n
          · obtain ⟨q, cur, rfl, hs, hcur⟩ := hrow (by omega)
            clear hrow
            have hkl : k < (runsF (restF f)).length := by rw [HN.out]; exact hlt
            have hg := HG.out _ (List.getElem_mem hkl)
            have hp := pairCells_at (runsF (restF f)) k hkl
            have ht := runsT_take hkl
            rw [runU_runT hg] at ht
            have ea := chB_nat hg.lo (by have := hg.le; have := hg.hi; omega)
            have eb := chB_nat (z := (runsF (restF f))[k].2) (by have := hg.lo; have := hg.le; omega) hg.hi
            have hle : (chB (runsF (restF f))[k].1).toNat ≤ (chB (runsF (restF f))[k].2).toNat := by have := hg.le; omega
            have p1 := (hs.cell (k * 2)).trans ((hcur _ (by omega)).trans hp.1)
            have p2 := (hs.cell (k * 2 + 1)).trans ((hcur _ (by omega)).trans hp.2)
            rw [← ea] at p1
            rw [← eb] at p2
            generalize chB (runsF (restF f))[k].1 = c at *
            generalize chB (runsF (restF f))[k].2 = d at *
            have HT2 := Lib.hid ht
            have hu := runU_cases hle
            obtain ⟨TC, hTC⟩ : ∃ T, (⟨[c].toArray⟩ : ByteArray) = T := ⟨_, rfl⟩
            obtain ⟨TD, hTD⟩ : ∃ T, (⟨[d].toArray⟩ : ByteArray) = T := ⟨_, rfl⟩
            have hTCz : TC.size = 1 := by rw [← hTC]; rfl
            have hTDz : TD.size = 1 := by rw [← hTD]; rfl
            have HC := Lib.hid hTC
            have HD := Lib.hid hTD
            have HCUR := Lib.hid hcur
            have hcl : c.toNat < 256 := c.toNat_lt
            have hdl : d.toNat < 256 := d.toNat_lt
            have e5 : IntKind.i64.wrap ((c.toNat : Int) + 1) = (c.toNat : Int) + 1 := IntWalk.i64_in _ (by omega)
            clear ht hp hg ea eb hle hTC hTD hcur hkl
            cases hu with
            | inl hu =>
              obtain ⟨hu, hcd⟩ := hu
              have t1 : ((c.toNat : Int) + 1 < (d.toNat : Int)) = False := by rw [eq_iff_iff]; constructor <;> intro h <;> first | exact h.elim | omega
              have t2 : ((c.toNat : Int) < (d.toNat : Int)) = False := by rw [eq_iff_iff]; constructor <;> intro h <;> first | exact h.elim | omega
              have t3 : (c.toNat < d.toNat) = False := by rw [eq_iff_iff]; constructor <;> intro h <;> first | exact h.elim | omega
              obtain ⟨S1, hjS1⟩ : ∃ T, S ++ TC = T := ⟨_, rfl⟩
              have hzS1 : S1.size ≤ 1001 := by rw [← hjS1, ByteArray.size_append']; omega
              have HS1 := Lib.hid hjS1
              have HU := Lib.hid hu
              clear hu hcd
              go_wp2_with fail
              go_quiet (fail)
              go_wp2
              rw [conv_textV _ ⟨_, 0, none⟩ 1 _ [c] TC HC.out rfl ?_]
              rotate_left
              · intro j hj
                obtain rfl : j = 0 := by simpa using hj
                exact (Slab.cell (Slab.newAt _ _ _ (by simp)) 0).trans rfl
              go_wp2
              go_roundw
              case rel =>
                refine ⟨k + 1, _, by omega, by go_num, rfl, ?_, (o.drewN _).alloc _, (below_drewN HB.out _).alloc (below_drewN HB.out _).size _, fun _ => ⟨q, cur, rfl, (hs.drewN _).alloc _, HCUR.out⟩⟩
                rw [← HS1.out, HS.out, ← HC.out, HT2.out, HU.out]
                exact (strB_app _ _).trans (by rw [List.append_assoc])
              case measure => simp [intOf]; omega
            | inr hu =>
            cases hu with
            | inl hu =>
              obtain ⟨hu, hcd⟩ := hu
              have t1 : ((c.toNat : Int) + 1 < (d.toNat : Int)) = False := by rw [eq_iff_iff]; constructor <;> intro h <;> first | exact h.elim | omega
              have t2 : ((c.toNat : Int) < (d.toNat : Int)) = True := by rw [eq_iff_iff]; constructor <;> intro h <;> first | trivial | omega
              have t3 : (c.toNat < d.toNat) = True := by rw [eq_iff_iff]; constructor <;> intro h <;> first | trivial | omega
              obtain ⟨S1, hjS1⟩ : ∃ T, S ++ TC = T := ⟨_, rfl⟩
              have hzS1 : S1.size ≤ 1001 := by rw [← hjS1, ByteArray.size_append']; omega
              have HS1 := Lib.hid hjS1
              obtain ⟨S2, hjS2⟩ : ∃ T, S1 ++ TD = T := ⟨_, rfl⟩
              have hzS2 : S2.size ≤ 1002 := by rw [← hjS2, ByteArray.size_append']; omega
              have HS2 := Lib.hid hjS2
              have HU := Lib.hid hu
              clear hu hcd
              go_wp2_with fail
              go_quiet (fail)
              go_wp2
              rw [conv_textV _ ⟨_, 0, none⟩ 1 _ [c] TC HC.out rfl ?_]
              rotate_left
              · intro j hj
                obtain rfl : j = 0 := by simpa using hj
                exact (Slab.cell (Slab.newAt _ _ _ (by simp)) 0).trans rfl
              go_wp2
              rw [conv_textV _ ⟨_, 0, none⟩ 1 _ [d] TD HD.out rfl ?_]
              rotate_left
              · intro j hj
                obtain rfl : j = 0 := by simpa using hj
                exact (Slab.cell (Slab.newAt _ _ _ (by simp)) 0).trans rfl
              go_wp2
              go_roundw
              case rel =>
                refine ⟨k + 1, _, by omega, by go_num, rfl, ?_, ((o.drewN _).alloc _).alloc _, ((below_drewN HB.out _).alloc (below_drewN HB.out _).size _).alloc ((below_drewN HB.out _).alloc (below_drewN HB.out _).size _).size _, fun _ => ⟨q, cur, rfl, ((hs.drewN _).alloc _).alloc _, HCUR.out⟩⟩
                rw [← HS2.out, ← HS1.out, HS.out, ← HC.out, ← HD.out, HT2.out, HU.out]
                exact (congrArg (· ++ strB [d]) (strB_app _ _)).trans ((strB_app _ _).trans (by simp only [List.append_assoc]))
              case measure => simp [intOf]; omega
            | inr hu =>
              obtain ⟨hu, hcd⟩ := hu
              have t1 : ((c.toNat : Int) + 1 < (d.toNat : Int)) = True := by rw [eq_iff_iff]; constructor <;> intro h <;> first | trivial | omega
              have t2 : ((c.toNat : Int) < (d.toNat : Int)) = True := by rw [eq_iff_iff]; constructor <;> intro h <;> first | trivial | omega
              have t3 : (c.toNat < d.toNat) = True := by rw [eq_iff_iff]; constructor <;> intro h <;> first | trivial | omega
              obtain ⟨S1, hjS1⟩ : ∃ T, S ++ TC = T := ⟨_, rfl⟩
              have hzS1 : S1.size ≤ 1001 := by rw [← hjS1, ByteArray.size_append']; omega
              have HS1 := Lib.hid hjS1
              obtain ⟨S2, hjS2⟩ : ∃ T, S1 ++ (⟨#[45]⟩ : ByteArray) = T := ⟨_, rfl⟩
              have hzS2 : S2.size ≤ 1002 := by rw [← hjS2, ByteArray.size_append']; show S1.size + 1 ≤ 1002; omega
              have HS2 := Lib.hid hjS2
              obtain ⟨S3, hjS3⟩ : ∃ T, S2 ++ TD = T := ⟨_, rfl⟩
              have hzS3 : S3.size ≤ 1003 := by rw [← hjS3, ByteArray.size_append']; omega
              have HS3 := Lib.hid hjS3
              have HU := Lib.hid hu
              clear hu hcd
              go_wp2_with fail
              go_quiet (fail)
              go_wp2
              rw [conv_textV _ ⟨_, 0, none⟩ 1 _ [c] TC HC.out rfl ?_]
              rotate_left
              · intro j hj
                obtain rfl : j = 0 := by simpa using hj
                exact (Slab.cell (Slab.newAt _ _ _ (by simp)) 0).trans rfl
              go_wp2
              rw [conv_textV _ ⟨_, 0, none⟩ 1 _ [d] TD HD.out rfl ?_]
              rotate_left
              · intro j hj
                obtain rfl : j = 0 := by simpa using hj
                exact (Slab.cell (Slab.newAt _ _ _ (by simp)) 0).trans rfl
              go_wp2
              go_roundw
              case rel =>
                refine ⟨k + 1, _, by omega, by go_num, rfl, ?_, ((o.drewN _).alloc _).alloc _, ((below_drewN HB.out _).alloc (below_drewN HB.out _).size _).alloc ((below_drewN HB.out _).alloc (below_drewN HB.out _).size _).size _, fun _ => ⟨q, cur, rfl, ((hs.drewN _).alloc _).alloc _, HCUR.out⟩⟩
                rw [← HS3.out, ← HS2.out, ← HS1.out, HS.out, ← HC.out, ← HD.out, HT2.out, HU.out]
                exact (congrArg (fun x => (x ++ strB [45]) ++ strB [d]) (strB_app _ _)).trans ((congrArg (· ++ strB [d]) (strB_app _ _)).trans ((strB_app _ _).trans (by simp only [List.append_assoc])))
              case measure => simp [intOf]; omega
          · have hkn : (runsF (restF f)).take k = runsF (restF f) := List.take_of_length_le (by rw [HN.out]; omega)
            rw [hkn] at HS
            obtain ⟨c1, f1⟩ := o.facts
            clear hrow hkn
            have hout : outB f = ([] ++ runsT (runsF (restF f))) ++ optB (f 91) 91 := by unfold outB; rw [h93]; rfl
            go_wp2_with fail
            refine (K91 _).mono ?_
            rintro e5 w5 ⟨rfl, hb5⟩
            have o5 := o.call hb5
            have HB5 := Lib.hid (below_then HB.out hb5)
            obtain ⟨c5, f5⟩ := o5.facts
            clear hb5
            cases h91 : f 91 with
            | true =>
              rw [h91] at hout
              go_wp2_with fail
              obtain ⟨O, hO⟩ : ∃ O, S ++ (⟨#[91]⟩ : ByteArray) = O := ⟨_, rfl⟩
              rw [hO]
              have hOz : O.size ≤ 2000 := by rw [← hO, ByteArray.size_append']; show S.size + 1 ≤ 2000; omega
              have HO : Hid (O = strB (outB f)) := Lib.hid (by rw [← hO, hout, HS.out]; exact strB_app _ [91])
              clear hO hout
              have hEq : (O.toList == []) = (outB f).isEmpty := by rw [HO.out]; exact strB_nil _
              have hE2 : O.toList.isEmpty = (outB f).isEmpty := by rw [HO.out, ByteArray.toList_eq]
              refine (K94 _).mono ?_
              rintro e6 w6 ⟨rfl, hb6⟩
              have o6 := o5.call hb6
              have HB6 := Lib.hid (below_then HB5.out hb6)
              obtain ⟨c6, f6⟩ := o6.facts
              clear hb6 o5 c5 f5
              cases hE : (outB f).isEmpty <;> cases h94 : f 94 <;> cases h45 : f 45
              all_goals
                rw [hE] at hEq hE2
                go_wp2_with fail
                refine (K45 _).mono ?_
                rintro e7 w7 ⟨rfl, hb7⟩
                have HB7 := Lib.hid (below_then HB6.out hb7)
                clear hb7 o6 c6 f6
                go_wp2
                go_ret
                refine ⟨congrArg (fun s : ByteArray => Ending.returned (Value.string s)) ?_, HB7.out⟩
                have hh := HO.out
                have hl : lastB f = if f 45 && (outB f).isEmpty then 45 :: optB (f 94) 94 else optB (f 94) 94 ++ optB (f 45) 45 := rfl
                rw [h45, h94, hE] at hl
                have hnil : (outB f).isEmpty = true → outB f = [] := fun h => by simpa using h
                rw [hE] at hnil
                rw [← HT.out, HTX.out, hl]
                first
                | (rw [hh]; simp only [Bool.true_and, Bool.false_and, Bool.and_true, Bool.and_false, if_true, if_false, Bool.false_eq_true, optB]; apply bytes_ext; simp [ByteArray.data_append]; done)
                | (rw [hnil rfl]; simp only [Bool.true_and, Bool.false_and, Bool.and_true, Bool.and_false, if_true, if_false, Bool.false_eq_true, optB]; apply bytes_ext; simp [ByteArray.data_append]; done)
            | false =>
              rw [h91] at hout
              go_wp2_with fail
              obtain ⟨O, hO⟩ : ∃ O, S = O := ⟨_, rfl⟩
              rw [hO]
              have hOz : O.size ≤ 2000 := by rw [← hO]; omega
              have HO : Hid (O = strB (outB f)) := Lib.hid (by rw [← hO, hout, HS.out]; simp [optB])
              clear hO hout
              have hEq : (O.toList == []) = (outB f).isEmpty := by rw [HO.out]; exact strB_nil _
              have hE2 : O.toList.isEmpty = (outB f).isEmpty := by rw [HO.out, ByteArray.toList_eq]
              refine (K94 _).mono ?_
              rintro e6 w6 ⟨rfl, hb6⟩
              have o6 := o5.call hb6
              have HB6 := Lib.hid (below_then HB5.out hb6)
              obtain ⟨c6, f6⟩ := o6.facts
              clear hb6 o5 c5 f5
              cases hE : (outB f).isEmpty <;> cases h94 : f 94 <;> cases h45 : f 45
              all_goals
                rw [hE] at hEq hE2
                go_wp2_with fail
                refine (K45 _).mono ?_
                rintro e7 w7 ⟨rfl, hb7⟩
                have HB7 := Lib.hid (below_then HB6.out hb7)
                clear hb7 o6 c6 f6
                go_wp2
                go_ret
                refine ⟨congrArg (fun s : ByteArray => Ending.returned (Value.string s)) ?_, HB7.out⟩
                have hh := HO.out
                have hl : lastB f = if f 45 && (outB f).isEmpty then 45 :: optB (f 94) 94 else optB (f 94) 94 ++ optB (f 45) 45 := rfl
                rw [h45, h94, hE] at hl
                have hnil : (outB f).isEmpty = true → outB f = [] := fun h => by simpa using h
                rw [hE] at hnil
                rw [← HT.out, HTX.out, hl]
                first
                | (rw [hh]; simp only [Bool.true_and, Bool.false_and, Bool.and_true, Bool.and_false, if_true, if_false, Bool.false_eq_true, optB]; apply bytes_ext; simp [ByteArray.data_append]; done)
                | (rw [hnil rfl]; simp only [Bool.true_and, Bool.false_and, Bool.and_true, Bool.and_false, if_true, if_false, Bool.false_eq_true, optB]; apply bytes_ext; simp [ByteArray.data_append]; done)
end Go.Proofs.YtfcgmgpcbenfpaaGreat
