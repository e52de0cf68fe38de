/- ParseJoins, walked. -/
import Derived.Test.YtddokdjlmdoebaaProg
import Derived.WalkKit
import Derived.WalkSpells
import Derived.WalkLawsBesides
import Derived.Handy
import Derived.Lib.Hide
import Derived.Test.YtddokdjlmdoebaaML7
import Derived.Test.YtddokdjlmdoebaaMPru
import Derived.Test.YtddokdjlmdoebaaMApp
import Derived.Deep.QuietTactic
import Derived.Deep.RegionHeld3
import Derived.BigQuiet
set_option linter.unusedVariables false
set_option linter.unusedSimpArgs false
namespace Go.Proofs.Ytddokdjlmdoebaa
open Go.RowKit SetP BrkP LexP AstP ParP
theorem parse_ok {s : ByteArray} {L : List Nd} {k : Int} (h : parseF s = (L, 0, k)) : rightF L = true ∧ L.length ≤ 3 * s.size + 2 := by
  cases outs s with
  | ok y hr h1 e =>
    rw [e] at h
    have hL : (endRows y).out = L := congrArg (fun x : List Nd × Int × Int => x.1) h
    refine ⟨hL ▸ (parsed hr h1).right, ?_⟩
    have hb := hr.bnd bnd0
    rw [← hL]
    obtain ⟨o, lv, G⟩ := y
    have ho := hb.out
    cases lv with
    | nil => exact absurd rfl hb.ne
    | cons pr v =>
    obtain ⟨p, r⟩ := pr
    have l1 := rowN_le p
    have l2 := rowsN_le (r + 1)
    show (o ++ rowN p ++ rowsN (r + 1)).length ≤ _
    rw [List.length_append, List.length_append]
    simp only at ho
    omega
  | open_ y hr h1 e => rw [e] at h; injection h with h1 h2; injection h2 with h3; exact absurd h3 (by decide)
  | short b y hr hb h0 h2 e => rw [e] at h; injection h with h1 h2; injection h2 with h3; exact absurd h3 (by decide)
  | bar b y hr hb h0 e => rw [e] at h; injection h with h1 h2; injection h2 with h3; exact absurd h3 h0
  | bad b y hr hb h0 er p he hp hp2 h2 e => rw [e] at h; injection h with h1 h2; injection h2 with h3; omega
set_option maxRecDepth 100000 in
set_option maxHeartbeats 20000000 in
theorem joins7_any (s t : ByteArray) (w : World) :
    Calls Try.prog 9 #[.string s, .string t] w fun e w' => e = .returned (.bool true) ∧ Below w.heap.size w w' := by
  by_cases h : 100 < (s.size : Int)
  · have e : decide (100 < (s.size : Int)) = true := by simpa using h
    go_enter Try.func9, Try.ntmps9
    go_wp2_with fail
    refine (sure7_any _).mono ?_
    rintro e1 w1 ⟨rfl, hb1⟩
    go_wp2
    go_ret
    exact ⟨rfl, hb1⟩
  have e : decide (100 < (s.size : Int)) = false := by simpa using h
  have hsz : s.size ≤ 100 := by omega
  clear h
  by_cases h : 100 < (t.size : Int)
  · have e2 : decide (100 < (t.size : Int)) = true := by simpa using h
    go_enter Try.func9, Try.ntmps9
    go_wp2_with fail
    refine (sure7_any _).mono ?_
    rintro e1 w1 ⟨rfl, hb1⟩
    go_wp2
    go_ret
    exact ⟨rfl, hb1⟩
  have e2 : decide (100 < (t.size : Int)) = false := by simpa using h
  have htz : t.size ≤ 100 := by omega
  clear h
  have C1 := pparse_any s (by omega)
  have C2 := pparse_any t (by omega)
  obtain ⟨⟨L, er, p⟩, hR⟩ : ∃ R, parseF s = R := ⟨_, rfl⟩
  obtain ⟨⟨M, er', p'⟩, hR'⟩ : ∃ R, parseF t = R := ⟨_, rfl⟩
  rw [hR] at C1
  rw [hR'] at C2
  by_cases h0 : er = 0
  case neg =>
    have t0 : (er != 0) = true := bne_iff_ne.2 h0
    clear hR hR' h0
    go_enter Try.func9, Try.ntmps9
    go_wp2_with fail
    refine (C1 _).mono ?_
    rintro e1 w1 ⟨A1, c1, rfl, hown1, hb1⟩
    have HB1 := Lib.hid hb1
    clear hb1 hown1 C1
    go_wp2_with fail
    refine (C2 _).mono ?_
    rintro e2 w2 ⟨A2, c2, rfl, hown2, hb2⟩
    have HB2 := Lib.hid (below_then HB1.out hb2)
    clear hb2 hown2 C2 HB1
    go_wp2_with fail
    refine (sure7_any _).mono ?_
    rintro e3 w3 ⟨rfl, hb3⟩
    have HB3 := below_then HB2.out hb3
    go_wp2
    go_ret
    exact ⟨rfl, HB3⟩
  subst h0
  by_cases h0 : er' = 0
  case neg =>
    have t0 : (er' != 0) = true := bne_iff_ne.2 h0
    clear hR hR' h0
    go_enter Try.func9, Try.ntmps9
    go_wp2_with fail
    refine (C1 _).mono ?_
    rintro e1 w1 ⟨A1, c1, rfl, hown1, hb1⟩
    have HB1 := Lib.hid hb1
    clear hb1 hown1 C1
    go_wp2_with fail
    refine (C2 _).mono ?_
    rintro e2 w2 ⟨A2, c2, rfl, hown2, hb2⟩
    have HB2 := Lib.hid (below_then HB1.out hb2)
    clear hb2 hown2 C2 HB1
    go_wp2_with fail
    refine (sure7_any _).mono ?_
    rintro e3 w3 ⟨rfl, hb3⟩
    have HB3 := below_then HB2.out hb3
    go_wp2
    go_ret
    exact ⟨rfl, HB3⟩
  subst h0
  obtain ⟨hRL, hlb⟩ := parse_ok hR
  obtain ⟨hRM, hmb⟩ := parse_ok hR'
  obtain ⟨n, hl⟩ : ∃ n, L.length = n := ⟨_, rfl⟩
  obtain ⟨n', hm⟩ : ∃ n, M.length = n := ⟨_, rfl⟩
  have hrL := (root_size (right_parts hRL).1).1
  have hrM := (root_size (right_parts hRM).1).1
  rw [hl] at hrL hlb
  rw [hm] at hrM hmb
  obtain ⟨r, hr⟩ : ∃ r, n = r + 1 := ⟨n - 1, by omega⟩
  obtain ⟨r', hr'⟩ : ∃ r, n' = r + 1 := ⟨n' - 1, by omega⟩
  have x1 : (n : Int) - 1 = (r : Int) := by omega
  have x2 : (n' : Int) - 1 = (r' : Int) := by omega
  have hrn : r < n := by omega
  have hrn' : r' < n' := by omega
  have hn0 : ((n : Int) == 0) = false := beq_eq_false_iff_ne.2 (by omega)
  have hn0' : ((n' : Int) == 0) = false := beq_eq_false_iff_ne.2 (by omega)
  have hn1 : (n == 0) = false := beq_eq_false_iff_ne.2 (by omega)
  have hn1' : (n' == 0) = false := beq_eq_false_iff_ne.2 (by omega)
  have P3 : cntK 3 L ≤ 8 → ∀ w, Calls Try.prog 30 #[.string ((⟨#[40]⟩ : ByteArray) ++ s ++ ⟨#[41]⟩)] w (RetParse (L ++ [ndGroup], 0, 0) w) := fun hq w => by
    have := pparse_any ((⟨#[40]⟩ : ByteArray) ++ s ++ ⟨#[41]⟩) (by rw [ByteArray.size_append', ByteArray.size_append']; show 1 + s.size + 1 ≤ _; omega) w
    rwa [parse_group hR hq] at this
  have P4 : cntK 3 L + cntK 3 M ≤ 9 → kindAt L r ≠ 6 → kindAt M r' ≠ 6 → ∀ w, Calls Try.prog 30 #[.string (s ++ (⟨#[124]⟩ : ByteArray) ++ t)] w (RetParse (L ++ M ++ [ndAlt], 0, 0) w) := fun hq h1 h2 w => by
    have := pparse_any (s ++ (⟨#[124]⟩ : ByteArray) ++ t) (by rw [ByteArray.size_append', ByteArray.size_append']; show s.size + 1 + t.size ≤ _; omega) w
    rwa [parse_two hR hR' hq (by rw [hl, show n - 1 = r by omega]; exact h1) (by rw [hm, show n' - 1 = r' by omega]; exact h2)] at this
  have hgl : (L ++ [ndGroup]).length = n + 1 := by rw [List.length_append, hl]; rfl
  have hall : (L ++ M).length = n + n' := by rw [List.length_append, hl, hm]
  have hal : (L ++ M ++ [ndAlt]).length = n + n' + 1 := by rw [List.length_append, hall]; rfl
  have hGG : groupsF (L ++ M) (n + n') = cntK 3 L + cntK 3 M := by
    have := groups_cntK (L ++ M)
    rw [hall, cntK_append] at this
    exact this
  have HLN := Lib.hid hl
  have HMN := Lib.hid hm
  have HP3 := Lib.hid P3
  have HP4 := Lib.hid P4
  have HGL := Lib.hid hgl
  have HAL := Lib.hid hall
  have HAA := Lib.hid hal
  have HGG := Lib.hid hGG
  obtain ⟨i0, hi, hz0, hz1, hz2⟩ := info_parts info_node7
  have HI := Lib.hid hi; clear hi
  have HZ0 := Lib.hid hz0; clear hz0
  have HZ1 := Lib.hid hz1; clear hz1
  have HZ2 := Lib.hid hz2; clear hz2
  clear hl hm hRL hRM hr hr' hgl hall hal hGG P3 P4 hR hR'
  go_enter Try.func9, Try.ntmps9
  go_wp2_with fail
  refine (C1 _).mono ?_
  rintro e1 w1 ⟨A1, c1, rfl, hown1, hb1⟩
  have HN1 := Lib.hid (NodesAt.of_row hown1 rfl (by simp only; rw [HLN.out]; omega))
  have HB1 := Lib.hid hb1
  clear hb1 hown1 C1
  simp only
  rw [HLN.out]
  go_wp2_with fail
  refine (C2 _).mono ?_
  rintro e2 w2 ⟨A2, c2, rfl, hown2, hb2⟩
  have HM := Lib.hid (NodesAt.of_row hown2 rfl (by simp only; rw [HMN.out]; omega))
  have HL := Lib.hid ((HN1.out.below hb2).more hb2.size)
  have HB2 := Lib.hid (below_then HB1.out hb2)
  clear hb2 hown2 C2 HB1 HN1
  simp only
  rw [HMN.out]
  obtain ⟨b, off, rfl, hbl, _⟩ := HL.out.node (k := r) (by rw [HLN.out]; exact hrn)
  obtain ⟨b', off', rfl, hbl', _⟩ := HM.out.node (k := r') (by rw [HMN.out]; exact hrn')
  have hown0 := row_none w2
  have hfl : (flatD L).length = n * 8 := by rw [show (flatD L).length = L.length * 8 from flatD_length7 L, HLN.out]
  have hfm : (flatD M).length = n' * 8 := by rw [show (flatD M).length = M.length * 8 from flatD_length7 M, HMN.out]
  have hnd0 := NodesAt.cells7 (HL.out.below ((Below.refl w2.heap.size w2).alloc (Nat.le_refl _) (.cells #[] 43)))
  go_wp2_with (at_builtin; first
    | (((refine wpList_append_own _ rfl (.tmp 68) (.tmp 69) 22 rfl (w2.heap.size) 43 i0 ndZero7 8 64 Try.underlying22 HI.out HZ0.out HZ1.out HZ2.out rfl (by decide) _ _ _ rfl hown0 ⟨b, off, none⟩ n _ _ rfl hfl hnd0 (flatD_cell _) (by unfold maxLen; omega) (by omega) (by first | omega | (simp; done) | (simp; omega)) ?_)); intro v5 w5 hown5 hgr5 hnil5
       obtain ⟨A5, c5, rfl⟩ := row_shape hown5
       rw [Nat.zero_add, List.nil_append] at hown5
       have hb5 : Below w2.heap.size w2 w5 := ((Below.refl w2.heap.size w2).alloc (Nat.le_refl _) (.cells #[] 43)).grown hgr5 (by simp) (fun k e => (hown0.lt k e).1)
       have hs5 := hb5.size
       have hnd1 := NodesAt.cells7 (HM.out.below hb5)
       clear hown0 hnd0 hfl)
    | (((refine wpList_append_own _ rfl (.tmp 70) (.tmp 71) 22 rfl (w2.heap.size) 43 i0 ndZero7 8 64 Try.underlying22 HI.out HZ0.out HZ1.out HZ2.out rfl (by decide) _ _ _ rfl hown5 ⟨b', off', none⟩ n' _ _ rfl hfm hnd1 (flatD_cell _) (by unfold maxLen; omega) (by omega) (by first | omega | (simp; done) | (simp; omega)) ?_)); intro v6 w6 hown6 hgr6 hnil6
       obtain ⟨A6, c6, rfl⟩ := row_shape hown6
       have hb6 : Below w2.heap.size w2 w6 := hb5.grown hgr6 hs5 (fun k e => (hown5.lt k e).1)
       have hs6 := hb6.size
       clear hown5 hnd1 hfm))
  have hown6' : w6.ownsRow w2.heap.size 43 8 (.slice A6 (n + n') c6) (n + n') (flatD (L ++ M)) := by rw [flatD_append]; exact hown6
  have HALL := Lib.hid (NodesAt.of_row hown6' HAL.out (by omega))
  have HB6 := Lib.hid (below_then HB2.out hb6)
  have HX6 := Lib.hid hb6
  obtain ⟨b6, off6, rfl, hbl6, _⟩ := HALL.out.node (k := 0) (by rw [HAL.out]; omega)
  have hkk : ∀ wr, Below w6.heap.size w6 wr → ∀ i, i < n + n' → wr.cell? ⟨b6, off6 + i * 8, none⟩ = some (.int .i64 (kindAt (L ++ M) i)) := fun wr hb i hi => NodesAt.kind (HALL.out.below hb) (by rw [HAL.out]; exact hi) rfl
  have HKK := Lib.hid hkk
  have hgb := groupsF_le (L ++ M)
  have HGB := Lib.hid hgb
  clear hown6 hown6' hb6 hb5 hgr5 hgr6 hnil5 hnil6 hs5 hs6 HB2 hkk hgb
  go_wp2_with fail
  go_loopw [11, 13] (fun gr i wr => ∃ k : Nat, k ≤ n + n' ∧ i = .int .i64 k ∧ gr = .int .i64 ((groupsF (L ++ M) k : Nat) : Int) ∧ Below w6.heap.size w6 wr) (fun _ i _ => n + n' - (intOf i).toNat)
  case atStart => exact ⟨0, Nat.zero_le _, rfl, rfl, Below.refl _ _⟩
  case round =>
    obtain ⟨k, hk, rfl, rfl, hB⟩ := hrel
    have HB := Lib.hid hB; clear hB
    by_cases hlt : k < n + n'
    · have n0 := HKK.out wr HB.out k hlt
      have hgs : groupsF (L ++ M) (k + 1) = if (kindAt (L ++ M) k == 3) then groupsF (L ++ M) k + 1 else groupsF (L ++ M) k := rfl
      have hgl := HGB.out k
      obtain ⟨G, hG⟩ : ∃ G, groupsF (L ++ M) k = G := ⟨_, rfl⟩
      rw [hG] at hgs hgl ⊢
      clear hG
      generalize kindAt (L ++ M) k = kd at *
      cases hg : (kd == 3) with
      | true =>
        rw [hg] at hgs
        have HG1 : Hid (groupsF (L ++ M) (k + 1) = G + 1) := Lib.hid hgs
        clear hgs
        go_wp2
        go_roundw
        case rel => exact ⟨k + 1, by omega, by go_num, by rw [HG1.out]; go_num, HB.out⟩
        case measure => simp [intOf]; omega
      | false =>
        rw [hg] at hgs
        have HG1 : Hid (groupsF (L ++ M) (k + 1) = G) := Lib.hid hgs
        clear hgs
        go_wp2
        go_roundw
        case rel => exact ⟨k + 1, by omega, by go_num, by rw [HG1.out], HB.out⟩
        case measure => simp [intOf]; omega
    · obtain rfl : k = n + n' := by omega
      have hGG := HGG.out
      have hp3 := HP3.out
      have hp4 := HP4.out
      have hgl := HGB.out (n + n')
      clear HGG HP3 HP4 HGB HKK hlt
      obtain ⟨G, hG⟩ : ∃ G, groupsF (L ++ M) (n + n') = G := ⟨_, rfl⟩
      rw [hG] at hGG hgl ⊢
      clear hG
      have HBW := Lib.hid (HB6.out.trans (HB.out.mono HB6.out.size))
      by_cases h8 : 8 < (G : Int)
      · have d8 : decide (8 < (G : Int)) = true := decide_eq_true h8
        clear hGG hp3 hp4
        go_wp2_with fail
        refine (sure7_any _).mono ?_
        rintro e9 w9 ⟨rfl, hb9⟩
        have HB9 := below_then HBW.out hb9
        go_wp2
        go_ret
        exact ⟨rfl, HB9⟩
      have d8 : decide (8 < (G : Int)) = false := decide_eq_false h8
      have P3 := hp3 (by omega)
      have HP4 := Lib.hid (hp4 (by omega))
      clear hGG hp3 hp4 h8
      go_wp2_with fail
      refine (P3 _).mono ?_
      rintro e7 w7 ⟨A7, c7, rfl, hown7, hb7⟩
      have HN7 := Lib.hid (NodesAt.of_row hown7 rfl (by simp only; rw [HGL.out]; omega))
      have HB7 := Lib.hid (below_then HBW.out hb7)
      have HX7 := Lib.hid (below_then HB.out hb7)
      have HY7 := Lib.hid (HX6.out.trans (HX7.out.mono HX6.out.size))
      clear hb7 hown7 P3 HBW HB
      simp only
      rw [HGL.out]
      have hown0 := row_none w7
      have hfl : (flatD L).length = n * 8 := by rw [show (flatD L).length = L.length * 8 from flatD_length7 L, HLN.out]
      have hnd0 := NodesAt.cells7 ((HL.out.below HY7.out).below ((Below.refl w2.heap.size w7).alloc HY7.out.size (.cells #[] 43)))
      go_wp2_with (at_builtin; first
        | (((refine wpList_append_own_w _ (by rfl) (.tmp 102) (.tmp 103) 22 rfl (w7.heap.size) 43 i0 ndZero7 8 64 Try.underlying22 HI.out HZ0.out HZ1.out HZ2.out rfl (by decide) _ _ _ rfl hown0 ⟨b, off, none⟩ n _ _ rfl hfl hnd0 (flatD_cell _) (by unfold maxLen; omega) (by omega) (by first | omega | (simp; done) | (simp; omega)) ?_)); intro v8 w8 hown8 hgr8 hnil8
           obtain ⟨A8, c8, rfl⟩ := row_shape hown8
           rw [Nat.zero_add, List.nil_append] at hown8
           have hb8 : Below w7.heap.size w7 w8 := ((Below.refl w7.heap.size w7).alloc (Nat.le_refl _) (.cells #[] 43)).grown hgr8 (by simp) (fun k e => (hown0.lt k e).1)
           have hs8 := hb8.size
           clear hown0 hnd0 hfl)
        | ((go_must (refine wpList_append_elem_w _ (by rfl) (.tmp 104) (.tmp 106) 22 rfl (w7.heap.size) 43 i0 ndZero7 8 64 Try.underlying22 HI.out HZ0.out HZ1.out HZ2.out rfl (by decide) _ _ _ _ rfl hown8 #[.int .i64 3, .int .i64 1, .int .i64 0, .int .i64 0, .int .u64 0, .int .u64 0, .int .u64 0, .int .u64 0] _ rfl (by first | rfl | simp) rfl (by simp [Value.oneCell']) (by unfold maxLen; omega) (by omega) (by first | omega | (simp; done) | (simp; omega)) ?_)); intro A9 c9 w9 hown9 hbl9
           have HO9 : Hid (w9.ownsRow w7.heap.size 43 8 (.slice A9 (n + 1) c9) (n + 1) (flatD (L ++ [ndGroup]))) := Lib.hid (by rw [flatD_append, flatD_group]; exact hown9)
           have HN9 := Lib.hid (HN7.out.below (hb8.trans hbl9))
           have HB9 := Lib.hid (below_then HB7.out (hb8.trans hbl9))
           have HX9 := Lib.hid (below_then HX7.out (hb8.trans hbl9))
           have HS9 : Hid (w7.heap.size ≤ w9.heap.size) := Lib.hid (hb8.trans hbl9).size
           clear hown8 hown9 hb8 hs8 hgr8 hnil8 hbl9))
      have SM := same06_any A7 A9 c7 c9 (L ++ [ndGroup]) w9 (HN9.out.more HS9.out) (NodesAt.of_row HO9.out HGL.out (by omega))
      rw [HGL.out] at SM
      clear HN7 HN9 HO9 HS9 HB7 HX7 HY7
      refine SM.mono ?_
      rintro e10 w10 ⟨rfl, hb10⟩
      have HB10 := Lib.hid (below_then HB9.out hb10)
      have HX10 := Lib.hid (below_then HX9.out hb10)
      clear hb10 SM HB9 HX9
      have HY10 := Lib.hid (HX6.out.trans (HX10.out.mono HX6.out.size))
      have hn8 := (HL.out.below HY10.out).node (k := r) (by rw [HLN.out]; exact hrn)
      have hm8 := (HM.out.below HY10.out).node (k := r') (by rw [HMN.out]; exact hrn')
      obtain ⟨_, _, ha, _, hn8⟩ := hn8
      cases ha
      obtain ⟨_, _, ha, _, hm8⟩ := hm8
      cases ha
      have hp4 := HP4.out
      clear HP4
      have hk1 : kindAt L r = (L.getD r ndEmpty).kind := rfl
      have hk2 : kindAt M r' = (M.getD r' ndEmpty).kind := rfl
      rw [hk1, hk2] at hp4
      generalize L.getD r ndEmpty = x at *
      generalize M.getD r' ndEmpty = y at *
      have HP4 := Lib.hid hp4
      obtain ⟨xk, xa, xn, xm, xf⟩ := x
      obtain ⟨yk, ya, yn, ym, yf⟩ := y
      unfold Node8 at hn8 hm8
      simp only at hn8 hm8 HP4
      obtain ⟨n0, n1, n2, n3, n4, n5, n6, n7⟩ := hn8
      obtain ⟨m0, m1, m2, m3, m4, m5, m6, m7⟩ := hm8
      have hbw : b < w10.heap.size := Nat.lt_of_lt_of_le hbl HY10.out.size
      have hbw' : b' < w10.heap.size := Nat.lt_of_lt_of_le hbl' HY10.out.size
      clear hp4 hk1 hk2 hbl hbl' hbl6
      have y1 : IntKind.i64.wrap ((n : Int) - 1) = (r : Int) := by rw [x1, IntWalk.i64_in _ (by omega)]
      have y2 : IntKind.i64.wrap ((n' : Int) - 1) = (r' : Int) := by rw [x2, IntWalk.i64_in _ (by omega)]
      have y3 : IntKind.i64.wrap (r : Int) = (r : Int) := IntWalk.i64_in _ (by omega)
      have y4 : IntKind.i64.wrap (r' : Int) = (r' : Int) := IntWalk.i64_in _ (by omega)
      have y5 : 1 ≤ (n : Int) := by omega
      have y6 : 1 ≤ (n' : Int) := by omega
      have b1 : (0 : Int) ≤ (r : Int) := by omega
      have b2 : (r : Int) < (n : Int) := by omega
      have b3 : (0 : Int) ≤ (r' : Int) := by omega
      have b4 : (r' : Int) < (n' : Int) := by omega
      have z1 : b ≠ w10.heap.size := by omega
      have z2 : b ≠ w10.heap.size + 1 := by omega
      have z3 : b' ≠ w10.heap.size := by omega
      have z4 : b' ≠ w10.heap.size + 1 := by omega
      go_wp2_with fail
      go_region_held3 (fun w' => w'.cell? ⟨b, off + r * 8, none⟩ = some (.int .i64 xk) ∧ w'.cell? ⟨b, off + r * 8 + 1, none⟩ = some (.int .i64 xa) ∧ w'.cell? ⟨b, off + r * 8 + 2, none⟩ = some (.int .i64 xn) ∧ w'.cell? ⟨b, off + r * 8 + 3, none⟩ = some (.int .i64 xm) ∧ w'.cell? ⟨b, off + r * 8 + 4, none⟩ = some (.int .u64 (wd xf 0)) ∧ w'.cell? ⟨b, off + r * 8 + 5, none⟩ = some (.int .u64 (wd xf 1)) ∧ w'.cell? ⟨b, off + r * 8 + 6, none⟩ = some (.int .u64 (wd xf 2)) ∧ w'.cell? ⟨b, off + r * 8 + 7, none⟩ = some (.int .u64 (wd xf 3)) ∧ w'.cell? ⟨b', off' + r' * 8, none⟩ = some (.int .i64 yk) ∧ w'.cell? ⟨b', off' + r' * 8 + 1, none⟩ = some (.int .i64 ya) ∧ w'.cell? ⟨b', off' + r' * 8 + 2, none⟩ = some (.int .i64 yn) ∧ w'.cell? ⟨b', off' + r' * 8 + 3, none⟩ = some (.int .i64 ym) ∧ w'.cell? ⟨b', off' + r' * 8 + 4, none⟩ = some (.int .u64 (wd yf 0)) ∧ w'.cell? ⟨b', off' + r' * 8 + 5, none⟩ = some (.int .u64 (wd yf 1)) ∧ w'.cell? ⟨b', off' + r' * 8 + 6, none⟩ = some (.int .u64 (wd yf 2)) ∧ w'.cell? ⟨b', off' + r' * 8 + 7, none⟩ = some (.int .u64 (wd yf 3))) (simp [*, go_sem]) (fail)
      · have hbz : Below w10.heap.size w10 ((w10.alloc (.cells #[.int .i64 xk, .int .i64 xa, .int .i64 xn, .int .i64 xm, .int .u64 (wd xf 0), .int .u64 (wd xf 1), .int .u64 (wd xf 2), .int .u64 (wd xf 3)] 43)).alloc (.cells #[.int .i64 yk, .int .i64 ya, .int .i64 yn, .int .i64 ym, .int .u64 (wd yf 0), .int .u64 (wd yf 1), .int .u64 (wd yf 2), .int .u64 (wd yf 3)] 43)).drew := ((Below.alloc (Below.refl _ _) (Nat.le_refl _) _).alloc (by simp) _).drew
        have k0 : (((w10.alloc (.cells #[.int .i64 xk, .int .i64 xa, .int .i64 xn, .int .i64 xm, .int .u64 (wd xf 0), .int .u64 (wd xf 1), .int .u64 (wd xf 2), .int .u64 (wd xf 3)] 43)).alloc (.cells #[.int .i64 yk, .int .i64 ya, .int .i64 yn, .int .i64 ym, .int .u64 (wd yf 0), .int .u64 (wd yf 1), .int .u64 (wd yf 2), .int .u64 (wd yf 3)] 43)).drew).cell? ⟨w10.heap.size, 0, none⟩ = some (.int .i64 xk) := (Slab.cell (((Slab.new w10 #[.int .i64 xk, .int .i64 xa, .int .i64 xn, .int .i64 xm, .int .u64 (wd xf 0), .int .u64 (wd xf 1), .int .u64 (wd xf 2), .int .u64 (wd xf 3)] 43).alloc _).drew) 0).trans rfl
        have k1 : (((w10.alloc (.cells #[.int .i64 xk, .int .i64 xa, .int .i64 xn, .int .i64 xm, .int .u64 (wd xf 0), .int .u64 (wd xf 1), .int .u64 (wd xf 2), .int .u64 (wd xf 3)] 43)).alloc (.cells #[.int .i64 yk, .int .i64 ya, .int .i64 yn, .int .i64 ym, .int .u64 (wd yf 0), .int .u64 (wd yf 1), .int .u64 (wd yf 2), .int .u64 (wd yf 3)] 43)).drew).cell? ⟨w10.heap.size + 1, 0, none⟩ = some (.int .i64 yk) := (Slab.cell ((Slab.newAt (w10.alloc (.cells #[.int .i64 xk, .int .i64 xa, .int .i64 xn, .int .i64 xm, .int .u64 (wd xf 0), .int .u64 (wd xf 1), .int .u64 (wd xf 2), .int .u64 (wd xf 3)] 43)) #[.int .i64 yk, .int .i64 ya, .int .i64 yn, .int .i64 ym, .int .u64 (wd yf 0), .int .u64 (wd yf 1), .int .u64 (wd yf 2), .int .u64 (wd yf 3)] 43 (g := w10.heap.size + 1) (by simp)).drew) 0).trans rfl
        generalize ((w10.alloc (.cells #[.int .i64 xk, .int .i64 xa, .int .i64 xn, .int .i64 xm, .int .u64 (wd xf 0), .int .u64 (wd xf 1), .int .u64 (wd xf 2), .int .u64 (wd xf 3)] 43)).alloc (.cells #[.int .i64 yk, .int .i64 ya, .int .i64 yn, .int .i64 ym, .int .u64 (wd yf 0), .int .u64 (wd yf 1), .int .u64 (wd yf 2), .int .u64 (wd yf 3)] 43)).drew = w11 at *
        clear n0 n1 n2 n3 n4 n5 n6 n7 m0 m1 m2 m3 m4 m5 m6 m7
        have HB11 := Lib.hid (below_then HB10.out hbz)
        have HX11 := Lib.hid (below_then HX10.out hbz)
        clear hbz HB10 HX10 HY10 z1 z2 z3 z4 hbw hbw'
        by_cases k1' : xk = 6
        · have q1 : (xk == 6) = true := by rw [k1']; rfl
          clear HP4 k1'
          go_wp2_with fail
          refine (sure7_any _).mono ?_
          rintro e12 w12 ⟨rfl, hb12⟩
          have HB12 := below_then HB11.out hb12
          go_wp2
          go_ret
          exact ⟨rfl, HB12⟩
        have q1 : (xk == 6) = false := beq_eq_false_iff_ne.2 k1'
        by_cases k2' : yk = 6
        · have q2 : (yk == 6) = true := by rw [k2']; rfl
          clear HP4 k1' k2'
          go_wp2_with fail
          refine (sure7_any _).mono ?_
          rintro e12 w12 ⟨rfl, hb12⟩
          have HB12 := below_then HB11.out hb12
          go_wp2
          go_ret
          exact ⟨rfl, HB12⟩
        have q2 : (yk == 6) = false := beq_eq_false_iff_ne.2 k2'
        have P4 := HP4.out k1' k2'
        clear HP4 k1' k2'
        go_wp2_with fail
        refine (P4 _).mono ?_
        rintro e12 w12 ⟨A12, c12, rfl, hown12, hb12⟩
        have HN12 := Lib.hid (NodesAt.of_row hown12 rfl (by simp only; rw [HAA.out]; omega))
        have HB12 := Lib.hid (below_then HB11.out hb12)
        have HX12 := Lib.hid (below_then HX11.out hb12)
        clear hb12 hown12 P4 HB11 HX11 k0 k1
        simp only
        rw [HAA.out]
        have hown0 := row_none w12
        have hfl : (flatD (L ++ M)).length = (n + n') * 8 := by rw [show (flatD (L ++ M)).length = (L ++ M).length * 8 from flatD_length7 (L ++ M), HAL.out]
        have hnd0 := NodesAt.cells7 ((HALL.out.below HX12.out).below ((Below.refl w6.heap.size w12).alloc HX12.out.size (.cells #[] 43)))
        go_wp2_with (at_builtin; first
          | (((refine wpList_append_own_w _ (by rfl) (.tmp 145) (.tmp 146) 22 rfl (w12.heap.size) 43 i0 ndZero7 8 64 Try.underlying22 HI.out HZ0.out HZ1.out HZ2.out rfl (by decide) _ _ _ rfl hown0 ⟨b6, off6, none⟩ (n + n') _ _ rfl hfl hnd0 (flatD_cell _) (by unfold maxLen; omega) (by omega) (by first | omega | (simp; done) | (simp; omega)) ?_)); intro v13 w13 hown13 hgr13 hnil13
             obtain ⟨A13, c13, rfl⟩ := row_shape hown13
             rw [Nat.zero_add, List.nil_append] at hown13
             have hb13 : Below w12.heap.size w12 w13 := ((Below.refl w12.heap.size w12).alloc (Nat.le_refl _) (.cells #[] 43)).grown hgr13 (by simp) (fun k e => (hown0.lt k e).1)
             have hs13 := hb13.size
             clear hown0 hnd0 hfl)
          | ((go_must (refine wpList_append_elem_w _ (by rfl) (.tmp 147) (.tmp 149) 22 rfl (w12.heap.size) 43 i0 ndZero7 8 64 Try.underlying22 HI.out HZ0.out HZ1.out HZ2.out rfl (by decide) _ _ _ _ rfl hown13 #[.int .i64 6, .int .i64 2, .int .i64 0, .int .i64 0, .int .u64 0, .int .u64 0, .int .u64 0, .int .u64 0] _ rfl (by first | rfl | simp) rfl (by simp [Value.oneCell']) (by unfold maxLen; omega) (by omega) (by first | omega | (simp; done) | (simp; omega)) ?_)); intro A14 c14 w14 hown14 hbl14
             have HO14 : Hid (w14.ownsRow w12.heap.size 43 8 (.slice A14 (n + n' + 1) c14) (n + n' + 1) (flatD (L ++ M ++ [ndAlt]))) := Lib.hid (by rw [flatD_append, flatD_alt]; exact hown14)
             have HN14 := Lib.hid (HN12.out.below (hb13.trans hbl14))
             have HB14 := Lib.hid (below_then HB12.out (hb13.trans hbl14))
             have HS14 : Hid (w12.heap.size ≤ w14.heap.size) := Lib.hid (hb13.trans hbl14).size
             clear hown13 hown14 hb13 hs13 hgr13 hnil13 hbl14))
        have SM := same06_any A12 A14 c12 c14 (L ++ M ++ [ndAlt]) w14 (HN14.out.more HS14.out) (NodesAt.of_row HO14.out HAA.out (by omega))
        rw [HAA.out] at SM
        clear HN12 HN14 HO14 HS14 HB12 HX12
        refine SM.mono ?_
        rintro e15 w15 ⟨rfl, hb15⟩
        have HB15 := Lib.hid (below_then HB14.out hb15)
        clear hb15 SM HB14
        go_wp2_with fail
        refine (sure7_any _).mono ?_
        rintro e16 w16 ⟨rfl, hb16⟩
        have HB16 := below_then HB15.out hb16
        go_wp2
        go_ret
        exact ⟨rfl, HB16⟩
      · have hbz : Below w10.heap.size w10 ((w10.alloc (.cells #[.int .i64 yk, .int .i64 ya, .int .i64 yn, .int .i64 ym, .int .u64 (wd yf 0), .int .u64 (wd yf 1), .int .u64 (wd yf 2), .int .u64 (wd yf 3)] 43)).alloc (.cells #[.int .i64 xk, .int .i64 xa, .int .i64 xn, .int .i64 xm, .int .u64 (wd xf 0), .int .u64 (wd xf 1), .int .u64 (wd xf 2), .int .u64 (wd xf 3)] 43)).drew := ((Below.alloc (Below.refl _ _) (Nat.le_refl _) _).alloc (by simp) _).drew
        have k0 : (((w10.alloc (.cells #[.int .i64 yk, .int .i64 ya, .int .i64 yn, .int .i64 ym, .int .u64 (wd yf 0), .int .u64 (wd yf 1), .int .u64 (wd yf 2), .int .u64 (wd yf 3)] 43)).alloc (.cells #[.int .i64 xk, .int .i64 xa, .int .i64 xn, .int .i64 xm, .int .u64 (wd xf 0), .int .u64 (wd xf 1), .int .u64 (wd xf 2), .int .u64 (wd xf 3)] 43)).drew).cell? ⟨w10.heap.size, 0, none⟩ = some (.int .i64 yk) := (Slab.cell (((Slab.new w10 #[.int .i64 yk, .int .i64 ya, .int .i64 yn, .int .i64 ym, .int .u64 (wd yf 0), .int .u64 (wd yf 1), .int .u64 (wd yf 2), .int .u64 (wd yf 3)] 43).alloc _).drew) 0).trans rfl
        have k1 : (((w10.alloc (.cells #[.int .i64 yk, .int .i64 ya, .int .i64 yn, .int .i64 ym, .int .u64 (wd yf 0), .int .u64 (wd yf 1), .int .u64 (wd yf 2), .int .u64 (wd yf 3)] 43)).alloc (.cells #[.int .i64 xk, .int .i64 xa, .int .i64 xn, .int .i64 xm, .int .u64 (wd xf 0), .int .u64 (wd xf 1), .int .u64 (wd xf 2), .int .u64 (wd xf 3)] 43)).drew).cell? ⟨w10.heap.size + 1, 0, none⟩ = some (.int .i64 xk) := (Slab.cell ((Slab.newAt (w10.alloc (.cells #[.int .i64 yk, .int .i64 ya, .int .i64 yn, .int .i64 ym, .int .u64 (wd yf 0), .int .u64 (wd yf 1), .int .u64 (wd yf 2), .int .u64 (wd yf 3)] 43)) #[.int .i64 xk, .int .i64 xa, .int .i64 xn, .int .i64 xm, .int .u64 (wd xf 0), .int .u64 (wd xf 1), .int .u64 (wd xf 2), .int .u64 (wd xf 3)] 43 (g := w10.heap.size + 1) (by simp)).drew) 0).trans rfl
        generalize ((w10.alloc (.cells #[.int .i64 yk, .int .i64 ya, .int .i64 yn, .int .i64 ym, .int .u64 (wd yf 0), .int .u64 (wd yf 1), .int .u64 (wd yf 2), .int .u64 (wd yf 3)] 43)).alloc (.cells #[.int .i64 xk, .int .i64 xa, .int .i64 xn, .int .i64 xm, .int .u64 (wd xf 0), .int .u64 (wd xf 1), .int .u64 (wd xf 2), .int .u64 (wd xf 3)] 43)).drew = w11 at *
        clear n0 n1 n2 n3 n4 n5 n6 n7 m0 m1 m2 m3 m4 m5 m6 m7
        have HB11 := Lib.hid (below_then HB10.out hbz)
        have HX11 := Lib.hid (below_then HX10.out hbz)
        clear hbz HB10 HX10 HY10 z1 z2 z3 z4 hbw hbw'
        by_cases k1' : xk = 6
        · have q1 : (xk == 6) = true := by rw [k1']; rfl
          clear HP4 k1'
          go_wp2_with fail
          refine (sure7_any _).mono ?_
          rintro e12 w12 ⟨rfl, hb12⟩
          have HB12 := below_then HB11.out hb12
          go_wp2
          go_ret
          exact ⟨rfl, HB12⟩
        have q1 : (xk == 6) = false := beq_eq_false_iff_ne.2 k1'
        by_cases k2' : yk = 6
        · have q2 : (yk == 6) = true := by rw [k2']; rfl
          clear HP4 k1' k2'
          go_wp2_with fail
          refine (sure7_any _).mono ?_
          rintro e12 w12 ⟨rfl, hb12⟩
          have HB12 := below_then HB11.out hb12
          go_wp2
          go_ret
          exact ⟨rfl, HB12⟩
        have q2 : (yk == 6) = false := beq_eq_false_iff_ne.2 k2'
        have P4 := HP4.out k1' k2'
        clear HP4 k1' k2'
        go_wp2_with fail
        refine (P4 _).mono ?_
        rintro e12 w12 ⟨A12, c12, rfl, hown12, hb12⟩
        have HN12 := Lib.hid (NodesAt.of_row hown12 rfl (by simp only; rw [HAA.out]; omega))
        have HB12 := Lib.hid (below_then HB11.out hb12)
        have HX12 := Lib.hid (below_then HX11.out hb12)
        clear hb12 hown12 P4 HB11 HX11 k0 k1
        simp only
        rw [HAA.out]
        have hown0 := row_none w12
        have hfl : (flatD (L ++ M)).length = (n + n') * 8 := by rw [show (flatD (L ++ M)).length = (L ++ M).length * 8 from flatD_length7 (L ++ M), HAL.out]
        have hnd0 := NodesAt.cells7 ((HALL.out.below HX12.out).below ((Below.refl w6.heap.size w12).alloc HX12.out.size (.cells #[] 43)))
        go_wp2_with (at_builtin; first
          | (((refine wpList_append_own_w _ (by rfl) (.tmp 145) (.tmp 146) 22 rfl (w12.heap.size) 43 i0 ndZero7 8 64 Try.underlying22 HI.out HZ0.out HZ1.out HZ2.out rfl (by decide) _ _ _ rfl hown0 ⟨b6, off6, none⟩ (n + n') _ _ rfl hfl hnd0 (flatD_cell _) (by unfold maxLen; omega) (by omega) (by first | omega | (simp; done) | (simp; omega)) ?_)); intro v13 w13 hown13 hgr13 hnil13
             obtain ⟨A13, c13, rfl⟩ := row_shape hown13
             rw [Nat.zero_add, List.nil_append] at hown13
             have hb13 : Below w12.heap.size w12 w13 := ((Below.refl w12.heap.size w12).alloc (Nat.le_refl _) (.cells #[] 43)).grown hgr13 (by simp) (fun k e => (hown0.lt k e).1)
             have hs13 := hb13.size
             clear hown0 hnd0 hfl)
          | ((go_must (refine wpList_append_elem_w _ (by rfl) (.tmp 147) (.tmp 149) 22 rfl (w12.heap.size) 43 i0 ndZero7 8 64 Try.underlying22 HI.out HZ0.out HZ1.out HZ2.out rfl (by decide) _ _ _ _ rfl hown13 #[.int .i64 6, .int .i64 2, .int .i64 0, .int .i64 0, .int .u64 0, .int .u64 0, .int .u64 0, .int .u64 0] _ rfl (by first | rfl | simp) rfl (by simp [Value.oneCell']) (by unfold maxLen; omega) (by omega) (by first | omega | (simp; done) | (simp; omega)) ?_)); intro A14 c14 w14 hown14 hbl14
             have HO14 : Hid (w14.ownsRow w12.heap.size 43 8 (.slice A14 (n + n' + 1) c14) (n + n' + 1) (flatD (L ++ M ++ [ndAlt]))) := Lib.hid (by rw [flatD_append, flatD_alt]; exact hown14)
             have HN14 := Lib.hid (HN12.out.below (hb13.trans hbl14))
             have HB14 := Lib.hid (below_then HB12.out (hb13.trans hbl14))
             have HS14 : Hid (w12.heap.size ≤ w14.heap.size) := Lib.hid (hb13.trans hbl14).size
             clear hown13 hown14 hb13 hs13 hgr13 hnil13 hbl14))
        have SM := same06_any A12 A14 c12 c14 (L ++ M ++ [ndAlt]) w14 (HN14.out.more HS14.out) (NodesAt.of_row HO14.out HAA.out (by omega))
        rw [HAA.out] at SM
        clear HN12 HN14 HO14 HS14 HB12 HX12
        refine SM.mono ?_
        rintro e15 w15 ⟨rfl, hb15⟩
        have HB15 := Lib.hid (below_then HB14.out hb15)
        clear hb15 SM HB14
        go_wp2_with fail
        refine (sure7_any _).mono ?_
        rintro e16 w16 ⟨rfl, hb16⟩
        have HB16 := below_then HB15.out hb16
        go_wp2
        go_ret
        exact ⟨rfl, HB16⟩
end Go.Proofs.Ytddokdjlmdoebaa
