/- LowerParts, walked. -/
import Derived.Test.YtddokdjlmdoebaaProg
import Derived.WalkKit
import Derived.WalkSpells
import Derived.WalkLawsBesides
import Derived.Handy
import Derived.Lib.Hide
import Derived.Test.YtddokdjlmdoebaaMLoZ
import Derived.Test.YtddokdjlmdoebaaLowZf
import Derived.Test.YtddokdjlmdoebaaMLw6
import Derived.Test.YtddokdjlmdoebaaMApp
import Derived.Test.YtddokdjlmdoebaaMAsi
import Derived.Deep.QuietTactic
import Derived.BigQuiet
set_option linter.unusedVariables false
set_option linter.unusedSimpArgs false
namespace Go.Proofs.Ytddokdjlmdoebaa
open Go.RowKit SetP AstP LowP ParP
set_option maxRecDepth 100000 in
set_option maxHeartbeats 20000000 in
theorem lparts_any (A A' : Option Addr) (c c' n n' : Nat) (w : World) (h : Came w A n) (h' : Came w A' n') :
    Calls Try.prog 5 #[.slice A n c, .slice A' n' c'] w fun e w' => e = .returned (.bool true) ∧ Below w.heap.size w w' := by
  by_cases hn : n ≤ 40
  case neg =>
    have hd : decide (40 < (n : Int)) = true := decide_eq_true (by omega)
    clear h h'
    go_enter Try.func5, Try.ntmps5
    go_wp2_with fail
    refine (sure11_any _).mono ?_
    rintro e1 w1 ⟨rfl, hb1⟩
    go_wp2
    go_ret
    exact ⟨rfl, hb1⟩
  have hd : decide (40 < (n : Int)) = false := decide_eq_false (by omega)
  by_cases hn' : n' ≤ 40
  case neg =>
    have hd' : decide (40 < (n' : Int)) = true := decide_eq_true (by omega)
    clear h h'
    go_enter Try.func5, Try.ntmps5
    go_wp2_with fail
    refine (sure11_any _).mono ?_
    rintro e1 w1 ⟨rfl, hb1⟩
    go_wp2
    go_ret
    exact ⟨rfl, hb1⟩
  have hd' : decide (40 < (n' : Int)) = false := decide_eq_false (by omega)
  obtain ⟨L, hl, hL⟩ := h (by omega)
  obtain ⟨M, hm, hM⟩ := h' (by omega)
  have HL := Lib.hid hL
  have HM := Lib.hid hM
  have F1 := fun (w : World) (h : NodesAt w w.heap.size A L) => rright6_any A c L w h
  have F2 := fun (w : World) (h : NodesAt w w.heap.size A' M) => rright6_any A' c' M w h
  rw [hl] at F1
  rw [hm] at F2
  cases hRL : rightF L with
  | false =>
    rw [hRL] at F1
    clear h h' hL hM hl hm hRL F2
    go_enter Try.func5, Try.ntmps5
    go_wp2_with fail
    refine (F1 _ HL.out).mono ?_
    rintro e1 w1 ⟨rfl, hb1⟩
    have HB1 := Lib.hid hb1
    clear hb1
    go_wp2_with fail
    go_wp2_with fail
    refine (sure11_any _).mono ?_
    rintro e2 w2 ⟨rfl, hb2⟩
    have HB2 := below_then HB1.out hb2
    go_wp2
    go_ret
    exact ⟨rfl, HB2⟩
  | true =>
  rw [hRL] at F1
  cases hRM : rightF M with
  | false =>
    rw [hRM] at F2
    clear h h' hL hM hl hm hRL hRM
    go_enter Try.func5, Try.ntmps5
    go_wp2_with fail
    refine (F1 _ HL.out).mono ?_
    rintro e1 w1 ⟨rfl, hb1⟩
    have HB1 := Lib.hid hb1
    clear hb1
    go_wp2_with fail
    refine (F2 _ ((HM.out.below HB1.out).more HB1.out.size)).mono ?_
    rintro e2 w2 ⟨rfl, hb2⟩
    have HB2 := Lib.hid (below_then HB1.out hb2)
    clear hb2
    go_wp2_with fail
    refine (sure11_any _).mono ?_
    rintro e3 w3 ⟨rfl, hb3⟩
    have HB3 := below_then HB2.out hb3
    go_wp2
    go_ret
    exact ⟨rfl, HB3⟩
  | true =>
  rw [hRM] at F2
  obtain ⟨hF, _, hg9⟩ := right_parts hRL
  obtain ⟨hFM, _, hh9⟩ := right_parts hRM
  have hrL := (root_size hF).1
  have hrM := (root_size hFM).1
  rw [hl] at hrL
  rw [hm] at hrM
  obtain ⟨r, hr⟩ : ∃ r, n = r + 1 := ⟨n - 1, by omega⟩
  obtain ⟨r', hr'⟩ : ∃ r, n' = r + 1 := ⟨n' - 1, by omega⟩
  have x1 : (n : Int) - 1 = (r : Int) := by omega
  have x2 : (n' : Int) - 1 = (r' : Int) := by omega
  have hrn : r < n := by omega
  have hrn' : r' < n' := by omega
  obtain ⟨b, off, rfl, hbl, _⟩ := hL.node (k := r) (by omega)
  obtain ⟨b', off', rfl, hbl', _⟩ := hM.node (k := r') (by omega)
  have HLN := Lib.hid hl
  have HMN := Lib.hid hm
  have hk1 : ∀ wr, Below w.heap.size w wr → wr.cell? ⟨b, off + r * 8, none⟩ = some (.int .i64 (kindAt L r)) := fun wr hb => NodesAt.kind (HL.out.below hb) (by rw [HLN.out]; exact hrn) rfl
  have hk2 : ∀ wr, Below w.heap.size w wr → wr.cell? ⟨b', off' + r' * 8, none⟩ = some (.int .i64 (kindAt M r')) := fun wr hb => NodesAt.kind (HM.out.below hb) (by rw [HMN.out]; exact hrn') rfl
  have HK1 := Lib.hid hk1
  have HK2 := Lib.hid hk2
  obtain ⟨kd, hkd⟩ : ∃ kd, kindAt L r = kd := ⟨_, rfl⟩
  obtain ⟨kd', hkd'⟩ : ∃ kd, kindAt M r' = kd := ⟨_, rfl⟩
  rw [hkd] at HK1
  rw [hkd'] at HK2
  have HKD := Lib.hid hkd
  have HKD' := Lib.hid hkd'
  clear hk1 hk2 hkd hkd'
  by_cases k1 : kd = 6
  case pos =>
    have q1 : (kd == 6) = true := by rw [k1]; rfl
    clear h h' hL hM hl hm hRL hRM hF hFM hr hr' hg9 hh9 k1 HKD HKD'
    go_enter Try.func5, Try.ntmps5
    go_wp2_with fail
    refine (F1 _ HL.out).mono ?_
    rintro e1 w1 ⟨rfl, hb1⟩
    have HB1 := Lib.hid hb1
    clear hb1
    go_wp2_with fail
    refine (F2 _ ((HM.out.below HB1.out).more HB1.out.size)).mono ?_
    rintro e2 w2 ⟨rfl, hb2⟩
    have HB2 := Lib.hid (below_then HB1.out hb2)
    clear hb2
    have m1 := HK1.out w2 HB2.out
    have m2 := HK2.out w2 HB2.out
    go_wp2_with fail
    refine (sure11_any _).mono ?_
    rintro e3 w3 ⟨rfl, hb3⟩
    have HB3 := below_then HB2.out hb3
    go_wp2
    go_ret
    exact ⟨rfl, HB3⟩
  have q1 : (kd == 6) = false := beq_eq_false_iff_ne.2 k1
  by_cases k2 : kd' = 6
  case pos =>
    have q2 : (kd' == 6) = true := by rw [k2]; rfl
    clear h h' hL hM hl hm hRL hRM hF hFM hr hr' hg9 hh9 k1 k2 HKD HKD'
    go_enter Try.func5, Try.ntmps5
    go_wp2_with fail
    refine (F1 _ HL.out).mono ?_
    rintro e1 w1 ⟨rfl, hb1⟩
    have HB1 := Lib.hid hb1
    clear hb1
    go_wp2_with fail
    refine (F2 _ ((HM.out.below HB1.out).more HB1.out.size)).mono ?_
    rintro e2 w2 ⟨rfl, hb2⟩
    have HB2 := Lib.hid (below_then HB1.out hb2)
    clear hb2
    have m1 := HK1.out w2 HB2.out
    have m2 := HK2.out w2 HB2.out
    go_wp2_with fail
    refine (sure11_any _).mono ?_
    rintro e3 w3 ⟨rfl, hb3⟩
    have HB3 := below_then HB2.out hb3
    go_wp2
    go_ret
    exact ⟨rfl, HB3⟩
  have q2 : (kd' == 6) = false := beq_eq_false_iff_ne.2 k2
  have hal : (L ++ M ++ [ndAlt]).length = n + n' + 1 := by rw [List.length_append, List.length_append, hl, hm]; rfl
  have hall : (L ++ M).length = n + n' := by rw [List.length_append, hl, hm]
  have F3 := fun (A : Option Addr) (c : Nat) (w : World) (h : NodesAt w w.heap.size A (L ++ M ++ [ndAlt])) => rright6_any A c _ w h
  have S1 := fun (w : World) (h : NodesAt w w.heap.size (some ⟨b, off, none⟩) L) => lsize_any (some ⟨b, off, none⟩) c L (by omega) w h
  have S2 := fun (w : World) (h : NodesAt w w.heap.size (some ⟨b', off', none⟩) M) => lsize_any (some ⟨b', off', none⟩) c' M (by omega) w h
  have S3 := fun (A : Option Addr) (c : Nat) (w : World) (h : NodesAt w w.heap.size A (L ++ M ++ [ndAlt])) => lsize_any A c _ (by omega) w h
  have N1 := fun (w : World) (h : NodesAt w w.heap.size (some ⟨b, off, none⟩) L) => lnull_any (some ⟨b, off, none⟩) c L w h
  have N2 := fun (w : World) (h : NodesAt w w.heap.size (some ⟨b', off', none⟩) M) => lnull_any (some ⟨b', off', none⟩) c' M w h
  have N3 := fun (A : Option Addr) (c : Nat) (w : World) (h : NodesAt w w.heap.size A (L ++ M ++ [ndAlt])) => lnull_any A c _ w h
  rw [hal] at F3 S3 N3
  rw [hl] at S1 N1
  rw [hm] at S2 N2
  have hfl : (flatD L).length = n * 8 := by rw [show (flatD L).length = L.length * 8 from flatD_length7 L, HLN.out]
  have hfm : (flatD M).length = n' * 8 := by rw [show (flatD M).length = M.length * 8 from flatD_length7 M, HMN.out]
  have HFL := Lib.hid hfl
  have HFM := Lib.hid hfm
  have HAA := Lib.hid hal
  have HAL := Lib.hid hall
  obtain ⟨i0, hi, hz0, hz1, hz2⟩ := info_parts info_node7
  have HI := Lib.hid hi; clear hi
  have HZ0 := Lib.hid hz0; clear hz0
  have HZ1 := Lib.hid hz1; clear hz1
  have HZ2 := Lib.hid hz2; clear hz2
  cases hRA : rightF (L ++ M ++ [ndAlt]) with
  | false =>
    rw [hRA] at F3
    have HF3 := Lib.hid F3
    clear h h' hL hM hl hm hRL hRM hF hFM hr hr' hg9 hh9 k1 k2 HKD HKD' S1 S2 S3 N1 N2 N3 hRA hal hall hfl hfm F3
    go_enter Try.func5, Try.ntmps5
    go_wp2_with fail
    refine (F1 _ HL.out).mono ?_
    rintro e1 w1 ⟨rfl, hb1⟩
    have HB1 := Lib.hid hb1
    clear hb1
    go_wp2_with fail
    refine (F2 _ ((HM.out.below HB1.out).more HB1.out.size)).mono ?_
    rintro e2 w2 ⟨rfl, hb2⟩
    have HB2 := Lib.hid (below_then HB1.out hb2)
    clear hb2
    have m1 := HK1.out w2 HB2.out
    have m2 := HK2.out w2 HB2.out
    have hown0 := row_none w2
    have hfl := HFL.out
    have hfm := HFM.out
    have hnd0 := NodesAt.cells7 ((HL.out.below HB2.out).below ((Below.refl w.heap.size w2).alloc HB2.out.size (.cells #[] 43)))
    go_wp2_with (at_builtin; first
      | (((refine wpList_append_own _ rfl (.tmp 55) (.tmp 56) 22 rfl (w2.heap.size) 43 i0 ndZero7 8 64 Try.underlying22 HI.out HZ0.out HZ1.out HZ2.out rfl (by decide) _ _ _ rfl hown0 ⟨b, off, none⟩ n _ _ rfl hfl hnd0 (flatD_cell _) (by unfold maxLen; omega) (by omega) (by first | omega | (simp; done) | (simp; omega)) ?_)); intro v5 w5 hown5 hgr5 hnil5
         obtain ⟨A5, c5, rfl⟩ := row_shape hown5
         rw [Nat.zero_add, List.nil_append] at hown5
         have hb5 : Below w2.heap.size w2 w5 := ((Below.refl w2.heap.size w2).alloc (Nat.le_refl _) (.cells #[] 43)).grown hgr5 (by simp) (fun k e => (hown0.lt k e).1)
         have hs5 := hb5.size
         have hnd1 := NodesAt.cells7 ((HM.out.below HB2.out).below (hb5.mono HB2.out.size))
         clear hown0 hnd0 hfl)
      | (((refine wpList_append_own _ rfl (.tmp 57) (.tmp 58) 22 rfl (w2.heap.size) 43 i0 ndZero7 8 64 Try.underlying22 HI.out HZ0.out HZ1.out HZ2.out rfl (by decide) _ _ _ rfl hown5 ⟨b', off', none⟩ n' _ _ rfl hfm hnd1 (flatD_cell _) (by unfold maxLen; omega) (by omega) (by first | omega | (simp; done) | (simp; omega)) ?_)); intro v6 w6 hown6 hgr6 hnil6
         obtain ⟨A6, c6, rfl⟩ := row_shape hown6
         have hb6 : Below w2.heap.size w2 w6 := hb5.grown hgr6 hs5 (fun k e => (hown5.lt k e).1)
         have hs6 := hb6.size
         clear hown5 hnd1 hfm)
      | ((go_must (refine wpList_append_elem _ rfl (.tmp 59) (.tmp 61) 22 rfl (w2.heap.size) 43 i0 ndZero7 8 64 Try.underlying22 HI.out HZ0.out HZ1.out HZ2.out rfl (by decide) _ _ _ _ rfl hown6 #[.int .i64 6, .int .i64 2, .int .i64 0, .int .i64 0, .int .u64 0, .int .u64 0, .int .u64 0, .int .u64 0] _ rfl (by first | rfl | simp) rfl (by simp [Value.oneCell']) (by unfold maxLen; omega) (by omega) (by first | omega | (simp; done) | (simp; omega)) ?_)); intro A7 c7 w7 hown7 hbl7
         have HO7 : Hid (w7.ownsRow w2.heap.size 43 8 (.slice A7 (n + n' + 1) c7) (n + n' + 1) (flatD (L ++ M ++ [ndAlt]))) := Lib.hid (by rw [flatD_append, flatD_append, flatD_alt]; exact hown7)
         have HB7 := Lib.hid (below_then HB2.out (hb6.trans hbl7))
         have HX7 : Hid (w2.heap.size ≤ w7.heap.size) := Lib.hid (hb6.trans hbl7).size
         clear hown6 hown7 hb5 hb6 hs5 hs6 hgr5 hgr6 hnil5 hnil6 hbl7))
    refine (HF3.out A7 c7 _ (NodesAt.of_row HO7.out HAA.out (by omega))).mono ?_
    rintro e8 w8 ⟨rfl, hb8⟩
    have HB8 := Lib.hid (below_then HB7.out hb8)
    clear hb8 HB7 HO7 HX7
    go_wp2_with fail
    refine (sure11_any _).mono ?_
    rintro e9 w9 ⟨rfl, hb9⟩
    have HB9 := below_then HB8.out hb9
    go_wp2
    go_ret
    exact ⟨rfl, HB9⟩
  | true =>
  rw [hRA] at F3
  obtain ⟨⟨a, s1⟩, hs1⟩ : ∃ p, sizeF L = p := ⟨_, rfl⟩
  obtain ⟨⟨d, s2⟩, hs2⟩ : ∃ p, sizeF M = p := ⟨_, rfl⟩
  obtain ⟨⟨m, s3⟩, hs3⟩ : ∃ p, sizeF (L ++ M ++ [ndAlt]) = p := ⟨_, rfl⟩
  obtain ⟨z1, z2, z3, z4, z5, z6, z7, z8, z9, z10, z11, z12, z13, z14⟩ := size_two_at hRL hRM hRA a s1 d s2 m s3 hs1 hs2 hs3
  rw [hs1] at S1
  rw [hs2] at S2
  rw [hs3] at S3
  have e1 : nullF L = nullL L n := by unfold nullF; rw [hRL, hl]; rfl
  have e2 : nullF M = nullL M n' := by unfold nullF; rw [hRM, hm]; rfl
  have e3 : nullF (L ++ M ++ [ndAlt]) = nullL (L ++ M ++ [ndAlt]) (n + n' + 1) := by unfold nullF; rw [hRA, hal]; rfl
  rw [e1, nullL_length] at N1
  rw [e2, nullL_length] at N2
  rw [e3, nullL_length] at N3
  have hpre : ∀ i, i < n → nullAt (L ++ M ++ [ndAlt]) i = nullAt L i := fun i hi => by rw [List.append_assoc]; exact null_pre (by rw [hl]; exact hi)
  have htwo : nullAt (L ++ M ++ [ndAlt]) (n + n') = (nullAt L r || nullAt M r') := by
    have := null_two hF hFM
    rw [hl, hm, show n - 1 = r by omega, show n' - 1 = r' by omega] at this
    exact this
  have HPRE := Lib.hid hpre
  have HTWO := Lib.hid htwo
  have HF3 := Lib.hid F3
  have HS1 := Lib.hid S1
  have HS2 := Lib.hid S2
  have HS3 := Lib.hid S3
  have HN1 := Lib.hid N1
  have HN2 := Lib.hid N2
  have HN3 := Lib.hid N3
  have HZ1' := Lib.hid z1
  have HZ2' := Lib.hid z2
  have hcc : ∃ t, decide (a + d + 1 < 1000000) = t ∧ (t = true → (m != a + d + 1) = false) ∧ ∃ u, decide (s1 + s2 < 1000000) = u ∧ ∃ q, (s3 != s1 + s2) = q ∧ (u = true → q = false) :=
    ⟨_, rfl, fun h => by simpa using z1 (of_decide_eq_true h), _, rfl, _, rfl, fun h => by simpa using z2 (of_decide_eq_true h)⟩
  clear h h' hL hM hl hm hRL hRM hF hFM hr hr' hg9 hh9 k1 k2 HKD HKD' S1 S2 S3 N1 N2 N3 hRA hal hall hfl hfm F3 hs1 hs2 hs3 e1 e2 e3 hpre htwo z1 z2
  go_enter Try.func5, Try.ntmps5
  go_wp2_with fail
  refine (F1 _ HL.out).mono ?_
  rintro e1 w1 ⟨rfl, hb1⟩
  have HB1 := Lib.hid hb1
  clear hb1
  go_wp2_with fail
  refine (F2 _ ((HM.out.below HB1.out).more HB1.out.size)).mono ?_
  rintro e2 w2 ⟨rfl, hb2⟩
  have HB2 := Lib.hid (below_then HB1.out hb2)
  clear hb2
  have m1 := HK1.out w2 HB2.out
  have m2 := HK2.out w2 HB2.out
  have hown0 := row_none w2
  have hfl := HFL.out
  have hfm := HFM.out
  have hnd0 := NodesAt.cells7 ((HL.out.below HB2.out).below ((Below.refl w.heap.size w2).alloc HB2.out.size (.cells #[] 43)))
  go_wp2_with (at_builtin; first
    | (((refine wpList_append_own _ rfl (.tmp 55) (.tmp 56) 22 rfl (w2.heap.size) 43 i0 ndZero7 8 64 Try.underlying22 HI.out HZ0.out HZ1.out HZ2.out rfl (by decide) _ _ _ rfl hown0 ⟨b, off, none⟩ n _ _ rfl hfl hnd0 (flatD_cell _) (by unfold maxLen; omega) (by omega) (by first | omega | (simp; done) | (simp; omega)) ?_)); intro v5 w5 hown5 hgr5 hnil5
       obtain ⟨A5, c5, rfl⟩ := row_shape hown5
       rw [Nat.zero_add, List.nil_append] at hown5
       have hb5 : Below w2.heap.size w2 w5 := ((Below.refl w2.heap.size w2).alloc (Nat.le_refl _) (.cells #[] 43)).grown hgr5 (by simp) (fun k e => (hown0.lt k e).1)
       have hs5 := hb5.size
       have hnd1 := NodesAt.cells7 ((HM.out.below HB2.out).below (hb5.mono HB2.out.size))
       clear hown0 hnd0 hfl)
    | (((refine wpList_append_own _ rfl (.tmp 57) (.tmp 58) 22 rfl (w2.heap.size) 43 i0 ndZero7 8 64 Try.underlying22 HI.out HZ0.out HZ1.out HZ2.out rfl (by decide) _ _ _ rfl hown5 ⟨b', off', none⟩ n' _ _ rfl hfm hnd1 (flatD_cell _) (by unfold maxLen; omega) (by omega) (by first | omega | (simp; done) | (simp; omega)) ?_)); intro v6 w6 hown6 hgr6 hnil6
       obtain ⟨A6, c6, rfl⟩ := row_shape hown6
       have hb6 : Below w2.heap.size w2 w6 := hb5.grown hgr6 hs5 (fun k e => (hown5.lt k e).1)
       have hs6 := hb6.size
       clear hown5 hnd1 hfm)
    | ((go_must (refine wpList_append_elem _ rfl (.tmp 59) (.tmp 61) 22 rfl (w2.heap.size) 43 i0 ndZero7 8 64 Try.underlying22 HI.out HZ0.out HZ1.out HZ2.out rfl (by decide) _ _ _ _ rfl hown6 #[.int .i64 6, .int .i64 2, .int .i64 0, .int .i64 0, .int .u64 0, .int .u64 0, .int .u64 0, .int .u64 0] _ rfl (by first | rfl | simp) rfl (by simp [Value.oneCell']) (by unfold maxLen; omega) (by omega) (by first | omega | (simp; done) | (simp; omega)) ?_)); intro A7 c7 w7 hown7 hbl7
       have HO7 : Hid (w7.ownsRow w2.heap.size 43 8 (.slice A7 (n + n' + 1) c7) (n + n' + 1) (flatD (L ++ M ++ [ndAlt]))) := Lib.hid (by rw [flatD_append, flatD_append, flatD_alt]; exact hown7)
       have HB7 := Lib.hid (below_then HB2.out (hb6.trans hbl7))
       have HX7 : Hid (w2.heap.size ≤ w7.heap.size) := Lib.hid (hb6.trans hbl7).size
       clear hown6 hown7 hb5 hb6 hs5 hs6 hgr5 hgr6 hnil5 hnil6 hbl7))
  have HNA := Lib.hid (NodesAt.of_row HO7.out HAA.out (by omega))
  clear HO7
  refine (HF3.out A7 c7 _ HNA.out).mono ?_
  rintro e8 w8 ⟨rfl, hb8⟩
  have HB8 := Lib.hid (below_then HB7.out hb8)
  have HX8 := Lib.hid hb8
  clear hb8 HB7 HX7
  go_wp2_with fail
  refine (HS1.out _ ((HL.out.below HB8.out).more HB8.out.size)).mono ?_
  rintro e9 w9 ⟨rfl, hb9⟩
  have HB9 := Lib.hid (below_then HB8.out hb9)
  have HX9 := Lib.hid (below_then HX8.out hb9)
  clear hb9 HB8 HX8 HS1
  go_wp2_with fail
  refine (HS2.out _ ((HM.out.below HB9.out).more HB9.out.size)).mono ?_
  rintro e10 w10 ⟨rfl, hb10⟩
  have HB10 := Lib.hid (below_then HB9.out hb10)
  have HX10 := Lib.hid (below_then HX9.out hb10)
  clear hb10 HB9 HX9 HS2
  go_wp2_with fail
  refine (HS3.out A7 c7 _ ((HNA.out.below HX10.out).more HX10.out.size)).mono ?_
  rintro e11 w11 ⟨rfl, hb11⟩
  have HB11 := Lib.hid (below_then HB10.out hb11)
  have HX11 := Lib.hid (below_then HX10.out hb11)
  clear hb11 HB10 HX10 HS3
  have y1 : IntKind.i64.wrap (a + d) = a + d := IntWalk.i64_in _ (by omega)
  have y2 : IntKind.i64.wrap (a + d + 1) = a + d + 1 := IntWalk.i64_in _ (by omega)
  have y3 : IntKind.i64.wrap (s1 + s2) = s1 + s2 := IntWalk.i64_in _ (by omega)
  obtain ⟨t, ht, ht2, u, hu, q, hq, huq⟩ := hcc
  have hgo : ∀ {X : Prop}, (t = true → (m != a + d + 1) = false → q = false → X) → (t = true → (m != a + d + 1) = false → q = true → u = false → X) → (t = false → X) → X := fun f g k => by
    cases t with
    | false => exact k rfl
    | true =>
      cases q with
      | false => exact f rfl (ht2 rfl) rfl
      | true =>
        cases u with
        | true => exact absurd (huq rfl) (by decide)
        | false => exact g rfl (ht2 rfl) rfl rfl
  clear ht2 huq
  refine hgo ?_ ?_ ?_
  · rintro rfl hmm rfl
    clear hgo
    go_wp2_with fail
    refine (HN1.out _ ((HL.out.below HB11.out).more HB11.out.size)).mono ?_
    rintro e12 w12 ⟨A12, c12, rfl, hown12, hb12⟩
    have HB12 := Lib.hid (below_then HB11.out hb12)
    have HX12 := Lib.hid (below_then HX11.out hb12)
    clear hb12
    go_wp2_with fail
    refine (HN2.out _ ((HM.out.below HB12.out).more HB12.out.size)).mono ?_
    rintro e13 w13 ⟨A13, c13, rfl, hown13, hb13⟩
    have HB13 := Lib.hid (below_then HB12.out hb13)
    have HX13 := Lib.hid (below_then HX12.out hb13)
    have hown12 := row_call hown12 hb13
    clear hb13
    go_wp2_with fail
    refine (HN3.out A7 c7 _ ((HNA.out.below HX13.out).more HX13.out.size)).mono ?_
    rintro e14 w14 ⟨A14, c14, rfl, hown14, hb14⟩
    have HB14 := Lib.hid (below_then HB13.out hb14)
    have hown12 := row_call hown12 hb14
    have hown13 := row_call hown13 hb14
    clear hb14 HB12 HB13 HX12 HX13
    have H12 := Lib.hid hown12
    have H13 := Lib.hid hown13
    have H14 := Lib.hid hown14
    clear hown12 hown13 hown14
    obtain ⟨g12, rfl, _, hg12, hc12, q12⟩ := row_cell H12.out (by omega)
    obtain ⟨g13, rfl, _, hg13, hc13, q13⟩ := row_cell H13.out (by omega)
    obtain ⟨g14, rfl, _, hg14, hc14, q14⟩ := row_cell H14.out (by omega)
    have r12 := q12 r (by omega)
    have r13 := q13 r' (by omega)
    have r14 := q14 (n + n') (by omega)
    rw [List.getElem?_map, nullL_get _ (by omega)] at r12 r13 r14
    have htwo := HTWO.out
    simp only [Option.map_some] at r12 r13 r14
    generalize hv1 : nullAt L r = v1 at r12 htwo
    generalize hv2 : nullAt M r' = v2 at r13 htwo
    rw [htwo] at r14
    clear q12 q13 q14 htwo hv1 hv2
    cases v1 <;> cases v2
    all_goals
        go_wp2_with fail
        go_quiet (fail)
        go_wp2_with fail
        go_loopw [15] (fun i wr => ∃ k : Nat, k ≤ n ∧ i = .int .i64 k ∧ Below w14.heap.size w14 wr) (fun i _ => n - (intOf i).toNat)
        case atStart => exact ⟨0, Nat.zero_le _, rfl, below_drewN (Below.refl _ _) _⟩
        case round =>
          obtain ⟨k, hk, rfl, hX⟩ := hrel
          have HX := Lib.hid hX
          by_cases hlt : k < n
          · obtain ⟨_, ha, _, _, _, q14⟩ := row_cell (row_call H14.out hX) (by omega)
            cases ha
            obtain ⟨_, ha, _, _, _, q12⟩ := row_cell (row_call H12.out hX) (by omega)
            cases ha
            have s14 := q14 k (by omega)
            have s12 := q12 k (by omega)
            rw [List.getElem?_map, nullL_get _ (by omega)] at s12 s14
            rw [HPRE.out k hlt] at s14
            simp only [Option.map_some] at s12 s14
            generalize nullAt L k = v at s12 s14
            clear hX q12 q14 r12 r13 r14
            cases v
            all_goals
              go_wp2_with fail
              go_quiet (fail)
              go_wp2_with fail
              go_roundw
              case rel => exact ⟨k + 1, by omega, by go_num, below_drewN HX.out _⟩
              case measure => simp [intOf]; omega
          · have HB15 := Lib.hid (HB14.out.trans (hX.mono HB14.out.size))
            clear hX
            go_wp2_with fail
            refine (sure11_any _).mono ?_
            rintro e20 w20 ⟨rfl, hb20⟩
            have HB20 := below_then HB15.out hb20
            go_wp2
            go_ret
            exact ⟨rfl, HB20⟩
  · rintro rfl hmm rfl rfl
    clear hgo
    go_wp2_with fail
    refine (HN1.out _ ((HL.out.below HB11.out).more HB11.out.size)).mono ?_
    rintro e12 w12 ⟨A12, c12, rfl, hown12, hb12⟩
    have HB12 := Lib.hid (below_then HB11.out hb12)
    have HX12 := Lib.hid (below_then HX11.out hb12)
    clear hb12
    go_wp2_with fail
    refine (HN2.out _ ((HM.out.below HB12.out).more HB12.out.size)).mono ?_
    rintro e13 w13 ⟨A13, c13, rfl, hown13, hb13⟩
    have HB13 := Lib.hid (below_then HB12.out hb13)
    have HX13 := Lib.hid (below_then HX12.out hb13)
    have hown12 := row_call hown12 hb13
    clear hb13
    go_wp2_with fail
    refine (HN3.out A7 c7 _ ((HNA.out.below HX13.out).more HX13.out.size)).mono ?_
    rintro e14 w14 ⟨A14, c14, rfl, hown14, hb14⟩
    have HB14 := Lib.hid (below_then HB13.out hb14)
    have hown12 := row_call hown12 hb14
    have hown13 := row_call hown13 hb14
    clear hb14 HB12 HB13 HX12 HX13
    have H12 := Lib.hid hown12
    have H13 := Lib.hid hown13
    have H14 := Lib.hid hown14
    clear hown12 hown13 hown14
    obtain ⟨g12, rfl, _, hg12, hc12, q12⟩ := row_cell H12.out (by omega)
    obtain ⟨g13, rfl, _, hg13, hc13, q13⟩ := row_cell H13.out (by omega)
    obtain ⟨g14, rfl, _, hg14, hc14, q14⟩ := row_cell H14.out (by omega)
    have r12 := q12 r (by omega)
    have r13 := q13 r' (by omega)
    have r14 := q14 (n + n') (by omega)
    rw [List.getElem?_map, nullL_get _ (by omega)] at r12 r13 r14
    have htwo := HTWO.out
    simp only [Option.map_some] at r12 r13 r14
    generalize hv1 : nullAt L r = v1 at r12 htwo
    generalize hv2 : nullAt M r' = v2 at r13 htwo
    rw [htwo] at r14
    clear q12 q13 q14 htwo hv1 hv2
    cases v1 <;> cases v2
    all_goals
        go_wp2_with fail
        go_quiet (fail)
        go_wp2_with fail
        go_loopw [15] (fun i wr => ∃ k : Nat, k ≤ n ∧ i = .int .i64 k ∧ Below w14.heap.size w14 wr) (fun i _ => n - (intOf i).toNat)
        case atStart => exact ⟨0, Nat.zero_le _, rfl, below_drewN (Below.refl _ _) _⟩
        case round =>
          obtain ⟨k, hk, rfl, hX⟩ := hrel
          have HX := Lib.hid hX
          by_cases hlt : k < n
          · obtain ⟨_, ha, _, _, _, q14⟩ := row_cell (row_call H14.out hX) (by omega)
            cases ha
            obtain ⟨_, ha, _, _, _, q12⟩ := row_cell (row_call H12.out hX) (by omega)
            cases ha
            have s14 := q14 k (by omega)
            have s12 := q12 k (by omega)
            rw [List.getElem?_map, nullL_get _ (by omega)] at s12 s14
            rw [HPRE.out k hlt] at s14
            simp only [Option.map_some] at s12 s14
            generalize nullAt L k = v at s12 s14
            clear hX q12 q14 r12 r13 r14
            cases v
            all_goals
              go_wp2_with fail
              go_quiet (fail)
              go_wp2_with fail
              go_roundw
              case rel => exact ⟨k + 1, by omega, by go_num, below_drewN HX.out _⟩
              case measure => simp [intOf]; omega
          · have HB15 := Lib.hid (HB14.out.trans (hX.mono HB14.out.size))
            clear hX
            go_wp2_with fail
            refine (sure11_any _).mono ?_
            rintro e20 w20 ⟨rfl, hb20⟩
            have HB20 := below_then HB15.out hb20
            go_wp2
            go_ret
            exact ⟨rfl, HB20⟩
  · rintro rfl
    clear hgo
    go_wp2_with fail
    refine (HN1.out _ ((HL.out.below HB11.out).more HB11.out.size)).mono ?_
    rintro e12 w12 ⟨A12, c12, rfl, hown12, hb12⟩
    have HB12 := Lib.hid (below_then HB11.out hb12)
    have HX12 := Lib.hid (below_then HX11.out hb12)
    clear hb12
    go_wp2_with fail
    refine (HN2.out _ ((HM.out.below HB12.out).more HB12.out.size)).mono ?_
    rintro e13 w13 ⟨A13, c13, rfl, hown13, hb13⟩
    have HB13 := Lib.hid (below_then HB12.out hb13)
    have HX13 := Lib.hid (below_then HX12.out hb13)
    have hown12 := row_call hown12 hb13
    clear hb13
    go_wp2_with fail
    refine (HN3.out A7 c7 _ ((HNA.out.below HX13.out).more HX13.out.size)).mono ?_
    rintro e14 w14 ⟨A14, c14, rfl, hown14, hb14⟩
    have HB14 := Lib.hid (below_then HB13.out hb14)
    have hown12 := row_call hown12 hb14
    have hown13 := row_call hown13 hb14
    clear hb14 HB12 HB13 HX12 HX13
    have H12 := Lib.hid hown12
    have H13 := Lib.hid hown13
    have H14 := Lib.hid hown14
    clear hown12 hown13 hown14
    obtain ⟨g12, rfl, _, hg12, hc12, q12⟩ := row_cell H12.out (by omega)
    obtain ⟨g13, rfl, _, hg13, hc13, q13⟩ := row_cell H13.out (by omega)
    obtain ⟨g14, rfl, _, hg14, hc14, q14⟩ := row_cell H14.out (by omega)
    have r12 := q12 r (by omega)
    have r13 := q13 r' (by omega)
    have r14 := q14 (n + n') (by omega)
    rw [List.getElem?_map, nullL_get _ (by omega)] at r12 r13 r14
    have htwo := HTWO.out
    simp only [Option.map_some] at r12 r13 r14
    generalize hv1 : nullAt L r = v1 at r12 htwo
    generalize hv2 : nullAt M r' = v2 at r13 htwo
    rw [htwo] at r14
    clear q12 q13 q14 htwo hv1 hv2
    cases v1 <;> cases v2
    all_goals
        go_wp2_with fail
        go_quiet (fail)
        go_wp2_with fail
        go_loopw [15] (fun i wr => ∃ k : Nat, k ≤ n ∧ i = .int .i64 k ∧ Below w14.heap.size w14 wr) (fun i _ => n - (intOf i).toNat)
        case atStart => exact ⟨0, Nat.zero_le _, rfl, below_drewN (Below.refl _ _) _⟩
        case round =>
          obtain ⟨k, hk, rfl, hX⟩ := hrel
          have HX := Lib.hid hX
          by_cases hlt : k < n
          · obtain ⟨_, ha, _, _, _, q14⟩ := row_cell (row_call H14.out hX) (by omega)
            cases ha
            obtain ⟨_, ha, _, _, _, q12⟩ := row_cell (row_call H12.out hX) (by omega)
            cases ha
            have s14 := q14 k (by omega)
            have s12 := q12 k (by omega)
            rw [List.getElem?_map, nullL_get _ (by omega)] at s12 s14
            rw [HPRE.out k hlt] at s14
            simp only [Option.map_some] at s12 s14
            generalize nullAt L k = v at s12 s14
            clear hX q12 q14 r12 r13 r14
            cases v
            all_goals
              go_wp2_with fail
              go_quiet (fail)
              go_wp2_with fail
              go_roundw
              case rel => exact ⟨k + 1, by omega, by go_num, below_drewN HX.out _⟩
              case measure => simp [intOf]; omega
          · have HB15 := Lib.hid (HB14.out.trans (hX.mono HB14.out.size))
            clear hX
            go_wp2_with fail
            refine (sure11_any _).mono ?_
            rintro e20 w20 ⟨rfl, hb20⟩
            have HB20 := below_then HB15.out hb20
            go_wp2
            go_ret
            exact ⟨rfl, HB20⟩
end Go.Proofs.Ytddokdjlmdoebaa
