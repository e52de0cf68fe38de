/- PrintParts, walked. -/
import Derived.Test.YtfcgmgpcbenfpaaGreatProg
import Derived.WalkKit
import Derived.WalkSpells
import Derived.WalkLawsBesides
import Derived.Handy
import Derived.Lib.Hide
import Derived.Test.YtfcgmgpcbenfpaaGreatMPrt
import Derived.Test.YtfcgmgpcbenfpaaGreatAppN
import Derived.Deep.QuietTactic
import Derived.BigQuiet
set_option linter.unusedVariables false
set_option linter.unusedSimpArgs false
namespace Go.Proofs.YtfcgmgpcbenfpaaGreat
open Go.RowKit SetP BrkP LexP AstP ParP
theorem groups_two {L M : List Nd} : groupsF (L ++ M) (L.length + M.length) = groupsF L L.length + groupsF M M.length := by
  have := mid_groups (L := L) (M := M) (Y := []) (k := M.length) (Nat.le_refl _)
  rwa [List.append_nil] at this
theorem str_par (T : List UInt8) : (⟨(40 :: (T ++ [41])).toArray⟩ : ByteArray) = (⟨#[40]⟩ : ByteArray) ++ ⟨T.toArray⟩ ++ ⟨#[41]⟩ := bytes_ext (by simp [ByteArray.data_append])
theorem str_bar (T U : List UInt8) : (⟨(T ++ 124 :: U).toArray⟩ : ByteArray) = (⟨T.toArray⟩ : ByteArray) ++ (⟨#[124]⟩ : ByteArray) ++ ⟨U.toArray⟩ := bytes_ext (by simp [ByteArray.data_append])
set_option maxRecDepth 100000 in
set_option maxHeartbeats 20000000 in
theorem parts9_any (A A' : Option Addr) (c c' n n' : Nat) (w : World) (h : Came w A n) (h' : Came w A' n') :
    Calls Tryz.prog 8 #[.slice A n c, .slice A' n' c'] w fun e w' => e = .returned (.bool true) ∧ Below w.heap.size w w' := by
  by_cases hn : n ≤ 40
  case neg =>
    have hd : decide (40 < (n : Int)) = true := decide_eq_true (by omega)
    clear h h'
    go_enter Tryz.func8, Tryz.ntmps8
    go_wp2_with fail
    refine (sure9_any _).mono ?_
    rintro e1 w1 ⟨rfl, hb1⟩
    go_wp2
    go_ret
    exact ⟨rfl, hb1⟩
  have hd : decide (40 < (n : Int)) = false := decide_eq_false (by omega)
  by_cases hn' : n' ≤ 40
  case neg =>
    have hd' : decide (40 < (n' : Int)) = true := decide_eq_true (by omega)
    clear h h'
    go_enter Tryz.func8, Tryz.ntmps8
    go_wp2_with fail
    refine (sure9_any _).mono ?_
    rintro e1 w1 ⟨rfl, hb1⟩
    go_wp2
    go_ret
    exact ⟨rfl, hb1⟩
  have hd' : decide (40 < (n' : Int)) = false := decide_eq_false (by omega)
  obtain ⟨L, hl, hL⟩ := h (by omega)
  obtain ⟨M, hm, hM⟩ := h' (by omega)
  have HL := Lib.hid hL
  have HM := Lib.hid hM
  have F1 := fun (w : World) (h : NodesAt w w.heap.size A L) => rright6_any A c L w h
  have F2 := fun (w : World) (h : NodesAt w w.heap.size A' M) => rright6_any A' c' M w h
  rw [hl] at F1
  rw [hm] at F2
  cases hRL : rightF L with
  | false =>
    rw [hRL] at F1
    clear h h' hL hM hl hm hRL F2
    go_enter Tryz.func8, Tryz.ntmps8
    go_wp2_with fail
    refine (F1 _ HL.out).mono ?_
    rintro e1 w1 ⟨rfl, hb1⟩
    have HB1 := Lib.hid hb1
    clear hb1
    go_wp2_with fail
    refine (sure9_any _).mono ?_
    rintro e2 w2 ⟨rfl, hb2⟩
    have HB2 := below_then HB1.out hb2
    go_wp2
    go_ret
    exact ⟨rfl, HB2⟩
  | true =>
  rw [hRL] at F1
  cases hRM : rightF M with
  | false =>
    rw [hRM] at F2
    clear h h' hL hM hl hm hRL hRM
    go_enter Tryz.func8, Tryz.ntmps8
    go_wp2_with fail
    refine (F1 _ HL.out).mono ?_
    rintro e1 w1 ⟨rfl, hb1⟩
    have HB1 := Lib.hid hb1
    clear hb1
    go_wp2_with fail
    refine (F2 _ ((HM.out.below HB1.out).more HB1.out.size)).mono ?_
    rintro e2 w2 ⟨rfl, hb2⟩
    have HB2 := Lib.hid (below_then HB1.out hb2)
    clear hb2
    go_wp2_with fail
    refine (sure9_any _).mono ?_
    rintro e3 w3 ⟨rfl, hb3⟩
    have HB3 := below_then HB2.out hb3
    go_wp2
    go_ret
    exact ⟨rfl, HB3⟩
  | true =>
  rw [hRM] at F2
  obtain ⟨hF, _, hg9⟩ := right_parts hRL
  obtain ⟨hFM, _, hh9⟩ := right_parts hRM
  have hrL := (root_size hF).1
  have hrM := (root_size hFM).1
  rw [hl] at hrL
  rw [hm] at hrM
  obtain ⟨r, hr⟩ : ∃ r, n = r + 1 := ⟨n - 1, by omega⟩
  obtain ⟨r', hr'⟩ : ∃ r, n' = r + 1 := ⟨n' - 1, by omega⟩
  have x1 : (n : Int) - 1 = (r : Int) := by omega
  have x2 : (n' : Int) - 1 = (r' : Int) := by omega
  have hrn : r < n := by omega
  have hrn' : r' < n' := by omega
  obtain ⟨b, off, rfl, hbl, _⟩ := hL.node (k := r) (by omega)
  obtain ⟨b', off', rfl, hbl', _⟩ := hM.node (k := r') (by omega)
  have P1 := fun w hN => prprint_any (some ⟨b, off, none⟩) c L (by omega) (fun h => Nat.le_trans (text_bd h (by omega) _ (by omega)) (by decide)) w hN
  have P2 := fun w hN => prprint_any (some ⟨b', off', none⟩) c' M (by omega) (fun h => Nat.le_trans (text_bd h (by omega) _ (by omega)) (by decide)) w hN
  rw [hRL, if_pos rfl, hl] at P1
  rw [hRM, if_pos rfl, hm] at P2
  have e1 : n - 1 = r := by omega
  have e2 : n' - 1 = r' := by omega
  have hTG := text_group hF
  have hTT := text_two hF hFM
  rw [hl, e1] at hTG
  rw [hl, hm, e1, e2] at hTT
  rw [e1] at P1
  rw [e2] at P2
  obtain ⟨S, hS⟩ : ∃ S, textAt L r = S := ⟨_, rfl⟩
  obtain ⟨T, hT⟩ : ∃ T, textAt M r' = T := ⟨_, rfl⟩
  rw [hS] at P1 hTG hTT
  rw [hT] at P2 hTT
  have hsb : (⟨S.toArray⟩ : ByteArray).size ≤ 150000 := by
    have := text_bd hRL (by omega) r (by omega)
    rw [hS] at this
    show S.toArray.size ≤ _; simp; omega
  have htb : (⟨T.toArray⟩ : ByteArray).size ≤ 150000 := by
    have := text_bd hRM (by omega) r' (by omega)
    rw [hT] at this
    show T.toArray.size ≤ _; simp; omega
  have P3 := fun (hq : groupsF L n < 9) (A : Option Addr) (c : Nat) w hN => prprint_any A c (L ++ [ndGroup]) (by simp; omega) (fun h => Nat.le_trans (text_bd h (by simp; omega) _ (by simp)) (by decide)) w hN
  have hr3 : groupsF L n < 9 → rightF (L ++ [ndGroup]) = true := fun hq => by rw [right_group hRL, hl]; exact decide_eq_true hq
  have P4 := fun (A : Option Addr) (c : Nat) w hN => prprint_any A c (L ++ M ++ [ndAlt]) (by simp; omega) (fun h => Nat.le_trans (text_bd h (by simp; omega) _ (by simp)) (by decide)) w hN
  have hr4 : kindAt L r ≠ 6 → kindAt M r' ≠ 6 → groupsF L n + groupsF M n' < 9 → rightF (L ++ M ++ [ndAlt]) = true := fun h1 h2 hq => by
    rw [right_two hRL hRM, hl, hm, e1, e2, bne_iff_ne.2 h1, bne_iff_ne.2 h2]
    exact decide_eq_true (by omega)
  have hgl : (L ++ [ndGroup]).length = n + 1 := by rw [List.length_append, hl]; rfl
  have hall : (L ++ M).length = n + n' := by rw [List.length_append, hl, hm]
  have hal : (L ++ M ++ [ndAlt]).length = n + n' + 1 := by rw [List.length_append, hall]; rfl
  have hGG := groups_two (L := L) (M := M)
  rw [hl, hm] at hGG
  rw [hgl, Nat.add_sub_cancel, hTG, str_par] at P3
  rw [hal, Nat.add_sub_cancel, hTT, str_bar] at P4
  generalize (⟨S.toArray⟩ : ByteArray) = SB at *
  generalize (⟨T.toArray⟩ : ByteArray) = TB at *
  have HLN := Lib.hid hl
  have HMN := Lib.hid hm
  have HR3 := Lib.hid hr3
  have HR4 := Lib.hid hr4
  have HGL := Lib.hid hgl
  have HAL := Lib.hid hall
  have HAA := Lib.hid hal
  have HGG := Lib.hid hGG
  obtain ⟨i0, hi, hz0, hz1, hz2⟩ := info_parts info_node7
  have HI := Lib.hid hi; clear hi
  have HZ0 := Lib.hid hz0; clear hz0
  have HZ1 := Lib.hid hz1; clear hz1
  have HZ2 := Lib.hid hz2; clear hz2
  clear h h' hL hM hl hm hRL hRM hF hFM hr hr' hg9 hh9 hTG hTT hS hT hr3 hr4 hgl hall hal hGG e1 e2
  go_enter Tryz.func8, Tryz.ntmps8
  go_wp2_with fail
  refine (F1 _ HL.out).mono ?_
  rintro e1 w1 ⟨rfl, hb1⟩
  have HB1 := Lib.hid hb1
  clear hb1 F1
  go_wp2_with fail
  refine (F2 _ ((HM.out.below HB1.out).more HB1.out.size)).mono ?_
  rintro e2 w2 ⟨rfl, hb2⟩
  have HB2 := Lib.hid (below_then HB1.out hb2)
  clear hb2 HB1 F2
  go_wp2_with fail
  refine (P1 _ ((HL.out.below HB2.out).more HB2.out.size)).mono ?_
  rintro e3 w3 ⟨rfl, hb3⟩
  have HB3 := Lib.hid (below_then HB2.out hb3)
  clear hb3 HB2 P1
  go_wp2_with fail
  refine (P2 _ ((HM.out.below HB3.out).more HB3.out.size)).mono ?_
  rintro e4 w4 ⟨rfl, hb4⟩
  have HB4 := Lib.hid (below_then HB3.out hb4)
  clear hb4 HB3 P2
  have hown0 := row_none w4
  have hfl : (flatD L).length = n * 8 := by rw [show (flatD L).length = L.length * 8 from flatD_length7 L, HLN.out]
  have hnd0 := NodesAt.cells7 ((HL.out.below HB4.out).below ((Below.refl w.heap.size w4).alloc HB4.out.size (.cells #[] 51)))
  have hfm : (flatD M).length = n' * 8 := by rw [show (flatD M).length = M.length * 8 from flatD_length7 M, HMN.out]
  go_wp2_with (at_builtin; first
    | (((refine wpList_append_own _ rfl (.tmp 45) (.tmp 46) 28 rfl (w4.heap.size) 51 i0 ndZero7 8 64 Tryz.underlying28 HI.out HZ0.out HZ1.out HZ2.out rfl (by decide) _ _ _ rfl hown0 ⟨b, off, none⟩ n _ _ rfl hfl hnd0 (flatD_cell _) (by unfold maxLen; omega) (by omega) (by first | omega | (simp; done) | (simp; omega)) ?_)); intro v5 w5 hown5 hgr5 hnil5
       obtain ⟨A5, c5, rfl⟩ := row_shape hown5
       rw [Nat.zero_add, List.nil_append] at hown5
       have hb5 : Below w4.heap.size w4 w5 := ((Below.refl w4.heap.size w4).alloc (Nat.le_refl _) (.cells #[] 51)).grown hgr5 (by simp) (fun k e => (hown0.lt k e).1)
       have hs5 := hb5.size
       have hnd1 := NodesAt.cells7 ((HM.out.below HB4.out).below (hb5.mono HB4.out.size))
       clear hown0 hnd0 hfl)
    | (((refine wpList_append_own _ rfl (.tmp 47) (.tmp 48) 28 rfl (w4.heap.size) 51 i0 ndZero7 8 64 Tryz.underlying28 HI.out HZ0.out HZ1.out HZ2.out rfl (by decide) _ _ _ rfl hown5 ⟨b', off', none⟩ n' _ _ rfl hfm hnd1 (flatD_cell _) (by unfold maxLen; omega) (by omega) (by first | omega | (simp; done) | (simp; omega)) ?_)); intro v6 w6 hown6 hgr6 hnil6
       obtain ⟨A6, c6, rfl⟩ := row_shape hown6
       have hb6 : Below w4.heap.size w4 w6 := hb5.grown hgr6 hs5 (fun k e => (hown5.lt k e).1)
       have hs6 := hb6.size
       clear hown5 hnd1 hfm))
  have hown6' : w6.ownsRow w4.heap.size 51 8 (.slice A6 (n + n') c6) (n + n') (flatD (L ++ M)) := by rw [flatD_append]; exact hown6
  have HALL := Lib.hid (NodesAt.of_row hown6' HAL.out (by omega))
  have HB6 := Lib.hid (below_then HB4.out hb6)
  obtain ⟨b6, off6, rfl, hbl6, _⟩ := HALL.out.node (k := 0) (by rw [HAL.out]; omega)
  have hkk : ∀ wr, Below w6.heap.size w6 wr → ∀ i, i < n + n' → wr.cell? ⟨b6, off6 + i * 8, none⟩ = some (.int .i64 (kindAt (L ++ M) i)) := fun wr hb i hi => NodesAt.kind (HALL.out.below hb) (by rw [HAL.out]; exact hi) rfl
  have HKK := Lib.hid hkk
  have hgb := groupsF_le (L ++ M)
  have HGB := Lib.hid hgb
  have hk1 : ∀ wr, Below w.heap.size w wr → wr.cell? ⟨b, off + r * 8, none⟩ = some (.int .i64 (kindAt L r)) := fun wr hb => NodesAt.kind (HL.out.below hb) (by rw [HLN.out]; exact hrn) rfl
  have hk2 : ∀ wr, Below w.heap.size w wr → wr.cell? ⟨b', off' + r' * 8, none⟩ = some (.int .i64 (kindAt M r')) := fun wr hb => NodesAt.kind (HM.out.below hb) (by rw [HMN.out]; exact hrn') rfl
  have HK1 := Lib.hid hk1
  have HK2 := Lib.hid hk2
  clear hown6 hown6' hb6 hb5 hgr5 hgr6 hnil5 hnil6 hs5 hs6 HB4 hkk hgb hk1 hk2
  go_wp2_with fail
  go_loopw [9, 11] (fun gr i wr => ∃ k : Nat, k ≤ n + n' ∧ i = .int .i64 k ∧ gr = .int .i64 ((groupsF (L ++ M) k : Nat) : Int) ∧ Below w6.heap.size w6 wr) (fun _ i _ => n + n' - (intOf i).toNat)
  case atStart => exact ⟨0, Nat.zero_le _, rfl, rfl, Below.refl _ _⟩
  case round =>
    obtain ⟨k, hk, rfl, rfl, hB⟩ := hrel
    have HB := Lib.hid hB; clear hB
    by_cases hlt : k < n + n'
    · have n0 := HKK.out wr HB.out k hlt
      have hgs : groupsF (L ++ M) (k + 1) = if (kindAt (L ++ M) k == 3) then groupsF (L ++ M) k + 1 else groupsF (L ++ M) k := rfl
      have hgl := HGB.out k
      obtain ⟨G, hG⟩ : ∃ G, groupsF (L ++ M) k = G := ⟨_, rfl⟩
      rw [hG] at hgs hgl ⊢
      clear hG
      generalize kindAt (L ++ M) k = kd at *
      cases hg : (kd == 3) with
      | true =>
        rw [hg] at hgs
        have HG1 : Hid (groupsF (L ++ M) (k + 1) = G + 1) := Lib.hid hgs
        clear hgs
        go_wp2
        go_roundw
        case rel => exact ⟨k + 1, by omega, by go_num, by rw [HG1.out]; go_num, HB.out⟩
        case measure => simp [intOf]; omega
      | false =>
        rw [hg] at hgs
        have HG1 : Hid (groupsF (L ++ M) (k + 1) = G) := Lib.hid hgs
        clear hgs
        go_wp2
        go_roundw
        case rel => exact ⟨k + 1, by omega, by go_num, by rw [HG1.out], HB.out⟩
        case measure => simp [intOf]; omega
    · obtain rfl : k = n + n' := by omega
      have hGG := HGG.out
      have hr3 := HR3.out
      have hr4 := HR4.out
      have hgl := HGB.out (n + n')
      clear HGG HR3 HR4 HGB HKK hlt
      obtain ⟨G, hG⟩ : ∃ G, groupsF (L ++ M) (n + n') = G := ⟨_, rfl⟩
      rw [hG] at hGG hgl ⊢
      clear hG
      have HBW := Lib.hid (HB6.out.trans (HB.out.mono HB6.out.size))
      by_cases h8 : 8 < (G : Int)
      · have d8 : decide (8 < (G : Int)) = true := decide_eq_true h8
        clear hGG hr3 hr4 P3 P4
        go_wp2_with fail
        refine (sure9_any _).mono ?_
        rintro e9 w9 ⟨rfl, hb9⟩
        have HB9 := below_then HBW.out hb9
        go_wp2
        go_ret
        exact ⟨rfl, HB9⟩
      have d8 : decide (8 < (G : Int)) = false := decide_eq_false h8
      have P3b := P3 (by omega)
      rw [hr3 (by omega)] at P3b
      simp only [if_true] at P3b
      have hq4 : groupsF L n + groupsF M n' < 9 := by omega
      have hr4' := fun h1 h2 => hr4 h1 h2 hq4
      have HR4 := Lib.hid hr4'
      clear hGG hr3 hr4 hr4' hq4 P3 h8
      have hown0 := row_none wr
      have hfl : (flatD L).length = n * 8 := by rw [show (flatD L).length = L.length * 8 from flatD_length7 L, HLN.out]
      have hnd0 := NodesAt.cells7 ((HL.out.below HBW.out).below ((Below.refl w.heap.size wr).alloc HBW.out.size (.cells #[] 51)))
      go_wp2_with (at_builtin; first
        | (((refine wpList_append_own _ rfl (.tmp 84) (.tmp 85) 28 rfl (wr.heap.size) 51 i0 ndZero7 8 64 Tryz.underlying28 HI.out HZ0.out HZ1.out HZ2.out rfl (by decide) _ _ _ rfl hown0 ⟨b, off, none⟩ n _ _ rfl hfl hnd0 (flatD_cell _) (by unfold maxLen; omega) (by omega) (by first | omega | (simp; done) | (simp; omega)) ?_)); intro v7 w7 hown7 hgr7 hnil7
           obtain ⟨A7, c7, rfl⟩ := row_shape hown7
           rw [Nat.zero_add, List.nil_append] at hown7
           have hb7 : Below wr.heap.size wr w7 := ((Below.refl wr.heap.size wr).alloc (Nat.le_refl _) (.cells #[] 51)).grown hgr7 (by simp) (fun k e => (hown0.lt k e).1)
           have hs7 := hb7.size
           clear hown0 hnd0 hfl)
        | ((go_must (refine wpList_append_elem _ rfl (.tmp 86) (.tmp 88) 28 rfl (wr.heap.size) 51 i0 ndZero7 8 64 Tryz.underlying28 HI.out HZ0.out HZ1.out HZ2.out rfl (by decide) _ _ _ _ rfl hown7 #[.int .i64 3, .int .i64 1, .int .i64 0, .int .i64 0, .int .u64 0, .int .u64 0, .int .u64 0, .int .u64 0] _ rfl (by first | rfl | simp) rfl (by simp [Value.oneCell']) (by unfold maxLen; omega) (by omega) (by first | omega | (simp; done) | (simp; omega)) ?_)); intro A8 c8 w8 hown8 hbl8
           have HO8 : Hid (w8.ownsRow wr.heap.size 51 8 (.slice A8 (n + 1) c8) (n + 1) (flatD (L ++ [ndGroup]))) := Lib.hid (by rw [flatD_append, flatD_group]; exact hown8)
           have HB8 := Lib.hid (HBW.out.trans ((hb7.trans hbl8).mono HBW.out.size))
           have HX8 := Lib.hid (HB.out.trans ((hb7.trans hbl8).mono HB.out.size))
           clear hown7 hown8 hb7 hs7 hgr7 hnil7 hbl8))
      refine (P3b A8 c8 _ (NodesAt.of_row HO8.out HGL.out (by omega))).mono ?_
      rintro e9 w9 ⟨rfl, hb9⟩
      have HB9 := Lib.hid (below_then HB8.out hb9)
      have HX9 := Lib.hid (HX8.out.trans (hb9.mono HX8.out.size))
      clear hb9 HO8 HB8 HX8 P3b
      have m1 := HK1.out w9 HB9.out
      have m2 := HK2.out w9 HB9.out
      have s1 : ∀ X : ByteArray, (X.toList == X.toList) = true := fun X => beq_self_eq_true _
      have s2 : ∀ X : ByteArray, (X.toList != X.toList) = false := fun X => by simp
      have s3 := s1 ((⟨#[40]⟩ : ByteArray) ++ SB ++ ⟨#[41]⟩)
      have s4 := s1 (SB ++ (⟨#[124]⟩ : ByteArray) ++ TB)
      have hr4 := HR4.out
      generalize kindAt L r = kd at *
      generalize kindAt M r' = kd' at *
      clear HR4
      have HR4 := Lib.hid hr4
      clear hr4 s1 s2
      by_cases k1 : kd = 6
      · have q1 : (kd == 6) = true := by rw [k1]; rfl
        clear P4 HR4 k1
        go_wp2_with fail
        refine (sure9_any _).mono ?_
        rintro e10 w10 ⟨rfl, hb10⟩
        have HB10 := below_then HB9.out hb10
        go_wp2
        go_ret
        exact ⟨rfl, HB10⟩
      have q1 : (kd == 6) = false := beq_eq_false_iff_ne.2 k1
      by_cases k2 : kd' = 6
      · have q2 : (kd' == 6) = true := by rw [k2]; rfl
        clear P4 HR4 k1 k2
        go_wp2_with fail
        refine (sure9_any _).mono ?_
        rintro e10 w10 ⟨rfl, hb10⟩
        have HB10 := below_then HB9.out hb10
        go_wp2
        go_ret
        exact ⟨rfl, HB10⟩
      have q2 : (kd' == 6) = false := beq_eq_false_iff_ne.2 k2
      rw [HR4.out k1 k2] at P4
      simp only [if_true] at P4
      clear HR4 k1 k2
      have hown0 := row_none w9
      have hfl : (flatD (L ++ M)).length = (n + n') * 8 := by rw [show (flatD (L ++ M)).length = (L ++ M).length * 8 from flatD_length7 (L ++ M), HAL.out]
      have hnd0 := NodesAt.cells7 ((HALL.out.below HX9.out).below ((Below.refl w6.heap.size w9).alloc HX9.out.size (.cells #[] 51)))
      go_wp2_with (at_builtin; first
        | (((refine wpList_append_own _ rfl (.tmp 122) (.tmp 123) 28 rfl (w9.heap.size) 51 i0 ndZero7 8 64 Tryz.underlying28 HI.out HZ0.out HZ1.out HZ2.out rfl (by decide) _ _ _ rfl hown0 ⟨b6, off6, none⟩ (n + n') _ _ rfl hfl hnd0 (flatD_cell _) (by unfold maxLen; omega) (by omega) (by first | omega | (simp; done) | (simp; omega)) ?_)); intro v10 w10 hown10 hgr10 hnil10
           obtain ⟨A10, c10, rfl⟩ := row_shape hown10
           rw [Nat.zero_add, List.nil_append] at hown10
           have hb10 : Below w9.heap.size w9 w10 := ((Below.refl w9.heap.size w9).alloc (Nat.le_refl _) (.cells #[] 51)).grown hgr10 (by simp) (fun k e => (hown0.lt k e).1)
           have hs10 := hb10.size
           clear hown0 hnd0 hfl)
        | ((go_must (refine wpList_append_elem _ rfl (.tmp 124) (.tmp 126) 28 rfl (w9.heap.size) 51 i0 ndZero7 8 64 Tryz.underlying28 HI.out HZ0.out HZ1.out HZ2.out rfl (by decide) _ _ _ _ rfl hown10 #[.int .i64 6, .int .i64 2, .int .i64 0, .int .i64 0, .int .u64 0, .int .u64 0, .int .u64 0, .int .u64 0] _ rfl (by first | rfl | simp) rfl (by simp [Value.oneCell']) (by unfold maxLen; omega) (by omega) (by first | omega | (simp; done) | (simp; omega)) ?_)); intro A11 c11 w11 hown11 hbl11
           have HO11 : Hid (w11.ownsRow w9.heap.size 51 8 (.slice A11 (n + n' + 1) c11) (n + n' + 1) (flatD (L ++ M ++ [ndAlt]))) := Lib.hid (by rw [flatD_append, flatD_alt]; exact hown11)
           have HB11 := Lib.hid (HB9.out.trans ((hb10.trans hbl11).mono HB9.out.size))
           clear hown10 hown11 hb10 hs10 hgr10 hnil10 hbl11))
      refine (P4 A11 c11 _ (NodesAt.of_row HO11.out HAA.out (by omega))).mono ?_
      rintro e12 w12 ⟨rfl, hb12⟩
      have HB12 := Lib.hid (below_then HB11.out hb12)
      clear hb12 HO11 HB11 P4
      go_wp2_with fail
      refine (sure9_any _).mono ?_
      rintro e13 w13 ⟨rfl, hb13⟩
      have HB13 := below_then HB12.out hb13
      go_wp2
      go_ret
      exact ⟨rfl, HB13⟩
end Go.Proofs.YtfcgmgpcbenfpaaGreat
