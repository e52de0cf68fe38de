/- Walks of gimletref11: which nodes may be nothing. -/
import Derived.Test.YtddokdjlmdoebaaProg
import Derived.WalkKit
import Derived.WalkSpells
import Derived.WalkLawsBesides
import Derived.Handy
import Derived.Lib.Hide
import Derived.Test.YtddokdjlmdoebaaMLoA
import Derived.Test.YtddokdjlmdoebaaMAsd
import Derived.Test.YtddokdjlmdoebaaMLoD
import Derived.Deep.QuietTactic
import Derived.Lib.QuietBelow
import Derived.BigQuiet
set_option linter.unusedVariables false
set_option linter.unusedSimpArgs false
namespace Go.Proofs.Ytddokdjlmdoebaa
open Go.RowKit SetP AstP LowP ParP
set_option maxRecDepth 100000 in
set_option maxHeartbeats 2000000 in
theorem rnull_any (A : Option Addr) (c : Nat) (L : List Nd) (w : World) (hL : NodesAt w w.heap.size A L) :
    Calls Try.prog 19 #[.slice A L.length c] w (RetRow 4 1 (nullF L).length ((nullF L).map Value.bool) w) := by
  have hlen := hL.1
  have CR := rright6_any A c L w hL
  have HL := Lib.hid hL; clear hL
  cases hr : rightF L with
  | false =>
    rw [hr] at CR
    have e : nullF L = [] := by unfold nullF; rw [hr]; rfl
    rw [e]
    go_enter Try.func19, Try.ntmps19
    go_wp2_with fail
    refine CR.mono ?_
    rintro e1 w1 ⟨rfl, hb1⟩
    go_wp2
    go_ret
    exact ⟨none, 0, rfl, World.ownsRow_nil _ _ _ _, hb1⟩
  | true =>
  rw [hr] at CR
  obtain ⟨hF, hok, _⟩ := right_parts hr
  have e : nullF L = nullL L L.length := by unfold nullF; rw [hr]; rfl
  rw [e, nullL_length]
  obtain ⟨N, hN⟩ : ∃ N, L.length = N := ⟨_, rfl⟩
  rw [hN] at hlen CR ⊢
  have HN := Lib.hid hN
  have HF := Lib.hid hF
  have HOK := Lib.hid hok
  clear hN hF hok hr e
  go_enter Try.func19, Try.ntmps19
  go_wp2_with fail
  refine CR.mono ?_
  rintro e1 w1 ⟨rfl, hb1⟩
  have HB1 := Lib.hid hb1; clear hb1 CR
  have hmake := make_bool N hlen
  have o1 : Slab (w1.alloc (.cells (boolsA (List.replicate N false)) 4)) w1.heap.size (boolsA (nullS L N 0)) 4 := Slab.new _ _ _
  have HB2 := Lib.hid (HB1.out.alloc HB1.out.size (.cells (boolsA (List.replicate N false)) 4))
  have hg : w.heap.size ≤ w1.heap.size := HB1.out.size
  go_wp2_with fail
  clear HB1 hmake
  go_loopw [4] (fun i wr => ∃ k : Nat, k ≤ N ∧ i = .int .i64 k ∧ Slab wr w1.heap.size (boolsA (nullS L N k)) 4 ∧ Below w.heap.size w wr) (fun i _ => N - (intOf i).toNat)
  case atStart => exact ⟨0, Nat.zero_le _, rfl, o1, HB2.out⟩
  case round =>
    clear o1 HB2
    obtain ⟨k, hk, rfl, o, hB⟩ := hrel
    have HB := Lib.hid hB; clear hB
    by_cases hlt : k < N
    · have hltL : k < L.length := by rw [HN.out]; exact hlt
      obtain ⟨b, off, rfl, hb, hn8⟩ := (HL.out.below HB.out).node hltL
      unfold Node8 at hn8
      obtain ⟨x, hx⟩ : ∃ x, L.getD k ndEmpty = x := ⟨_, rfl⟩
      rw [hx] at hn8
      have HX := Lib.hid hx; clear hx
      obtain ⟨n0, n1, n2, n3, n4, n5, n6, n7⟩ := hn8
      have CK := rkids_any (some ⟨b, off, none⟩) c L k wr ((HL.out.below HB.out).more HB.out.size)
      rw [HN.out] at CK
      have hklt := fun j hj => kidsF_lt (L := L) (k := k) (j := j) HF.out hltL hj
      have HKLT := Lib.hid hklt
      have hkl := kidsF_length HF.out hltL
      have hat := formed_at HF.out hltL
      have hstl := St_len (L := L) (k := k) (by omega)
      have hKb : (kidsF L (k : Int)).length ≤ N := by omega
      have hnull := nullAt_eq HF.out hltL
      have hal := (nodeOk_parts (HOK.out k hltL)).1
      rw [HX.out] at hnull hal
      obtain ⟨K, hK⟩ : ∃ K, kidsF L (k : Int) = K := ⟨_, rfl⟩
      rw [hK] at CK hKb HKLT hnull
      have HNU := Lib.hid hnull
      have HAL := Lib.hid hal
      clear hklt hkl hat hstl hK hnull hal
      go_wp2_with fail
      refine CK.mono ?_
      rintro e3 w3 ⟨A3, c3, rfl, hrow, hb3⟩
      have HK := Lib.hid (row_at0 hrow (by omega))
      have o3 := o.call hb3
      have HB3 := Lib.hid (below_then HB.out hb3)
      clear CK hrow hb3 o HB n0 n1 n2 n3 n4 n5 n6 n7
      obtain ⟨M, hM⟩ : ∃ M, K.length = M := ⟨_, rfl⟩
      rw [hM]
      rw [hM] at hKb
      have HM := Lib.hid hM
      clear hM
      go_wp2_with fail
      go_loopw [6, 7, 8] (fun a s j wr2 => ∃ m : Nat, m ≤ M ∧ j = .int .i64 m ∧ s = .bool (anyK L K m) ∧ a = .bool (allK L K m) ∧ wr2 = w3) (fun _ _ j _ => M - (intOf j).toNat)
      case atStart => exact ⟨0, Nat.zero_le _, rfl, rfl, rfl, rfl⟩
      case round =>
        obtain ⟨m, hm, rfl, rfl, rfl, hw3⟩ := hrel
        subst hw3
        by_cases hlt2 : m < M
        · have hmK : m < K.length := by rw [HM.out]; exact hlt2
          obtain ⟨b3, off3, rfl, hb3, hc3⟩ := HK.out.at_ (j := m) hmK
          have hkj := HKLT.out (K.getD m 0) (by rw [List.getD_eq_getElem?_getD, List.getElem?_eq_getElem hmK]; exact List.getElem_mem _)
          have hcell := (o3.cell (K.getD m 0)).trans (bools_get _ (by rw [nullS_len L hk]; omega))
          rw [nullS_get L hkj] at hcell
          have E1 := Lib.hid (anyK_succ L hmK)
          have E2 := Lib.hid (allK_succ L hmK)
          have hjN : K.getD m 0 < N := by omega
          generalize K.getD m 0 = j at *
          generalize nullAt L j = v at *
          obtain ⟨S, hS⟩ : ∃ S, anyK L K m = S := ⟨_, rfl⟩
          obtain ⟨T, hT⟩ : ∃ T, allK L K m = T := ⟨_, rfl⟩
          rw [hS, hT]
          have HS := Lib.hid hS
          have HT := Lib.hid hT
          clear hS hT
          cases S <;> cases T
          all_goals
            go_wp2
            go_roundw
            case rel => exact ⟨m + 1, by omega, by go_num, by rw [E1.out, HS.out]; simp, by rw [E2.out, HT.out]; simp, by trivial⟩
            case measure => simp [intOf]; omega
        · obtain rfl : m = M := by omega
          have hany : anyK L K m = (K.map (nullAt L)).any id := by unfold anyK; rw [List.take_of_length_le (by rw [HM.out]; omega)]
          have hall : allK L K m = (K.map (nullAt L)).all id := by unfold allK; rw [List.take_of_length_le (by rw [HM.out]; omega)]
          rw [hany, hall]
          have hnu := HNU.out
          unfold nullN at hnu
          generalize (K.map (nullAt L)).any id = S at *
          generalize (K.map (nullAt L)).all id = T at *
          obtain ⟨b', off', hA', hbb, hn8⟩ := (HL.out.below HB3.out).node (k := k) hltL
          cases hA'
          unfold Node8 at hn8
          rw [HX.out] at hn8
          obtain ⟨n0, _, n2, n3, _, _, _, _⟩ := hn8
          obtain ⟨co, fo⟩ := o3.facts
          have hck := (o3.cell k).trans (bools_get _ (by rw [nullS_len L hk]; omega))
          rw [nullS_at L hlt] at hck
          have hsN : k < (boolsA (nullS L N k)).size := by simp [nullS_len L hk]; exact hlt
          have HB4 := fun v : Value => below_set HB3.out hg (i := k) v
          have HB4 := Lib.hid HB4
          have HN3 := Lib.hid (fun v (hv : v = nullAt L k) => o3.null hlt hv)
          have HSK := Lib.hid (fun h0 : nullAt L k = false => (nullS_skip L hlt h0) ▸ o3)
          have HB3 := Lib.hid HB3.out
          have hO := Lib.hid o3
          clear hany hall HNU HK HKLT co o3 hm hlt2
          obtain ⟨kd, kn, xn, xm, xf⟩ := x
          simp only at hnu
          simp only at n0 n2 n3
          cases nodeIs HAL.out with
          | empty hk1 hn1 h1 =>
            simp only at hk1
            subst hk1
            have E := Lib.hid (show true = nullAt L k by rw [hnu]; rfl)
            clear hnu h1 hn1
            go_wp2
            go_roundw
            case rel => exact ⟨k + 1, by omega, by go_num, HN3.out _ E.out, HB4.out _⟩
            case measure => simp [intOf]; omega
          | set hk1 hn1 h1 =>
            simp only at hk1
            subst hk1
            have E := Lib.hid (show nullAt L k = false by rw [hnu]; rfl)
            clear hnu h1 hn1
            go_wp2
            go_roundw
            case rel => exact ⟨k + 1, by omega, by go_num, HSK.out E.out, HB3.out⟩
            case measure => simp [intOf]; omega
          | group hk1 hn1 h1 =>
            simp only at hk1
            subst hk1
            have E := Lib.hid (show T = nullAt L k by rw [hnu]; rfl)
            clear hnu h1 hn1
            go_wp2
            go_roundw
            case rel => exact ⟨k + 1, by omega, by go_num, HN3.out _ E.out, HB4.out _⟩
            case measure => simp [intOf]; omega
          | rep hk1 hn1 hr1 h1 =>
            simp only at hk1 hr1
            subst hk1
            have E := Lib.hid (show (T || xn == 0) = nullAt L k by rw [hnu]; rfl)
            have hri := (right_iff xn xm).1 hr1
            clear hnu h1 hn1 hr1
            by_cases hm0 : xm = 0
            · have hn0 : xn = 0 := by omega
              subst hm0 hn0
              clear hri
              go_wp2
              go_roundw
              case rel => exact ⟨k + 1, by omega, by go_num, HN3.out _ (by rw [← E.out]; simp), HB4.out _⟩
              case measure => simp [intOf]; omega
            have e1 : (xm == 0) = false := beq_eq_false_iff_ne.2 hm0
            clear hri hm0
            by_cases hn0 : xn = 0
            · subst hn0
              go_wp2
              go_roundw
              case rel => exact ⟨k + 1, by omega, by go_num, HN3.out _ (by rw [← E.out]; simp), HB4.out _⟩
              case measure => simp [intOf]; omega
            · have e2 : (xn == 0) = false := beq_eq_false_iff_ne.2 hn0
              clear hn0
              go_wp2
              go_roundw
              case rel => exact ⟨k + 1, by omega, by go_num, HN3.out _ (by rw [← E.out, e2]; simp), HB4.out _⟩
              case measure => simp [intOf]; omega
          | cat hk1 m2 hn1 h2 h1 =>
            simp only at hk1
            subst hk1
            have E := Lib.hid (show T = nullAt L k by rw [hnu]; rfl)
            clear hnu h1 hn1
            go_wp2
            go_roundw
            case rel => exact ⟨k + 1, by omega, by go_num, HN3.out _ E.out, HB4.out _⟩
            case measure => simp [intOf]; omega
          | alt hk1 m2 hn1 h2 h1 =>
            simp only at hk1
            subst hk1
            have E := Lib.hid (show S = nullAt L k by rw [hnu]; rfl)
            clear hnu h1 hn1
            go_wp2
            go_roundw
            case rel => exact ⟨k + 1, by omega, by go_num, HN3.out _ E.out, HB4.out _⟩
            case measure => simp [intOf]; omega
    · obtain rfl : k = N := by omega
      have hrow := row_bools (base := w.heap.size) (n := k) o hg (nullS_len L (Nat.le_refl _)) hlen
      have e : nullS L k k = nullL L k := by unfold nullS; simp
      rw [e] at hrow
      go_wp2
      go_ret
      exact ⟨_, _, rfl, hrow, HB.out⟩
end Go.Proofs.Ytddokdjlmdoebaa

/- Walks of gimletref11: how great a term is. -/
namespace Go.Proofs.Ytddokdjlmdoebaa
open Go.RowKit SetP AstP LowP ParP Go.Sort
set_option maxRecDepth 100000 in
set_option maxHeartbeats 2000000 in
theorem cut_any (a : Int) (w : World) : Calls Try.prog 51 #[.int .i64 a] w fun e w' => e = .returned (.int .i64 (capI a)) ∧ w' = w := by
  by_cases ha : 1000000 < a
  · rw [capI_hi ha]
    go_enter Try.func51, Try.ntmps51
    go_wp2
    go_ret
    exact ⟨rfl, rfl⟩
  · rw [capI_lo ha]
    go_enter Try.func51, Try.ntmps51
    go_wp2
    go_ret
    exact ⟨rfl, rfl⟩
def moreN (n m : Int) (nl : Bool) : Int := if m < 0 then -1 else mayN n m nl
set_option maxRecDepth 100000 in
set_option maxHeartbeats 2000000 in
theorem rcopies_any (x : Nd) (nl : Bool) (h : rightB x.n x.m = true) (w : World) : Calls Try.prog 52 #[ndV x, .bool nl] w fun e w' => e = .returned (.tuple #[.int .i64 (mustN x.n nl), .int .i64 (moreN x.n x.m nl)]) ∧ Below w.heap.size w w' := by
  obtain ⟨h0, h1, h2⟩ := (right_iff x.n x.m).1 h
  unfold moreN mayN
  obtain ⟨mu, hmu⟩ : ∃ p, mustN x.n nl = p := ⟨_, rfl⟩
  rw [hmu]
  unfold mustN at hmu
  obtain ⟨kd, kn, n, m, f⟩ := x
  simp only at h0 h1 h2 hmu ⊢
  have HB := Lib.hid ((Below.refl w.heap.size w).alloc (Nat.le_refl _) (.cells (ndCells ⟨kd, kn, n, m, f⟩) 43))
  unfold ndCells at HB
  simp only at HB
  have o0 : Slab (w.alloc (.cells (ndCells ⟨kd, kn, n, m, f⟩) 43)) w.heap.size (ndCells ⟨kd, kn, n, m, f⟩) 43 := Slab.new _ _ _
  unfold ndCells at o0
  simp only at o0
  obtain ⟨co, fo⟩ := o0.facts
  rcases (show m = -1 ∨ (0 ≤ m ∧ mu < m) ∨ (0 ≤ m ∧ ¬ mu < m) by omega) with rfl | ⟨hm0, hm1⟩ | ⟨hm0, hm1⟩
  · rw [if_pos (by decide)]
    by_cases hn : n = 0
    · subst hn
      cases nl
      all_goals
        simp at hmu
        subst hmu
        go_enter Try.func52, Try.ntmps52
        go_wp2_with fail
        first | go_quiet (fail) | skip
        go_wp2
        refine bodyPost_ret (v := .tuple #[.int .i64 _, .int .i64 (-1)]) (by simp [results, Try.results52, go_sem]) rfl ⟨rfl, ?_⟩
        first
          | exact HB.out
          | exact HB.out.drew
          | exact below_drewN HB.out _
    · have hn' : (n == 0) = false := beq_eq_false_iff_ne.2 hn
      rw [hn'] at hmu
      simp at hmu
      subst hmu
      clear hn
      go_enter Try.func52, Try.ntmps52
      go_wp2_with fail
      refine bodyPost_ret (v := .tuple #[.int .i64 _, .int .i64 (-1)]) (by simp [results, Try.results52, go_sem]) rfl ⟨rfl, ?_⟩
      first
        | exact HB.out
        | exact HB.out.drew
        | exact below_drewN HB.out _
  · rw [if_neg (by omega), if_neg (by omega), if_pos hm1]
    have e1 : (m == -1) = false := beq_eq_false_iff_ne.2 (by omega)
    by_cases hn : n = 0
    · subst hn
      cases nl
      all_goals
        simp at hmu
        subst hmu
        go_enter Try.func52, Try.ntmps52
        go_wp2_with fail
        first
          | (go_quiet (fail); go_wp2)
          | skip
        refine bodyPost_ret (v := .tuple #[.int .i64 _, .int .i64 (m - _)]) (by simp [results, Try.results52, go_sem]) rfl ⟨rfl, ?_⟩
        first
          | exact HB.out
          | exact HB.out.drew
          | exact below_drewN HB.out _
    · have hn' : (n == 0) = false := beq_eq_false_iff_ne.2 hn
      rw [hn'] at hmu
      simp at hmu
      subst hmu
      clear hn
      go_enter Try.func52, Try.ntmps52
      go_wp2_with fail
      first
        | (go_quiet (fail); go_wp2)
        | skip
      refine bodyPost_ret (v := .tuple #[.int .i64 _, .int .i64 (m - _)]) (by simp [results, Try.results52, go_sem]) rfl ⟨rfl, ?_⟩
      first
        | exact HB.out
        | exact HB.out.drew
        | exact below_drewN HB.out _
  · rw [if_neg (by omega), if_neg (by omega), if_neg hm1]
    have e1 : (m == -1) = false := beq_eq_false_iff_ne.2 (by omega)
    by_cases hn : n = 0
    · subst hn
      cases nl
      all_goals
        simp at hmu
        subst hmu
        go_enter Try.func52, Try.ntmps52
        go_wp2_with fail
        first
          | (go_quiet (fail); go_wp2)
          | skip
        refine bodyPost_ret (v := .tuple #[.int .i64 _, .int .i64 0]) (by simp [results, Try.results52, go_sem]) rfl ⟨rfl, ?_⟩
        first
          | exact HB.out
          | exact HB.out.drew
          | exact below_drewN HB.out _
    · have hn' : (n == 0) = false := beq_eq_false_iff_ne.2 hn
      rw [hn'] at hmu
      simp at hmu
      subst hmu
      clear hn
      go_enter Try.func52, Try.ntmps52
      go_wp2_with fail
      first
        | (go_quiet (fail); go_wp2)
        | skip
      refine bodyPost_ret (v := .tuple #[.int .i64 _, .int .i64 0]) (by simp [results, Try.results52, go_sem]) rfl ⟨rfl, ?_⟩
      first
        | exact HB.out
        | exact HB.out.drew
        | exact below_drewN HB.out _
end Go.Proofs.Ytddokdjlmdoebaa
