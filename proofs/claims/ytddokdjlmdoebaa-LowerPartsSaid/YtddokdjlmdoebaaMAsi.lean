/- Walks of the package ast: is a list a pattern's tree? -/
import Derived.Test.YtddokdjlmdoebaaProg
import Derived.WalkKit
import Derived.WalkSpells
import Derived.WalkLawsBesides
import Derived.Handy
import Derived.Lib.Hide
import Derived.Test.YtddokdjlmdoebaaMAsg
import Derived.Lib.QuietBelow
set_option linter.unusedVariables false
set_option linter.unusedSimpArgs false
namespace Go.Proofs.Ytddokdjlmdoebaa
open Go.RowKit SetP AstP Go.Sort
def kindAt (L : List Nd) (k : Nat) : Int := (L.getD k ndEmpty).kind
def nodeOk (L : List Nd) (k : Nat) : Bool := aloneB (L.getD k ndEmpty) && (kidsF L (k : Int)).all fun j => holdsB (kindAt L k) (kindAt L j)
def rightF (L : List Nd) : Bool := formedF L && ((List.range L.length).all (nodeOk L) && decide (groupsF L L.length ≤ 9))
theorem right_bad {L : List Nd} {k : Nat} (hk : k < L.length) (h : nodeOk L k = false) : rightF L = false := by
  unfold rightF
  have : (List.range L.length).all (nodeOk L) = false := by
    rw [List.all_eq_false]; exact ⟨k, by simpa using hk, by rw [h]; simp⟩
  rw [this]; simp
theorem right_end {L : List Nd} (hF : formedF L = true) (h : ∀ j, j < L.length → nodeOk L j = true) : rightF L = decide (groupsF L L.length ≤ 9) := by
  unfold rightF
  have : (List.range L.length).all (nodeOk L) = true := by
    rw [List.all_eq_true]; intro j hj; exact h j (by simpa using hj)
  rw [this, hF]; simp
theorem alone_no {L : List Nd} {k : Nat} (h : aloneB (L.getD k ndEmpty) = false) : nodeOk L k = false := by unfold nodeOk; rw [h]; rfl
theorem holds_no {L : List Nd} {k j : Nat} (hj : j < (kidsF L (k : Int)).length) (h : holdsB (kindAt L k) (kindAt L ((kidsF L (k : Int)).getD j 0)) = false) : nodeOk L k = false := by
  unfold nodeOk
  have : ((kidsF L (k : Int)).all fun j => holdsB (kindAt L k) (kindAt L j)) = false := by
    rw [List.all_eq_false]
    refine ⟨(kidsF L (k : Int))[j], List.getElem_mem _, ?_⟩
    rw [List.getD_eq_getElem?_getD, List.getElem?_eq_getElem hj] at h
    have h' : holdsB (kindAt L k) (kindAt L (kidsF L (k : Int))[j]) = false := h
    rw [h']; simp
  rw [this]; simp
theorem node_yes {L : List Nd} {k : Nat} (h : aloneB (L.getD k ndEmpty) = true) (h2 : ∀ j, j < (kidsF L (k : Int)).length → holdsB (kindAt L k) (kindAt L ((kidsF L (k : Int)).getD j 0)) = true) : nodeOk L k = true := by
  unfold nodeOk
  rw [h, Bool.true_and, List.all_eq_true]
  intro x hx
  obtain ⟨j, hj, rfl⟩ := List.getElem_of_mem hx
  have := h2 j hj
  rwa [List.getD_eq_getElem?_getD, List.getElem?_eq_getElem hj] at this
set_option maxRecDepth 100000 in
theorem holds_b (k j : Int) (w : World) : Calls Try.prog 84 #[.int .i64 k, .int .i64 j] w fun e w' => e = .returned (.bool (holdsB k j)) ∧ Below w.heap.size w w' :=
  (holds_any k j w).mono fun _ _ ⟨h, e⟩ => ⟨h, e ▸ Below.refl _ _⟩
theorem NodesAt.kind {w : World} {B : Nat} {A : Option Addr} {L : List Nd} (h : NodesAt w B A L) {k : Nat} (hk : k < L.length) {b off : Nat} (hA : A = some ⟨b, off, none⟩) : w.cell? ⟨b, off + k * 8, none⟩ = some (.int .i64 (kindAt L k)) := by
  obtain ⟨b', off', h1, _, h2⟩ := h.node hk
  rw [hA] at h1; cases h1
  exact h2.1
set_option maxRecDepth 100000 in
set_option maxHeartbeats 2000000 in
theorem right_any (A : Option Addr) (c : Nat) (L : List Nd) (w : World) (hL : NodesAt w w.heap.size A L) :
    Calls Try.prog 46 #[.slice A L.length c] w fun e w' => e = .returned (.bool (rightF L)) ∧ Below w.heap.size w w' := by
  have hlen := hL.1
  have CF := formed_any A c L w hL
  have HL := Lib.hid hL; clear hL
  cases hF : formedF L with
  | false =>
    rw [hF] at CF
    have hr : rightF L = false := by unfold rightF; rw [hF]; rfl
    rw [hr]
    go_enter Try.func46, Try.ntmps46
    go_wp2_with fail
    refine CF.mono ?_
    rintro e1 w1 ⟨rfl, hb1⟩
    go_wp2
    go_ret
    exact ⟨rfl, hb1⟩
  | true =>
  rw [hF] at CF
  have HF := Lib.hid hF; clear hF
  obtain ⟨R, hR⟩ : ∃ R, rightF L = R := ⟨_, rfl⟩
  rw [hR]
  have HR := Lib.hid hR; clear hR
  obtain ⟨N, hN⟩ : ∃ N, L.length = N := ⟨_, rfl⟩
  rw [hN] at hlen CF ⊢
  have HN := Lib.hid hN; clear hN
  go_enter Try.func46, Try.ntmps46
  go_wp2_with fail
  refine CF.mono ?_
  rintro e1 w1 ⟨rfl, hb1⟩
  have HB1 := Lib.hid hb1; clear hb1
  clear CF
  go_wp2
  go_loopw [3, 13] (fun g i wr => ∃ (k : Nat), k ≤ N ∧ i = .int .i64 k ∧ g = .int .i64 ((groupsF L k : Nat) : Int) ∧ (∀ j, j < k → nodeOk L j = true) ∧ Below w.heap.size w wr) (fun _ i _ => N - (intOf i).toNat)
  case atStart => exact ⟨0, by omega, rfl, rfl, fun j hj => by omega, HB1.out⟩
  case round =>
    clear HB1
    obtain ⟨k, hk, rfl, rfl, hok, hB⟩ := hrel
    have HB := Lib.hid hB; clear hB
    have HOK := Lib.hid hok; clear hok
    by_cases hlt : k < N
    · have hltL : k < L.length := by rw [HN.out]; exact hlt
      have hgl := groupsF_le L k
      obtain ⟨b, off, rfl, hb, hn8⟩ := (HL.out.below HB.out).node hltL
      unfold Node8 at hn8
      obtain ⟨x, hx⟩ : ∃ x, L.getD k ndEmpty = x := ⟨_, rfl⟩
      rw [hx] at hn8
      have HX := Lib.hid hx; clear hx
      obtain ⟨n0, n1, n2, n3, n4, n5, n6, n7⟩ := hn8
      have o1 : Slab (wr.alloc (.cells (ndCells x) 43)) wr.heap.size (ndCells x) 43 := Slab.new _ _ _
      have HB1 := Lib.hid (HB.out.alloc HB.out.size (.cells (ndCells x) 43))
      have hbw : b < wr.heap.size := by have := HB.out.size; omega
      have CA := alone_any x
      cases hal : aloneB x with
      | false =>
        rw [hal] at CA
        have hno : R = false := by rw [← HR.out]; exact right_bad hltL (alone_no (by rw [HX.out]; exact hal))
        subst hno
        go_wp2_with fail
        refine (CA _).mono ?_
        rintro e2 w2 ⟨rfl, hb2⟩
        have HB2 := below_then HB1.out hb2
        go_wp2
        go_ret
        exact ⟨rfl, HB2⟩
      | true =>
      rw [hal] at CA
      go_wp2_with fail
      refine (CA _).mono ?_
      rintro e2 w2 ⟨rfl, hb2⟩
      have o2 := o1.call hb2
      have HB2 := Lib.hid (below_then HB1.out hb2)
      have hw2 : wr.heap.size < w2.heap.size := by have := hb2.size; simp at this; omega
      clear hb2 o1 HB1 CA n0 n1 n2 n3 n4 n5 n6 n7
      have CK := kids_any (some ⟨b, off, none⟩) c L k w2 ((HL.out.below HB2.out).more HB2.out.size)
      rw [HN.out] at CK
      have hkl := kidsF_length HF.out hltL
      have hklt := fun j hj => kidsF_lt (L := L) (k := k) (j := j) HF.out hltL hj
      have hat := formed_at HF.out hltL
      have hstl := St_len (L := L) (k := k) (by omega)
      have hKb : (kidsF L (k : Int)).length ≤ N := by omega
      have HKLT := Lib.hid hklt
      obtain ⟨K, hK⟩ : ∃ K, kidsF L (k : Int) = K := ⟨_, rfl⟩
      have HK := Lib.hid hK
      rw [hK] at CK hKb HKLT
      clear hkl hklt hat hstl hK
      go_wp2_with fail
      refine CK.mono ?_
      rintro e3 w3 ⟨A3, c3, rfl, hrow, hb3⟩
      have HIA := Lib.hid (row_at0 hrow (by omega))
      have o3 := o2.call hb3
      have HB3 := Lib.hid (below_then HB2.out hb3)
      have hw3 : wr.heap.size < w3.heap.size := o3.lt
      clear CK hrow hb3 o2 HB2 hw2
      obtain ⟨M, hM⟩ : ∃ M, K.length = M := ⟨_, rfl⟩
      rw [hM] at hKb ⊢
      have HM := Lib.hid hM
      clear hM
      go_wp2
      go_loopw [25] (fun j wr2 => ∃ (m : Nat), m ≤ M ∧ j = .int .i64 m ∧ (∀ q, q < m → holdsB (kindAt L k) (kindAt L (K.getD q 0)) = true) ∧ Below w3.heap.size w3 wr2) (fun j _ => M - (intOf j).toNat)
      case atStart => exact ⟨0, by omega, rfl, fun j hj => by omega, Below.refl _ _⟩
      case round =>
        obtain ⟨m, hm, rfl, hh, hB4⟩ := hrel
        rename World => w4
        have HH := Lib.hid hh; clear hh
        have HB4 := Lib.hid hB4; clear hB4
        have o4 := o3.call HB4.out
        have HB5 := Lib.hid (below_then HB3.out HB4.out)
        have HN4 := Lib.hid (HL.out.below HB5.out)
        by_cases hlt2 : m < M
        · obtain ⟨b3, off3, rfl, hb3, hc3⟩ := (HIA.out.below HB4.out).at_ (j := m) (by rw [HM.out]; exact hlt2)
          obtain ⟨q, hq⟩ : ∃ q, K.getD m 0 = q := ⟨_, rfl⟩
          have hqk : q < k := HKLT.out q (by
            rw [← hq, List.getD_eq_getElem?_getD, List.getElem?_eq_getElem (by rw [HM.out]; exact hlt2)]; exact List.getElem_mem _)
          rw [hq] at hc3
          have HQ := Lib.hid hq; clear hq
          have i1 : q < N := by omega
          have i2 : (q : Int) < (N : Int) := by omega
          have hx0 : ∀ d os, (grow (redrawn w4 d) os).cell? ⟨wr.heap.size, 0, none⟩ = some (.int .i64 x.kind) := fun d os => (o4.below (below_regrown _ d os) o4.lt).cell 0
          have hx1 : ∀ d os, (grow (redrawn w4 d) os).cell? ⟨b, off + q * 8, none⟩ = some (.int .i64 (kindAt L q)) := fun d os =>
            (HN4.out.below ((below_regrown w4 d os).mono HB5.out.size)).kind (by rw [HN.out]; exact i1) rfl
          have CH := holds_b x.kind (kindAt L q)
          have hkx : kindAt L k = x.kind := by unfold kindAt; rw [HX.out]
          cases hh1 : holdsB x.kind (kindAt L q) with
          | false =>
            rw [hh1] at CH
            have hno : R = false := by
              rw [← HR.out]
              exact right_bad hltL (holds_no (j := m) (by rw [HK.out, HM.out]; exact hlt2) (by rw [HK.out, HQ.out, hkx]; exact hh1))
            subst hno
            clear hkx hh1
            go_wp2_with fail
            refine wp_region_quiet_below (by kernel_rfl) (by kernel_rfl) ?_
            repeat (first | go_big_quiet_step ((first | (go_at_call 84; exact Calls.regrown_of (CH _)))) | quiet_step ((first | (go_at_call 84; exact Calls.regrown_of (CH _)))))
            refine wpQuiet_nil ?_
            intro _ hw'
            obtain ⟨⟨qd, qos⟩, hw''⟩ := hw'
            subst hw''
            have hb9 := below_then HB5.out (below_regrown w4 qd qos)
            go_wp2
            go_ret
            exact ⟨rfl, hb9⟩
          | true =>
            rw [hh1] at CH
            have hnew : holdsB (kindAt L k) (kindAt L (K.getD m 0)) = true := by rw [HQ.out, hkx]; exact hh1
            have HNEW := Lib.hid hnew
            clear hkx hh1 hnew
            go_wp2_with fail
            refine wp_region_quiet_below (by kernel_rfl) (by kernel_rfl) ?_
            repeat (first | go_big_quiet_step ((first | (go_at_call 84; exact Calls.regrown_of (CH _)))) | quiet_step ((first | (go_at_call 84; exact Calls.regrown_of (CH _)))))
            refine wpQuiet_nil ?_
            intro _ hw'
            obtain ⟨⟨qd, qos⟩, hw''⟩ := hw'
            subst hw''
            have HB9 := Lib.hid (HB4.out.trans ((below_regrown w4 qd qos).mono HB4.out.size))
            go_wp2
            go_roundw
            case rel =>
              refine ⟨m + 1, by omega, by go_num, fun j hj => ?_, HB9.out⟩
              by_cases e : j = m
              · rw [e]; exact HNEW.out
              · exact HH.out j (by omega)
            case measure => simp [intOf]; omega
        · have hmM : m = M := by omega
          have hnode : nodeOk L k = true := node_yes (by rw [HX.out]; exact hal) (by rw [HK.out, HM.out]; exact fun j hj => HH.out j (by omega))
          have HNO := Lib.hid hnode
          clear hnode
          have hkx : kindAt L k = x.kind := by unfold kindAt; rw [HX.out]
          have hgs : groupsF L (k + 1) = if x.kind == 3 then groupsF L k + 1 else groupsF L k := by rw [groupsF, HX.out]
          obtain ⟨c4, f4⟩ := o4.facts
          cases h3 : (x.kind == 3) with
          | true =>
            rw [h3, if_pos rfl] at hgs
            have HGS := Lib.hid hgs
            clear hgs hkx
            go_wp2
            go_roundw
            case rel =>
              refine ⟨k + 1, by omega, by go_num, by rw [HGS.out]; go_num, fun j hj => ?_, HB5.out⟩
              by_cases e : j = k
              · rw [e]; exact HNO.out
              · exact HOK.out j (by omega)
            case measure => simp [intOf]; omega
          | false =>
            rw [h3, if_neg (by simp)] at hgs
            have HGS := Lib.hid hgs
            clear hgs hkx
            go_wp2
            go_roundw
            case rel =>
              refine ⟨k + 1, by omega, by go_num, by rw [HGS.out], fun j hj => ?_, HB5.out⟩
              by_cases e : j = k
              · rw [e]; exact HNO.out
              · exact HOK.out j (by omega)
            case measure => simp [intOf]; omega
    · obtain rfl : k = N := by omega
      have hyes : R = decide (groupsF L k ≤ 9) := by
        rw [← HR.out, ← HN.out]
        exact right_end HF.out fun j hj => HOK.out j (by rw [HN.out] at hj; exact hj)
      subst hyes
      have hgl := groupsF_le L k
      have e9 : decide ((groupsF L k : Int) ≤ 9) = decide (groupsF L k ≤ 9) := by rw [Bool.eq_iff_iff]; simp; omega
      go_wp2
      refine bodyPost_ret (v := .bool (decide (groupsF L k ≤ 9))) (by simp [results, Try.results46, go_sem]) rfl ⟨rfl, HB.out⟩
end Go.Proofs.Ytddokdjlmdoebaa

/- Walks of the package gimletref06: is a list a pattern's tree? -/
namespace Go.Proofs.Ytddokdjlmdoebaa
open Go.RowKit SetP AstP Go.Sort
set_option maxRecDepth 100000 in
theorem kid_b (k j : Int) (w : World) : Calls Try.prog 60 #[.int .i64 k, .int .i64 j] w fun e w' => e = .returned (.bool (kidB k j)) ∧ Below w.heap.size w w' :=
  (kid_any k j w).mono fun _ _ ⟨h, e⟩ => ⟨h, e ▸ Below.refl _ _⟩
theorem kid_holds {x : Nd} (ha : aloneB x = true) (h0 : 0 < x.kids) (j : Int) : kidB x.kind j = holdsB x.kind j := by
  unfold aloneB at ha
  unfold kidB holdsB
  cases k1 : (x.kind == 1) with
  | true => rw [k1, if_pos rfl] at ha; simp at ha; omega
  | false =>
  rw [k1, if_neg (by simp)] at ha
  cases k2 : (x.kind == 2) with
  | true => rw [k2, if_pos rfl] at ha; simp at ha; omega
  | false =>
  rw [k2, if_neg (by simp)] at ha
  cases k3 : (x.kind == 3) with
  | true =>
    have : x.kind = 3 := by simpa using k3
    rw [this]; rfl
  | false =>
  rw [k3, if_neg (by simp)] at ha
  cases k4 : (x.kind == 4) with
  | true => rfl
  | false =>
  rw [k4, if_neg (by simp)] at ha
  cases k5 : (x.kind == 5) with
  | true => rfl
  | false =>
  rw [k5] at ha
  cases k6 : (x.kind == 6) with
  | true => rfl
  | false => rw [k6] at ha; simp at ha
set_option maxRecDepth 100000 in
set_option maxHeartbeats 2000000 in
theorem rright6_any (A : Option Addr) (c : Nat) (L : List Nd) (w : World) (hL : NodesAt w w.heap.size A L) :
    Calls Try.prog 25 #[.slice A L.length c] w fun e w' => e = .returned (.bool (rightF L)) ∧ Below w.heap.size w w' := by
  have hlen := hL.1
  have CF := rformed_any A c L w hL
  have HL := Lib.hid hL; clear hL
  cases hF : formedF L with
  | false =>
    rw [hF] at CF
    have hr : rightF L = false := by unfold rightF; rw [hF]; rfl
    rw [hr]
    go_enter Try.func25, Try.ntmps25
    go_wp2_with fail
    refine CF.mono ?_
    rintro e1 w1 ⟨rfl, hb1⟩
    go_wp2
    go_ret
    exact ⟨rfl, hb1⟩
  | true =>
  rw [hF] at CF
  have HF := Lib.hid hF; clear hF
  obtain ⟨R, hR⟩ : ∃ R, rightF L = R := ⟨_, rfl⟩
  rw [hR]
  have HR := Lib.hid hR; clear hR
  obtain ⟨N, hN⟩ : ∃ N, L.length = N := ⟨_, rfl⟩
  rw [hN] at hlen CF ⊢
  have HN := Lib.hid hN; clear hN
  go_enter Try.func25, Try.ntmps25
  go_wp2_with fail
  refine CF.mono ?_
  rintro e1 w1 ⟨rfl, hb1⟩
  have HB1 := Lib.hid hb1; clear hb1
  clear CF
  go_wp2
  go_loopw [3, 4] (fun g i wr => ∃ (k : Nat), k ≤ N ∧ i = .int .i64 k ∧ g = .int .i64 ((groupsF L k : Nat) : Int) ∧ (∀ j, j < k → nodeOk L j = true) ∧ Below w.heap.size w wr) (fun _ i _ => N - (intOf i).toNat)
  case atStart => exact ⟨0, by omega, rfl, rfl, fun j hj => by omega, HB1.out⟩
  case round =>
    clear HB1
    obtain ⟨k, hk, rfl, rfl, hok, hB⟩ := hrel
    have HB := Lib.hid hB; clear hB
    have HOK := Lib.hid hok; clear hok
    by_cases hlt : k < N
    · have hltL : k < L.length := by rw [HN.out]; exact hlt
      have hgl := groupsF_le L k
      obtain ⟨b, off, rfl, hb, hn8⟩ := (HL.out.below HB.out).node hltL
      unfold Node8 at hn8
      obtain ⟨x, hx⟩ : ∃ x, L.getD k ndEmpty = x := ⟨_, rfl⟩
      rw [hx] at hn8
      have HX := Lib.hid hx; clear hx
      obtain ⟨n0, n1, n2, n3, n4, n5, n6, n7⟩ := hn8
      have CA := node_any x
      cases hal : aloneB x with
      | false =>
        rw [hal] at CA
        have hno : R = false := by rw [← HR.out]; exact right_bad hltL (alone_no (by rw [HX.out]; exact hal))
        subst hno
        go_wp2_with fail
        refine (CA _).mono ?_
        rintro e2 w2 ⟨rfl, hb2⟩
        have HB2 := below_then HB.out hb2
        go_wp2
        go_ret
        exact ⟨rfl, HB2⟩
      | true =>
      rw [hal] at CA
      go_wp2_with fail
      refine (CA _).mono ?_
      rintro e2 w2 ⟨rfl, hb2⟩
      have HB2 := Lib.hid (below_then HB.out hb2)
      clear hb2 CA n0 n1 n2 n3 n4 n5 n6 n7
      have hc0 : w2.cell? ⟨b, off + k * 8, none⟩ = some (.int .i64 x.kind) := by
        have := (HL.out.below HB2.out).kind hltL rfl
        unfold kindAt at this; rwa [HX.out] at this
      have CK := rkids_any (some ⟨b, off, none⟩) c L k w2 ((HL.out.below HB2.out).more HB2.out.size)
      rw [HN.out] at CK
      have hkl := kidsF_length HF.out hltL
      have hklt := fun j hj => kidsF_lt (L := L) (k := k) (j := j) HF.out hltL hj
      have hat := formed_at HF.out hltL
      have hstl := St_len (L := L) (k := k) (by omega)
      have hKb : (kidsF L (k : Int)).length ≤ N := by omega
      have hk0 : 0 < (kidsF L (k : Int)).length → 0 < x.kids := by rw [hkl, HX.out]; omega
      have HKLT := Lib.hid hklt
      obtain ⟨K, hK⟩ : ∃ K, kidsF L (k : Int) = K := ⟨_, rfl⟩
      have HK := Lib.hid hK
      rw [hK] at CK hKb HKLT hk0
      have HK0 := Lib.hid hk0
      clear hkl hklt hat hstl hK hk0
      have hgs : groupsF L (k + 1) = if x.kind == 3 then groupsF L k + 1 else groupsF L k := by rw [groupsF, HX.out]
      obtain ⟨M, hM⟩ : ∃ M, K.length = M := ⟨_, rfl⟩
      rw [hM] at hKb
      have HM := Lib.hid hM
      obtain ⟨G, hG⟩ : ∃ G, groupsF L (k + 1) = G := ⟨_, rfl⟩
      cases h3 : (x.kind == 3) with
      | true =>
        rw [h3, if_pos rfl, hG] at hgs
        have HGS := Lib.hid hgs
        have HG := Lib.hid hG
        clear hgs hG
        go_wp2_with fail
        refine CK.mono ?_
        rintro e3 w3 ⟨A3, c3, rfl, hrow, hb3⟩
        have HIA := Lib.hid (row_at0 hrow (by rw [HM.out]; omega))
        have HB3 := Lib.hid (below_then HB2.out hb3)
        clear CK hrow hb3 HB2 hc0
        rw [HM.out]
        go_wp2
        go_loopw [6] (fun j wr2 => ∃ (m : Nat), m ≤ M ∧ j = .int .i64 m ∧ (∀ q, q < m → holdsB (kindAt L k) (kindAt L (K.getD q 0)) = true) ∧ Below w3.heap.size w3 wr2) (fun j _ => M - (intOf j).toNat)
        case atStart => exact ⟨0, by omega, rfl, fun j hj => by omega, Below.refl _ _⟩
        case round =>
          obtain ⟨m, hm, rfl, hh, hB4⟩ := hrel
          rename World => w4
          have HH := Lib.hid hh; clear hh
          have HB4 := Lib.hid hB4; clear hB4
          have HB5 := Lib.hid (below_then HB3.out HB4.out)
          have HN4 := Lib.hid (HL.out.below HB5.out)
          have hkx : kindAt L k = x.kind := by unfold kindAt; rw [HX.out]
          by_cases hlt2 : m < M
          · obtain ⟨b3, off3, rfl, hb3, hc3⟩ := (HIA.out.below HB4.out).at_ (j := m) (by rw [HM.out]; exact hlt2)
            obtain ⟨q, hq⟩ : ∃ q, K.getD m 0 = q := ⟨_, rfl⟩
            have hqk : q < k := HKLT.out q (by
              rw [← hq, List.getD_eq_getElem?_getD, List.getElem?_eq_getElem (by rw [HM.out]; exact hlt2)]; exact List.getElem_mem _)
            have HQ := Lib.hid hq
            have i1 : q < N := by omega
            have i2 : (q : Int) < (N : Int) := by omega
            have i3 : (k : Int) < (N : Int) := by omega
            have i4 : (m : Int) < (M : Int) := by omega
            have hx0 : ∀ d os, (grow (redrawn w4 d) os).cell? ⟨b, off + k * 8, none⟩ = some (.int .i64 x.kind) := fun d os => by
              rw [← hkx]; exact (HN4.out.below ((below_regrown w4 d os).mono HB5.out.size)).kind hltL rfl
            have hx1 : ∀ d os, (grow (redrawn w4 d) os).cell? ⟨b, off + q * 8, none⟩ = some (.int .i64 (kindAt L q)) := fun d os =>
              (HN4.out.below ((below_regrown w4 d os).mono HB5.out.size)).kind (by rw [HN.out]; exact i1) rfl
            have hx2 : ∀ d os, (grow (redrawn w4 d) os).cell? ⟨b3, off3 + m, none⟩ = some (.int .i64 (q : Int)) := fun d os => by
              have h := ((HIA.out.below HB4.out).below ((below_regrown w4 d os).mono HB4.out.size))
              obtain ⟨b4, off4, e, _, hc⟩ := h.at_ (j := m) (by rw [HM.out]; exact hlt2)
              cases e
              rw [hq] at hc; exact hc
            have CH := kid_b x.kind (kindAt L q)
            rw [kid_holds hal (HK0.out (by rw [HM.out]; omega))] at CH
            cases hh1 : holdsB x.kind (kindAt L q) with
            | false =>
              rw [hh1] at CH
              have hno : R = false := by
                rw [← HR.out]
                exact right_bad hltL (holds_no (j := m) (by rw [HK.out, HM.out]; exact hlt2) (by rw [HK.out, HQ.out, hkx]; exact hh1))
              subst hno
              clear hkx hh1 hc3 hq
              go_wp2_with fail
              refine wp_region_quiet_below (by kernel_rfl) (by kernel_rfl) ?_
              repeat (first | go_big_quiet_step ((first | (go_at_call 60; exact Calls.regrown_of (CH _)))) | quiet_step ((first | (go_at_call 60; exact Calls.regrown_of (CH _)))))
              refine wpQuiet_nil ?_
              intro _ hw'
              obtain ⟨⟨qd, qos⟩, hw''⟩ := hw'
              subst hw''
              have hb9 := below_then HB5.out (below_regrown w4 qd qos)
              go_wp2
              go_ret
              exact ⟨rfl, hb9⟩
            | true =>
              rw [hh1] at CH
              have hnew : holdsB (kindAt L k) (kindAt L (K.getD m 0)) = true := by rw [HQ.out, hkx]; exact hh1
              have HNEW := Lib.hid hnew
              clear hkx hh1 hnew hc3 hq
              go_wp2_with fail
              refine wp_region_quiet_below (by kernel_rfl) (by kernel_rfl) ?_
              repeat (first | go_big_quiet_step ((first | (go_at_call 60; exact Calls.regrown_of (CH _)))) | quiet_step ((first | (go_at_call 60; exact Calls.regrown_of (CH _)))))
              refine wpQuiet_nil ?_
              intro _ hw'
              obtain ⟨⟨qd, qos⟩, hw''⟩ := hw'
              subst hw''
              have HB9 := Lib.hid (HB4.out.trans ((below_regrown w4 qd qos).mono HB4.out.size))
              go_wp2
              go_roundw
              case rel =>
                refine ⟨m + 1, by omega, by go_num, fun j hj => ?_, HB9.out⟩
                by_cases e : j = m
                · rw [e]; exact HNEW.out
                · exact HH.out j (by omega)
              case measure => simp [intOf]; omega
          · have hmM : m = M := by omega
            have hnode : nodeOk L k = true := node_yes (by rw [HX.out]; exact hal) (by rw [HK.out, HM.out]; exact fun j hj => HH.out j (by omega))
            have HNO := Lib.hid hnode
            clear hnode hkx
            go_wp2
            go_roundw
            case rel =>
              refine ⟨k + 1, by omega, by go_num, by rw [HG.out, HGS.out]; go_num, fun j hj => ?_, HB5.out⟩
              by_cases e : j = k
              · rw [e]; exact HNO.out
              · exact HOK.out j (by omega)
            case measure => simp [intOf]; omega
      | false =>
        rw [h3, if_neg (by simp), hG] at hgs
        have HGS := Lib.hid hgs
        have HG := Lib.hid hG
        clear hgs hG
        go_wp2_with fail
        refine CK.mono ?_
        rintro e3 w3 ⟨A3, c3, rfl, hrow, hb3⟩
        have HIA := Lib.hid (row_at0 hrow (by rw [HM.out]; omega))
        have HB3 := Lib.hid (below_then HB2.out hb3)
        clear CK hrow hb3 HB2 hc0
        rw [HM.out]
        go_wp2
        go_loopw [6] (fun j wr2 => ∃ (m : Nat), m ≤ M ∧ j = .int .i64 m ∧ (∀ q, q < m → holdsB (kindAt L k) (kindAt L (K.getD q 0)) = true) ∧ Below w3.heap.size w3 wr2) (fun j _ => M - (intOf j).toNat)
        case atStart => exact ⟨0, by omega, rfl, fun j hj => by omega, Below.refl _ _⟩
        case round =>
          obtain ⟨m, hm, rfl, hh, hB4⟩ := hrel
          rename World => w4
          have HH := Lib.hid hh; clear hh
          have HB4 := Lib.hid hB4; clear hB4
          have HB5 := Lib.hid (below_then HB3.out HB4.out)
          have HN4 := Lib.hid (HL.out.below HB5.out)
          have hkx : kindAt L k = x.kind := by unfold kindAt; rw [HX.out]
          by_cases hlt2 : m < M
          · obtain ⟨b3, off3, rfl, hb3, hc3⟩ := (HIA.out.below HB4.out).at_ (j := m) (by rw [HM.out]; exact hlt2)
            obtain ⟨q, hq⟩ : ∃ q, K.getD m 0 = q := ⟨_, rfl⟩
            have hqk : q < k := HKLT.out q (by
              rw [← hq, List.getD_eq_getElem?_getD, List.getElem?_eq_getElem (by rw [HM.out]; exact hlt2)]; exact List.getElem_mem _)
            have HQ := Lib.hid hq
            have i1 : q < N := by omega
            have i2 : (q : Int) < (N : Int) := by omega
            have i3 : (k : Int) < (N : Int) := by omega
            have i4 : (m : Int) < (M : Int) := by omega
            have hx0 : ∀ d os, (grow (redrawn w4 d) os).cell? ⟨b, off + k * 8, none⟩ = some (.int .i64 x.kind) := fun d os => by
              rw [← hkx]; exact (HN4.out.below ((below_regrown w4 d os).mono HB5.out.size)).kind hltL rfl
            have hx1 : ∀ d os, (grow (redrawn w4 d) os).cell? ⟨b, off + q * 8, none⟩ = some (.int .i64 (kindAt L q)) := fun d os =>
              (HN4.out.below ((below_regrown w4 d os).mono HB5.out.size)).kind (by rw [HN.out]; exact i1) rfl
            have hx2 : ∀ d os, (grow (redrawn w4 d) os).cell? ⟨b3, off3 + m, none⟩ = some (.int .i64 (q : Int)) := fun d os => by
              have h := ((HIA.out.below HB4.out).below ((below_regrown w4 d os).mono HB4.out.size))
              obtain ⟨b4, off4, e, _, hc⟩ := h.at_ (j := m) (by rw [HM.out]; exact hlt2)
              cases e
              rw [hq] at hc; exact hc
            have CH := kid_b x.kind (kindAt L q)
            rw [kid_holds hal (HK0.out (by rw [HM.out]; omega))] at CH
            cases hh1 : holdsB x.kind (kindAt L q) with
            | false =>
              rw [hh1] at CH
              have hno : R = false := by
                rw [← HR.out]
                exact right_bad hltL (holds_no (j := m) (by rw [HK.out, HM.out]; exact hlt2) (by rw [HK.out, HQ.out, hkx]; exact hh1))
              subst hno
              clear hkx hh1 hc3 hq
              go_wp2_with fail
              refine wp_region_quiet_below (by kernel_rfl) (by kernel_rfl) ?_
              repeat (first | go_big_quiet_step ((first | (go_at_call 60; exact Calls.regrown_of (CH _)))) | quiet_step ((first | (go_at_call 60; exact Calls.regrown_of (CH _)))))
              refine wpQuiet_nil ?_
              intro _ hw'
              obtain ⟨⟨qd, qos⟩, hw''⟩ := hw'
              subst hw''
              have hb9 := below_then HB5.out (below_regrown w4 qd qos)
              go_wp2
              go_ret
              exact ⟨rfl, hb9⟩
            | true =>
              rw [hh1] at CH
              have hnew : holdsB (kindAt L k) (kindAt L (K.getD m 0)) = true := by rw [HQ.out, hkx]; exact hh1
              have HNEW := Lib.hid hnew
              clear hkx hh1 hnew hc3 hq
              go_wp2_with fail
              refine wp_region_quiet_below (by kernel_rfl) (by kernel_rfl) ?_
              repeat (first | go_big_quiet_step ((first | (go_at_call 60; exact Calls.regrown_of (CH _)))) | quiet_step ((first | (go_at_call 60; exact Calls.regrown_of (CH _)))))
              refine wpQuiet_nil ?_
              intro _ hw'
              obtain ⟨⟨qd, qos⟩, hw''⟩ := hw'
              subst hw''
              have HB9 := Lib.hid (HB4.out.trans ((below_regrown w4 qd qos).mono HB4.out.size))
              go_wp2
              go_roundw
              case rel =>
                refine ⟨m + 1, by omega, by go_num, fun j hj => ?_, HB9.out⟩
                by_cases e : j = m
                · rw [e]; exact HNEW.out
                · exact HH.out j (by omega)
              case measure => simp [intOf]; omega
          · have hmM : m = M := by omega
            have hnode : nodeOk L k = true := node_yes (by rw [HX.out]; exact hal) (by rw [HK.out, HM.out]; exact fun j hj => HH.out j (by omega))
            have HNO := Lib.hid hnode
            clear hnode hkx
            go_wp2
            go_roundw
            case rel =>
              refine ⟨k + 1, by omega, by go_num, by rw [HG.out, HGS.out], fun j hj => ?_, HB5.out⟩
              by_cases e : j = k
              · rw [e]; exact HNO.out
              · exact HOK.out j (by omega)
            case measure => simp [intOf]; omega
    · obtain rfl : k = N := by omega
      have hyes : R = decide (groupsF L k ≤ 9) := by
        rw [← HR.out, ← HN.out]
        exact right_end HF.out fun j hj => HOK.out j (by rw [HN.out] at hj; exact hj)
      subst hyes
      have hgl := groupsF_le L k
      have e9 : decide ((groupsF L k : Int) ≤ 9) = decide (groupsF L k ≤ 9) := by rw [Bool.eq_iff_iff]; simp; omega
      go_wp2
      refine bodyPost_ret (v := .bool (decide (groupsF L k ≤ 9))) (by simp [results, Try.results25, go_sem]) rfl ⟨rfl, HB.out⟩
end Go.Proofs.Ytddokdjlmdoebaa
