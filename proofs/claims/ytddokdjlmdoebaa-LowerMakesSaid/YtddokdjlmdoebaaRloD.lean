/- Walks of gimletref11: node, of Groups and Reps. -/
import Derived.Test.YtddokdjlmdoebaaProg
import Derived.WalkKit
import Derived.WalkSpells
import Derived.WalkLawsBesides
import Derived.Handy
import Derived.Lib.Hide
import Derived.Test.YtddokdjlmdoebaaRloC
set_option linter.unusedVariables false
set_option linter.unusedSimpArgs false
namespace Go.Proofs.Ytddokdjlmdoebaa
open Go.RowKit SetP AstP LowP ParP Go.Sort
theorem lens_ge {P : List (List Tm)} {p : List Tm} (h : p ∈ P) : p.length ≤ lens P := by
  unfold lens
  induction P with
  | nil => cases h
  | cons q P ih =>
    rw [List.map_cons, List.sum_cons]
    rcases List.mem_cons.1 h with rfl | h
    · omega
    · have := ih h; omega
theorem part_le {k : Int} {P : List (List Tm)} {p : List Tm} (h : p ∈ P) : p.length ≤ (joinT k P).length := by
  have h1 := lens_ge h
  have h2 := joinT_length k P (by intro e; rw [e] at h; cases h)
  have h3 : 0 < P.length := List.length_pos_of_mem h
  omega
set_option maxRecDepth 100000 in
set_option maxHeartbeats 2000000 in
theorem rnode_group {A : Option Addr} {c : Nat} {L : List Nd} {gN cN : Nat} {AM : Option Addr} {cM : Nat} (hlen : L.length ≤ 100000) (hF : formedF L = true) (i : Nat) (hi : i < L.length) (x : Nd) (hx : L.getD i ndEmpty = x) (w : World) (hT : TreeMem w w.heap.size A L gN AM) (hk : x.kind = 3) (hn : x.kids = 1) (j : Nat) (hj : kidsF L (i : Int) = [j]) (hIH : ∀ j ∈ kidsF L (i : Int), NodeW L A c gN cN AM cM j) (hJ1 : ∀ j ∈ kidsF L (i : Int), (termAt L j).length ≤ 1000000 ∧ 0 < (termAt L j).length ∧ Bnd (termAt L j)) (X : List Tm) (hX : termAt L j = X) :
    Calls Try.prog 56 #[.slice A L.length c, .slice (some ⟨gN, 0, none⟩) L.length cN, .slice AM L.length cM, .int .i64 i] w (RetT w.heap.size (unaT X 7 (numAt L i)) w) := by
  obtain ⟨i0, hi0, hz0, hz1, hz2⟩ := info_parts info_terms
  have HI := Lib.hid hi0; clear hi0
  have HZ0 := Lib.hid hz0; clear hz0
  have HZ1 := Lib.hid hz1; clear hz1
  have HZ2 := Lib.hid hz2; clear hz2
  have hT0 := hT
  have HT := Lib.hid hT
  obtain ⟨b, off, rfl, hb, hn8⟩ := hT.nodes.node hi
  rw [hx] at hn8
  unfold Node8 at hn8
  obtain ⟨n0, n1, n2, n3, n4, n5, n6, n7⟩ := hn8
  have CK := rkids_any (some ⟨b, off, none⟩) c L i w hT.nodes
  have hkl := kidsF_length hF hi
  rw [hx] at hkl
  have hat := formed_at hF hi
  have hstl := St_len (L := L) (k := i) (by omega)
  rw [hx] at hat
  have hkb : (kidsF L (i : Int)).length ≤ 100000 := by omega
  obtain ⟨N, hN⟩ : ∃ N, L.length = N := ⟨_, rfl⟩
  have HN := Lib.hid hN
  have hi2 := hi
  rw [hN] at CK hi2 ⊢
  obtain ⟨K, hK⟩ : ∃ K, kidsF L (i : Int) = K := ⟨_, rfl⟩
  rw [hK] at CK hkl hkb
  have HKE := Lib.hid hK
  obtain ⟨M, hM⟩ : ∃ M, K.length = M := ⟨_, rfl⟩
  rw [hM] at CK hkl hkb
  have HM := Lib.hid hM
  clear hN hK hM hstl hat hT
  rw [HKE.out] at hIH hJ1
  have HIH := Lib.hid hIH
  have HJ1 := Lib.hid hJ1
  have HKJ : Hid (K = [j]) := Lib.hid (HKE.out.symm.trans hj)
  have HXE := Lib.hid hX
  obtain ⟨_, hX0, hXB⟩ := HJ1.out j (by rw [HKJ.out]; simp)
  have hXl := (HJ1.out j (by rw [HKJ.out]; simp)).1
  rw [hX] at hXl hX0
  obtain ⟨bM, offM, rfl, hbM, hcM⟩ := hT0.nums.at_ (j := i) (by rw [Nums_length]; exact hi)
  have hnm : (Nums L L.length).getD i 0 = numAt L i := by
    unfold Nums
    rw [List.getD_eq_getElem?_getD, List.getElem?_map, List.getElem?_range hi]; rfl
  rw [hnm] at hcM
  generalize numAt L i = nm at *
  obtain ⟨kd, kn, n, mm, f⟩ := x
  simp only at hk hn n0 n1 n2 n3 n4 n5 n6 n7 hkl
  subst hk hn
  have hM1 : M = 1 := by rw [hkl]; rfl

  have HU := Lib.hid (fun (base : Nat) (A : Option Addr) (c : Nat) (w : World) (hb : base ≤ w.heap.size) hown => unary_any base A c X 7 nm w hb hXl hown)
  clear hIH hJ1 hF hx hlen hi hkl hX hXB hT0 hnm hj
  generalize hU : unaT X 7 (nm : Int) = U at *
  clear hU
  go_enter Try.func56, Try.ntmps56
  go_wp2_with fail
  refine CK.mono ?_
  rintro e1 w1 ⟨A1, c1, rfl, hrow1, hb1⟩
  have HK := Lib.hid (row_at0 hrow1 (by omega))
  have HB1 := Lib.hid hb1
  have HT1 := Lib.hid ((HT.out.keep hb1).more hb1.size)
  have k0 := ((bcell hb1).1 b (off + i * 8) hb).trans n0
  have k3 := ((bcell hb1).1 b (off + i * 8 + 3) hb).trans n3
  have hb1w : b < w1.heap.size := Nat.lt_of_lt_of_le hb hb1.size
  clear hrow1 hb1 CK
  have kM := (HB1.out.cell (p := ⟨bM, offM + i, none⟩) hbM).trans hcM
  have hbM1 : bM < w1.heap.size := Nat.lt_of_lt_of_le hbM HB1.out.size
  clear n0 n1 n2 n3 n4 n5 n6 n7
  go_wp2_with fail
  go_loopw [10, 11] (fun p j wr => ∃ (m : Nat) (PV : List (Value × List Tm)) (Ap : Option Addr) (cp : Nat), m ≤ M ∧ j = .int .i64 m ∧ p = .slice Ap m cp ∧ KidRows wr w1.heap.size L K m Ap cp PV ∧ Below w1.heap.size w1 wr) (fun _ j _ => M - (intOf j).toNat)
  case atStart => exact ⟨0, [], none, 0, Nat.zero_le _, rfl, rfl, ⟨rfl, by simp, World.ownsRow_nil _ _ _ _, fun p hp => by cases hp⟩, Below.refl _ _⟩
  case round =>
    obtain ⟨m, PV, Ap, cp, hm, rfl, rfl, hKR, hX⟩ := hrel
    have HX := Lib.hid hX
    have HKR := Lib.hid hKR
    clear hX hKR
    by_cases hlt : m < M
    · have hmK : m < K.length := by rw [HM.out]; exact hlt
      obtain ⟨b3, off3, rfl, hb3, hc3⟩ := (HK.out.below HX.out).at_ (j := m) hmK
      have hmem : K.getD m 0 ∈ K := by rw [List.getD_eq_getElem?_getD, List.getElem?_eq_getElem hmK]; exact List.getElem_mem _
      have C5 := HIH.out _ hmem wr ((HT1.out.keep HX.out).more HX.out.size)
      have hj1 := (HJ1.out _ hmem).1
      have HTK : Hid (K.take (m + 1) = K.take m ++ [K.getD m 0]) := Lib.hid (take_snoc hmK)
      rw [HN.out] at C5
      generalize K.getD m 0 = j at *
      clear hmK hmem
      unfold RetT at C5
      go_wp2_with fail
      refine C5.mono ?_
      rintro e5 w5 ⟨A5, c5, rfl, hrow5, hb5⟩
      obtain ⟨hk1, hk2, hk3, hk4⟩ := HKR.out
      have hs1 : w1.heap.size ≤ wr.heap.size := HX.out.size
      have hk3 := row_call hk3 hb5
      have HK4 := Lib.hid (fun p hp => row_call (hk4 p hp) hb5)
      have HR5 := Lib.hid (row_mono hrow5 hs1)
      have HX5 := Lib.hid (below_then HX.out hb5)
      have hs5 : w1.heap.size ≤ w5.heap.size := HX5.out.size
      have HK1 := Lib.hid hk1
      have HK2 := Lib.hid hk2
      have HK3 := Lib.hid hk3
      clear C5 hb5 hrow5 hk4 HKR hk1 hk2 hc3 hb3
      go_wp2_with ((at_builtin; go_must (refine wpList_append_elem_at _ rfl (.tmp 40) (.tmp 49) 131 rfl (w1.heap.size) 31 i0 _ _ _ Try.underlying131 HI.out HZ0.out HZ1.out HZ2.out rfl (by decide) _ _ _ _ ?q1 hk3 _ _ ?q2 (by first | rfl | simp) ?q3 ?q4 (by unfold maxLen; omega) (by omega) (by first | omega | (simp; omega)) ?_); (case q1 => rfl); (case q2 => first | rfl | exact slice_at (by simp)); (case q3 => rfl); (case q4 => simp [Value.oneCell']); intro A4 q4 w4 hown4 hbl4 has4); have HAS := Lib.hid has4; have HO4 := Lib.hid hown4; have HB4 := Lib.hid (HX5.out.trans hbl4); clear has4 hown4 hbl4)
      go_roundw
      case rel =>
        have KR : KidRows w4 w1.heap.size L K (m + 1) A4 q4 (PV ++ [(.slice A5 (termAt L j).length c5, termAt L j)]) := by
          refine ⟨by rw [List.length_append, HK1.out]; rfl, by rw [List.map_append, HK2.out, HTK.out, List.map_append]; rfl, by rw [List.map_append]; exact HO4.out, fun p hp => ?_⟩
          rcases List.mem_append.1 hp with hp | hp
          · exact (row_aside (HK4.out p hp) HAS.out (row_apart HK3.out (HK4.out p hp) (by decide))).1
          · rw [List.mem_singleton.1 hp]
            exact (row_aside HR5.out HAS.out (row_apart HK3.out HR5.out (by decide))).1
        first
          | exact ⟨m + 1, _, A4, q4, by omega, by go_num, rfl, KR, HB4.out⟩
          | exact ⟨m + 1, by omega, by omega, _, A4, q4, ⟨rfl, rfl, rfl⟩, KR, HB4.out⟩
      case measure => simp [intOf]; omega
    · obtain rfl : m = M := by omega
      have htk : K.take m = K := by rw [← HM.out, List.take_length]
      clear hlt hm
      skip
      have b0 := (HX.out.cell (p := ⟨b, off + i * 8, none⟩) hb1w).trans k0
      have b3 := (HX.out.cell (p := ⟨b, off + i * 8 + 3, none⟩) hb1w).trans k3
      obtain ⟨hk1, hk2, hk3, hk4⟩ := HKR.out
      obtain ⟨gp, rfl, hgpb, hgp, hgpc, hcell⟩ := row_cell hk3 (by omega)
      rw [htk] at hk2
      have HB2 := Lib.hid (HB1.out.trans (HX.out.mono HB1.out.size))
      have hw1 := HX.out.size
      have hPV : ∃ V, PV = [(V, X)] := by
        have hk1 : PV.length = 1 := by omega
        cases PV with
        | nil => simp at hk1
        | cons p PV =>
          obtain ⟨V, X'⟩ := p
          cases PV with
          | nil =>
            rw [HKJ.out] at hk2
            simp at hk2
            exact ⟨V, by rw [hk2, HXE.out]⟩
          | cons q PV => simp at hk1
      obtain ⟨V, rfl⟩ := hPV
      have hrow := hk4 (V, X) (by simp)
      simp only at hrow
      obtain ⟨AV, cV, rfl⟩ := row_shape hrow
      have kp := (hcell 0 (by omega)).trans rfl
      clear hk1 hk2 hk3 hk4 HKR htk hcell
      have kM2 := (HX.out.cell (p := ⟨bM, offM + i, none⟩) hbM1).trans kM
      clear k0 k3 kM
      have CU := HU.out w1.heap.size AV cV wr.drew hw1 hrow.drew
      unfold RetT at CU
      clear HU
      have HC := Lib.hid (Below.refl w1.heap.size wr)
      go_wp2_with fail
      go_region_with (first | (go_at_call 95; go_must (refine CU.mono ?_; rintro e7 w7 ⟨A7, c7, rfl, hown7, hb7⟩)))
      all_goals
        have HB7 := Lib.hid (HB2.out.drew.trans (hb7.mono HB1.out.size))
        have H7 := Lib.hid (row_mono hown7 HB1.out.size)
        clear hb7 hown7 CU kp hrow
        go_wp2_with fail
        go_ret
        exact ⟨A7, c7, rfl, H7.out, HB7.out⟩
/-- What is put together of a Rep: copies of the one, and what more. -/
def AllRows (wr : World) (B : Nat) (n1 : Nat) (X1 : List Tm) (Ao : Option Addr) (co : Nat) (k : Nat) (Aa : Option Addr) (ca : Nat) : Prop :=
  wr.ownsRow B 31 1 (.slice Aa k ca) k (List.replicate k (.slice Ao n1 co))
theorem more_cases {n m : Int} (hr : rightB n m = true) (hm : m ≠ 0) (nl : Bool) (X : List Tm) : ∃ Mu : Nat, mustN n nl = Mu ∧ Mu ≤ 99 ∧
    ((m < 0 ∧ moreN n m nl = -1 ∧ repT X n m nl = joinT 3 (List.replicate Mu (unaT X 8 0) ++ [unaT (unaT X 8 0) 5 0])) ∨
     (∃ y : Nat, y ≤ 99 ∧ moreN n m nl = (y : Int) + 1 ∧ repT X n m nl = joinT 3 (List.replicate Mu (unaT X 8 0) ++ [lacksT (unaT X 8 0) y])) ∨
     (0 < Mu ∧ moreN n m nl = 0 ∧ repT X n m nl = joinT 3 (List.replicate Mu (unaT X 8 0)))) := by
  obtain ⟨m0, m1, y0, y1, c0, c1⟩ := cop_bd hr nl
  obtain ⟨Mu, hMu⟩ : ∃ M : Nat, mustN n nl = M := ⟨_, (Int.toNat_of_nonneg m0).symm⟩
  refine ⟨Mu, hMu, by omega, ?_⟩
  have hne := partsT_ne (X := unaT X 8 0) (nl := nl) hr hm
  have hrep : repT X n m nl = joinT 3 (partsT (unaT X 8 0) n m nl) := by
    unfold repT
    rw [if_neg]
    simpa using hm
  rw [hrep]
  unfold partsT at hne ⊢
  unfold moreN
  rw [hMu, Int.toNat_natCast] at hne ⊢
  by_cases hneg : m < 0
  · left
    rw [if_pos hneg, if_pos hneg]
    exact ⟨hneg, rfl, rfl⟩
  · rw [if_neg hneg] at hne ⊢
    rw [if_neg hneg]
    by_cases hp : 0 < mayN n m nl
    · right; left
      obtain ⟨y, hy⟩ : ∃ y : Nat, mayN n m nl = (y : Int) + 1 := ⟨(mayN n m nl).toNat - 1, by omega⟩
      refine ⟨y, by omega, hy, ?_⟩
      rw [if_pos hp, hy, show ((y : Int) + 1).toNat - 1 = y by omega]
    · right; right
      rw [if_neg hp] at hne ⊢
      refine ⟨?_, by omega, by rw [List.append_nil]⟩
      rcases Nat.eq_zero_or_pos Mu with h | h
      · rw [h] at hne; exact absurd rfl hne
      · exact h
set_option maxRecDepth 100000 in
theorem join_rows {wr w : World} {base b1 b8 n : Nat} {PV : List (Value × List Tm)} {Aa : Option Addr} {ca : Nat} (k : Int) (h0 : 0 < n) (hn : PV.length = n) (hn9 : n ≤ 100000) (hall : wr.ownsRow b8 31 1 (.slice Aa n ca) n (PV.map Prod.fst))
    (hrows : ∀ p ∈ PV, wr.ownsRow b1 47 8 p.1 p.2.length (flatT p.2)) (hbnd : ∀ p ∈ PV, Bnd p.2 ∧ 0 < p.2.length) (hlen : (joinT k (PV.map Prod.snd)).length ≤ 1000000) (hb1 : base ≤ b1) (hw : Below base w wr) (hs : base ≤ wr.heap.size) :
    Calls Try.prog 96 #[.slice Aa n ca, .int .i64 k] wr (RetT base (joinT k (PV.map Prod.snd)) w) := by
  obtain ⟨g, rfl, _, hg, hc, hcell⟩ := row_cell hall h0
  subst hn
  have := rjoin_any k b1 wr.heap.size PV g 0 ca wr (by intro e; rw [e] at h0; simp at h0) ⟨hg, fun j hj => by rw [Nat.zero_add]; exact hcell j (by omega), fun p hp => ⟨hrows p hp, fun q hq => (own_lt (hrows p hp) hq).2⟩⟩ (Nat.le_refl _) hc hn9 hbnd hlen
  exact this.mono fun e w' h => JoinPost.ret h hs hw fun p hp => row_mono (hrows p hp) hb1
set_option maxRecDepth 100000 in
set_option maxHeartbeats 2000000 in
theorem rnode_rep3 {A : Option Addr} {c : Nat} {L : List Nd} {gN cN : Nat} {AM : Option Addr} {cM : Nat} (hlen : L.length ≤ 100000) (hF : formedF L = true) (i : Nat) (hi : i < L.length) (x : Nd) (hx : L.getD i ndEmpty = x) (w : World) (hT : TreeMem w w.heap.size A L gN AM) (n mm : Int) (f : Nat → Bool) (hk : x = ⟨4, 1, n, mm, f⟩) (hm : mm ≠ 0) (nl : Bool) (hr : rightB n mm = true) (j : Nat) (hj : kidsF L (i : Int) = [j]) (hnl : nullAt L j = nl) (hIH : ∀ j ∈ kidsF L (i : Int), NodeW L A c gN cN AM cM j) (hJ1 : ∀ j ∈ kidsF L (i : Int), (termAt L j).length ≤ 1000000 ∧ 0 < (termAt L j).length ∧ Bnd (termAt L j)) (X : List Tm) (hX : termAt L j = X) (Mu : Nat) (hMu : mustN n nl = Mu) (hMu9 : Mu ≤ 99) (hMu0 : 0 < Mu) (hMo : moreN n mm nl = 0) (hl : (joinT 3 (List.replicate Mu (unaT X 8 0))).length ≤ 1000000) :
    Calls Try.prog 56 #[.slice A L.length c, .slice (some ⟨gN, 0, none⟩) L.length cN, .slice AM L.length cM, .int .i64 i] w (RetT w.heap.size (joinT 3 (List.replicate Mu (unaT X 8 0))) w) := by
  subst hk
  obtain ⟨i0, hi0, hz0, hz1, hz2⟩ := info_parts info_terms
  have HI := Lib.hid hi0; clear hi0
  have HZ0 := Lib.hid hz0; clear hz0
  have HZ1 := Lib.hid hz1; clear hz1
  have HZ2 := Lib.hid hz2; clear hz2
  have HT := Lib.hid hT
  obtain ⟨b, off, rfl, hb, hn8⟩ := hT.nodes.node hi
  rw [hx] at hn8
  unfold Node8 at hn8
  obtain ⟨n0, n1, n2, n3, n4, n5, n6, n7⟩ := hn8
  have CK := rkids_any (some ⟨b, off, none⟩) c L i w hT.nodes
  have hkl := kidsF_length hF hi
  rw [hx] at hkl
  have hat := formed_at hF hi
  have hstl := St_len (L := L) (k := i) (by omega)
  rw [hx] at hat
  have hkb : (kidsF L (i : Int)).length ≤ 100000 := by omega
  obtain ⟨N, hN⟩ : ∃ N, L.length = N := ⟨_, rfl⟩
  have HN := Lib.hid hN
  have hi2 := hi
  rw [hN] at CK hi2 ⊢
  obtain ⟨K, hK⟩ : ∃ K, kidsF L (i : Int) = K := ⟨_, rfl⟩
  rw [hK] at CK hkl hkb
  have HKE := Lib.hid hK
  obtain ⟨M, hM⟩ : ∃ M, K.length = M := ⟨_, rfl⟩
  rw [hM] at CK hkl hkb
  have HM := Lib.hid hM
  clear hN hK hM hstl hat hT
  rw [HKE.out] at hIH hJ1
  have HIH := Lib.hid hIH
  have HJ1 := Lib.hid hJ1
  have HKJ : Hid (K = [j]) := Lib.hid (HKE.out.symm.trans hj)
  have HXE := Lib.hid hX
  obtain ⟨hXl, hX0, hXB⟩ := HJ1.out j (by rw [HKJ.out]; simp)
  rw [hX] at hXl hX0 hXB
  have hjN : j < N := by have := kidsF_lt hF hi (j := j) (by rw [hj]; simp); omega
  have HNL : Hid (nullAt L j = nl) := Lib.hid hnl
  have C1 := rcopies_any ⟨4, 1, n, mm, f⟩ nl hr
  unfold ndCells at C1
  simp only at C1 hMu hMo n0 n1 n2 n3 n4 n5 n6 n7 hkl
  rw [hMu, hMo] at C1
  have HC1 := Lib.hid C1
  clear C1
  have hM1 : M = 1 := by rw [hkl]; rfl
  have hoB : Bnd (unaT X 8 0) := hXB.una 8 0
  have hoP : 0 < (unaT X 8 0).length := by rw [unaT_length]; omega
  have HOB := Lib.hid hoB
  have hmm0 : (mm == 0) = false := beq_eq_false_iff_ne.2 hm
  have hmm1 : (mm != 0) = true := by simp [bne, hmm0]
  have h2 : (unaT X 8 0).length ≤ 1000000 := Nat.le_trans (part_le (List.mem_replicate.2 ⟨by omega, rfl⟩)) hl
  have HLL := Lib.hid hl
  clear hl
  clear hIH hJ1 hF hx hlen hi hkl hX hnl hMu hMo hr hj hoB
  generalize hO1 : unaT X 8 0 = one at *
  have HO1 := Lib.hid hO1
  clear hO1
  obtain ⟨n9, hn9⟩ : ∃ n9, one.length = n9 := ⟨_, rfl⟩
  have HN9 := Lib.hid hn9
  have hol : n9 ≤ 1000000 := by omega
  have hop : 0 < n9 := by omega
  have HM1 := Lib.hid hM1
  clear hM1 hn9
  go_enter Try.func56, Try.ntmps56
  go_wp2_with fail
  refine CK.mono ?_
  rintro e1 w1 ⟨A1, c1, rfl, hrow1, hb1⟩
  have HK := Lib.hid (row_at0 hrow1 (by omega))
  have HB1 := Lib.hid hb1
  have HT1 := Lib.hid ((HT.out.keep hb1).more hb1.size)
  have k0 := ((bcell hb1).1 b (off + i * 8) hb).trans n0
  have k3 := ((bcell hb1).1 b (off + i * 8 + 3) hb).trans n3
  have hb1w : b < w1.heap.size := Nat.lt_of_lt_of_le hb hb1.size
  clear hrow1 hb1 CK
  have k00 := k0
  have k33 := k3
  go_wp2_with fail
  go_loopw [10, 11] (fun p j wr => ∃ (m : Nat) (PV : List (Value × List Tm)) (Ap : Option Addr) (cp : Nat), m ≤ M ∧ j = .int .i64 m ∧ p = .slice Ap m cp ∧ KidRows wr w1.heap.size L K m Ap cp PV ∧ Below w1.heap.size w1 wr) (fun _ j _ => M - (intOf j).toNat)
  case atStart => exact ⟨0, [], none, 0, Nat.zero_le _, rfl, rfl, ⟨rfl, by simp, World.ownsRow_nil _ _ _ _, fun p hp => by cases hp⟩, Below.refl _ _⟩
  case round =>
    obtain ⟨m, PV, Ap, cp, hm, rfl, rfl, hKR, hX⟩ := hrel
    have HX := Lib.hid hX
    have HKR := Lib.hid hKR
    clear hX hKR
    by_cases hlt : m < M
    · have hmK : m < K.length := by rw [HM.out]; exact hlt
      obtain ⟨b3, off3, rfl, hb3, hc3⟩ := (HK.out.below HX.out).at_ (j := m) hmK
      have hmem : K.getD m 0 ∈ K := by rw [List.getD_eq_getElem?_getD, List.getElem?_eq_getElem hmK]; exact List.getElem_mem _
      have C5 := HIH.out _ hmem wr ((HT1.out.keep HX.out).more HX.out.size)
      have hj1 := (HJ1.out _ hmem).1
      have HTK : Hid (K.take (m + 1) = K.take m ++ [K.getD m 0]) := Lib.hid (take_snoc hmK)
      rw [HN.out] at C5
      generalize K.getD m 0 = j at *
      clear hmK hmem
      unfold RetT at C5
      go_wp2_with fail
      refine C5.mono ?_
      rintro e5 w5 ⟨A5, c5, rfl, hrow5, hb5⟩
      obtain ⟨hk1, hk2, hk3, hk4⟩ := HKR.out
      have hs1 : w1.heap.size ≤ wr.heap.size := HX.out.size
      have hk3 := row_call hk3 hb5
      have HK4 := Lib.hid (fun p hp => row_call (hk4 p hp) hb5)
      have HR5 := Lib.hid (row_mono hrow5 hs1)
      have HX5 := Lib.hid (below_then HX.out hb5)
      have hs5 : w1.heap.size ≤ w5.heap.size := HX5.out.size
      have HK1 := Lib.hid hk1
      have HK2 := Lib.hid hk2
      have HK3 := Lib.hid hk3
      clear C5 hb5 hrow5 hk4 HKR hk1 hk2 hc3 hb3
      go_wp2_with ((at_builtin; go_must (refine wpList_append_elem_at _ rfl (.tmp 40) (.tmp 49) 131 rfl (w1.heap.size) 31 i0 _ _ _ Try.underlying131 HI.out HZ0.out HZ1.out HZ2.out rfl (by decide) _ _ _ _ ?q1 hk3 _ _ ?q2 (by first | rfl | simp) ?q3 ?q4 (by unfold maxLen; omega) (by omega) (by first | omega | (simp; omega)) ?_); (case q1 => rfl); (case q2 => first | rfl | exact slice_at (by simp)); (case q3 => rfl); (case q4 => simp [Value.oneCell']); intro A4 q4 w4 hown4 hbl4 has4); have HAS := Lib.hid has4; have HO4 := Lib.hid hown4; have HB4 := Lib.hid (HX5.out.trans hbl4); clear has4 hown4 hbl4)
      go_roundw
      case rel =>
        have KR : KidRows w4 w1.heap.size L K (m + 1) A4 q4 (PV ++ [(.slice A5 (termAt L j).length c5, termAt L j)]) := by
          refine ⟨by rw [List.length_append, HK1.out]; rfl, by rw [List.map_append, HK2.out, HTK.out, List.map_append]; rfl, by rw [List.map_append]; exact HO4.out, fun p hp => ?_⟩
          rcases List.mem_append.1 hp with hp | hp
          · exact (row_aside (HK4.out p hp) HAS.out (row_apart HK3.out (HK4.out p hp) (by decide))).1
          · rw [List.mem_singleton.1 hp]
            exact (row_aside HR5.out HAS.out (row_apart HK3.out HR5.out (by decide))).1
        first
          | exact ⟨m + 1, _, A4, q4, by omega, by go_num, rfl, KR, HB4.out⟩
          | exact ⟨m + 1, by omega, by omega, _, A4, q4, ⟨rfl, rfl, rfl⟩, KR, HB4.out⟩
      case measure => simp [intOf]; omega
    · obtain rfl : m = M := by omega
      have htk : K.take m = K := by rw [← HM.out, List.take_length]
      clear hlt hm
      have hM1 := HM1.out
      have b0 := (HX.out.cell (p := ⟨b, off + i * 8, none⟩) hb1w).trans k0
      have b3 := (HX.out.cell (p := ⟨b, off + i * 8 + 3, none⟩) hb1w).trans k3
      obtain ⟨hk1, hk2, hk3, hk4⟩ := HKR.out
      obtain ⟨gp, rfl, hgpb, hgp, hgpc, hcell⟩ := row_cell hk3 (by omega)
      rw [htk] at hk2
      have HB2 := Lib.hid (HB1.out.trans (HX.out.mono HB1.out.size))
      have hw1 := HX.out.size
      have hPV : ∃ V, PV = [(V, X)] := by
        have hk1 : PV.length = 1 := by omega
        cases PV with
        | nil => simp at hk1
        | cons p PV =>
          obtain ⟨V, X'⟩ := p
          cases PV with
          | nil =>
            rw [HKJ.out] at hk2
            simp at hk2
            exact ⟨V, by rw [hk2, HXE.out]⟩
          | cons q PV => simp at hk1
      obtain ⟨V, rfl⟩ := hPV
      have hrow := hk4 (V, X) (by simp)
      simp only at hrow
      obtain ⟨AV, cV, rfl⟩ := row_shape hrow
      have kp := (hcell 0 (by omega)).trans rfl
      clear hk1 hk2 hk3 hk4 HKR htk hcell
      clear k0 k3 k00 k33
      have CU := unary_any w1.heap.size AV cV X 8 0 wr hw1 hXl hrow
      rw [HO1.out] at CU
      unfold RetT at CU
      rw [HN9.out] at CU
      go_wp2_with fail
      refine CU.mono ?_
      rintro e7 w7 ⟨A7, c7, rfl, hown7, hb7⟩
      have HB7 := Lib.hid (HB2.out.trans (hb7.mono HB1.out.size))
      have HX7 := Lib.hid (HX.out.trans hb7)
      have H7 := Lib.hid hown7
      have hb7w : w1.heap.size ≤ w7.heap.size := HX7.out.size
      obtain ⟨b9, off9, rfl, hb9, hc9⟩ := (HK.out.below HX7.out).at_ (j := 0) (by rw [HM.out]; omega)
      have hkc : K.getD 0 0 = j := by rw [HKJ.out]; rfl
      rw [hkc] at hc9
      obtain ⟨cs, hs1, hs2⟩ := HT1.out.null
      have hgN1 := HT1.out.gN
      have hcn := (HX7.out.cell (p := ⟨gN, j, none⟩) hgN1).trans ((hs1.cell j).trans (hs2 j (by rw [HN.out]; exact hjN)))
      rw [HNL.out] at hcn
      have hbw7 : b < w7.heap.size := Nat.lt_of_lt_of_le hb HB7.out.size
      have hgw7 : gN < w7.heap.size := Nat.lt_of_lt_of_le hgN1 hb7w
      have hb9w : b9 < w7.heap.size := Nat.lt_of_lt_of_le hb9 hb7w
      have r0 : ∀ d os, (grow (redrawn w7 d) os).cell? ⟨b, off + i * 8, none⟩ = _ := fun d os => ((below_regrown w7 d os).cell (p := ⟨b, off + i * 8, none⟩) hbw7).trans ((HB7.out.cell (p := ⟨b, off + i * 8, none⟩) hb).trans n0)
      have r1 : ∀ d os, (grow (redrawn w7 d) os).cell? ⟨b, off + i * 8 + 1, none⟩ = _ := fun d os => ((below_regrown w7 d os).cell (p := ⟨b, off + i * 8 + 1, none⟩) hbw7).trans ((HB7.out.cell (p := ⟨b, off + i * 8 + 1, none⟩) hb).trans n1)
      have r2 : ∀ d os, (grow (redrawn w7 d) os).cell? ⟨b, off + i * 8 + 2, none⟩ = _ := fun d os => ((below_regrown w7 d os).cell (p := ⟨b, off + i * 8 + 2, none⟩) hbw7).trans ((HB7.out.cell (p := ⟨b, off + i * 8 + 2, none⟩) hb).trans n2)
      have r3 : ∀ d os, (grow (redrawn w7 d) os).cell? ⟨b, off + i * 8 + 3, none⟩ = _ := fun d os => ((below_regrown w7 d os).cell (p := ⟨b, off + i * 8 + 3, none⟩) hbw7).trans ((HB7.out.cell (p := ⟨b, off + i * 8 + 3, none⟩) hb).trans n3)
      have r4 : ∀ d os, (grow (redrawn w7 d) os).cell? ⟨b, off + i * 8 + 4, none⟩ = _ := fun d os => ((below_regrown w7 d os).cell (p := ⟨b, off + i * 8 + 4, none⟩) hbw7).trans ((HB7.out.cell (p := ⟨b, off + i * 8 + 4, none⟩) hb).trans n4)
      have r5 : ∀ d os, (grow (redrawn w7 d) os).cell? ⟨b, off + i * 8 + 5, none⟩ = _ := fun d os => ((below_regrown w7 d os).cell (p := ⟨b, off + i * 8 + 5, none⟩) hbw7).trans ((HB7.out.cell (p := ⟨b, off + i * 8 + 5, none⟩) hb).trans n5)
      have r6 : ∀ d os, (grow (redrawn w7 d) os).cell? ⟨b, off + i * 8 + 6, none⟩ = _ := fun d os => ((below_regrown w7 d os).cell (p := ⟨b, off + i * 8 + 6, none⟩) hbw7).trans ((HB7.out.cell (p := ⟨b, off + i * 8 + 6, none⟩) hb).trans n6)
      have r7 : ∀ d os, (grow (redrawn w7 d) os).cell? ⟨b, off + i * 8 + 7, none⟩ = _ := fun d os => ((below_regrown w7 d os).cell (p := ⟨b, off + i * 8 + 7, none⟩) hbw7).trans ((HB7.out.cell (p := ⟨b, off + i * 8 + 7, none⟩) hb).trans n7)
      have r8 : ∀ d os, (grow (redrawn w7 d) os).cell? ⟨b9, off9, none⟩ = _ := fun d os => ((below_regrown w7 d os).cell (p := ⟨b9, off9, none⟩) hb9w).trans hc9
      have r9 : ∀ d os, (grow (redrawn w7 d) os).cell? ⟨gN, j, none⟩ = _ := fun d os => ((below_regrown w7 d os).cell (p := ⟨gN, j, none⟩) hgw7).trans hcn
      clear CU hown7 hb7 hs1 hs2 hc9 hcn kp hrow
      have C1 := HC1.out
      go_wp2_with fail
      refine wp_region_quiet_below (by kernel_rfl) (by kernel_rfl) ?_
      repeat (first | go_big_quiet_step ((first | (go_at_call 52; exact Calls.regrown_of (C1 _)))) | quiet_step ((first | (go_at_call 52; exact Calls.regrown_of (C1 _)))))
      refine wpQuiet_nil ?_
      intro _ hw'
      obtain ⟨⟨qd, qos⟩, hw''⟩ := hw'
      subst hw''
      have hbW := below_regrown w7 qd qos
      have HB8 := Lib.hid (below_then HB7.out hbW)
      have HX8 := Lib.hid (HX7.out.trans (hbW.mono hb7w))
      have H8 := Lib.hid (row_call H7.out hbW)
      generalize grow (redrawn w7 qd) qos = w8 at *
      clear hbW r0 r1 r2 r3 r4 r5 r6 r7 r8 r9 C1 H7 HB7 HX7 hb7w hbw7 hgw7 hb9w b0 b3
      go_wp2_with fail
      go_loopw [15, 16] (fun p k wr => ∃ (k' : Nat) (Aa : Option Addr) (ca : Nat), k' ≤ Mu ∧ k = .int .i64 k' ∧ p = .slice Aa k' ca ∧ wr.ownsRow w8.heap.size 31 1 (.slice Aa k' ca) k' (List.replicate k' (.slice A7 n9 c7)) ∧ wr.ownsRow w1.heap.size 47 8 (.slice A7 n9 c7) n9 (flatT one) ∧ Below w8.heap.size w8 wr) (fun _ k _ => Mu - (intOf k).toNat)
      case atStart => exact ⟨0, none, 0, Nat.zero_le _, rfl, rfl, World.ownsRow_nil _ _ _ _, H8.out, Below.refl _ _⟩
      case round =>
        clear H8
        obtain ⟨k, Aa, ca, hk, rfl, rfl, hall, hone, hY⟩ := hrel
        have HY := Lib.hid hY
        have HONE := Lib.hid hone
        have hs8 : w8.heap.size ≤ wr.heap.size := HY.out.size
        clear hY hone
        by_cases hlt : k < Mu
        · have HALL := Lib.hid hall
          go_wp2_with ((at_builtin; go_must (refine wpList_append_elem_at _ rfl (.tmp 122) (.tmp 124) 131 rfl (w8.heap.size) 31 i0 _ _ _ Try.underlying131 HI.out HZ0.out HZ1.out HZ2.out rfl (by decide) _ _ _ _ ?q1 hall _ _ ?q2 (by first | rfl | simp) ?q3 ?q4 (by unfold maxLen; omega) (by omega) (by first | omega | (simp; omega)) ?_); (case q1 => rfl); (case q2 => first | rfl | exact slice_at (by simp)); (case q3 => rfl); (case q4 => simp [Value.oneCell']); intro A4 q4 w4 hown4 hbl4 has4); have HAS := Lib.hid has4; have HO4 := Lib.hid hown4; have HB4 := Lib.hid (HY.out.trans hbl4); clear has4 hown4 hbl4)
          go_roundw
          case rel => exact ⟨k + 1, A4, q4, by omega, by go_num, rfl, by rw [List.replicate_succ']; exact HO4.out, (row_aside HONE.out HAS.out (row_apart HALL.out HONE.out (by decide))).1, HB4.out⟩
          case measure => simp [intOf]; omega
        · obtain rfl : k = Mu := by omega
          clear hlt hk
          skip
          have CJ := join_rows (w := w) (base := w.heap.size) (PV := List.replicate k (.slice A7 n9 c7, one)) 3 hMu0 (by simp) (by omega) (by rw [List.map_replicate]; exact hall) (by
            intro p hp
            rw [(List.mem_replicate.1 hp).2]
            show World.ownsRow _ _ _ _ _ one.length _
            rw [HN9.out]; exact HONE.out) (by
            intro p hp
            rw [(List.mem_replicate.1 hp).2]
            exact ⟨HOB.out, hoP⟩) (by rw [List.map_replicate]; exact HLL.out) HB1.out.size (HB8.out.trans (HY.out.mono HB8.out.size)) (Nat.le_trans HB8.out.size hs8)
          rw [List.map_replicate] at CJ
          unfold RetT at CJ
          go_wp2_with fail
          refine CJ.mono ?_
          rintro e20 w20 ⟨A20, c20, rfl, hown20, hb20⟩
          have HB20 := Lib.hid hb20
          have H20 := Lib.hid hown20
          clear CJ hown20 hb20
          go_wp2_with fail
          go_ret
          exact ⟨A20, c20, rfl, H20.out, HB20.out⟩
set_option maxRecDepth 100000 in
set_option maxHeartbeats 2000000 in
theorem rnode_rep1 {A : Option Addr} {c : Nat} {L : List Nd} {gN cN : Nat} {AM : Option Addr} {cM : Nat} (hlen : L.length ≤ 100000) (hF : formedF L = true) (i : Nat) (hi : i < L.length) (x : Nd) (hx : L.getD i ndEmpty = x) (w : World) (hT : TreeMem w w.heap.size A L gN AM) (n mm : Int) (f : Nat → Bool) (hk : x = ⟨4, 1, n, mm, f⟩) (hm : mm ≠ 0) (nl : Bool) (hr : rightB n mm = true) (j : Nat) (hj : kidsF L (i : Int) = [j]) (hnl : nullAt L j = nl) (hIH : ∀ j ∈ kidsF L (i : Int), NodeW L A c gN cN AM cM j) (hJ1 : ∀ j ∈ kidsF L (i : Int), (termAt L j).length ≤ 1000000 ∧ 0 < (termAt L j).length ∧ Bnd (termAt L j)) (X : List Tm) (hX : termAt L j = X) (Mu : Nat) (hMu : mustN n nl = Mu) (hMu9 : Mu ≤ 99) (hneg : mm < 0) (hMo : moreN n mm nl = -1) (hl : (joinT 3 (List.replicate Mu (unaT X 8 0) ++ [unaT (unaT X 8 0) 5 0])).length ≤ 1000000) :
    Calls Try.prog 56 #[.slice A L.length c, .slice (some ⟨gN, 0, none⟩) L.length cN, .slice AM L.length cM, .int .i64 i] w (RetT w.heap.size (joinT 3 (List.replicate Mu (unaT X 8 0) ++ [unaT (unaT X 8 0) 5 0])) w) := by
  subst hk
  obtain ⟨i0, hi0, hz0, hz1, hz2⟩ := info_parts info_terms
  have HI := Lib.hid hi0; clear hi0
  have HZ0 := Lib.hid hz0; clear hz0
  have HZ1 := Lib.hid hz1; clear hz1
  have HZ2 := Lib.hid hz2; clear hz2
  have HT := Lib.hid hT
  obtain ⟨b, off, rfl, hb, hn8⟩ := hT.nodes.node hi
  rw [hx] at hn8
  unfold Node8 at hn8
  obtain ⟨n0, n1, n2, n3, n4, n5, n6, n7⟩ := hn8
  have CK := rkids_any (some ⟨b, off, none⟩) c L i w hT.nodes
  have hkl := kidsF_length hF hi
  rw [hx] at hkl
  have hat := formed_at hF hi
  have hstl := St_len (L := L) (k := i) (by omega)
  rw [hx] at hat
  have hkb : (kidsF L (i : Int)).length ≤ 100000 := by omega
  obtain ⟨N, hN⟩ : ∃ N, L.length = N := ⟨_, rfl⟩
  have HN := Lib.hid hN
  have hi2 := hi
  rw [hN] at CK hi2 ⊢
  obtain ⟨K, hK⟩ : ∃ K, kidsF L (i : Int) = K := ⟨_, rfl⟩
  rw [hK] at CK hkl hkb
  have HKE := Lib.hid hK
  obtain ⟨M, hM⟩ : ∃ M, K.length = M := ⟨_, rfl⟩
  rw [hM] at CK hkl hkb
  have HM := Lib.hid hM
  clear hN hK hM hstl hat hT
  rw [HKE.out] at hIH hJ1
  have HIH := Lib.hid hIH
  have HJ1 := Lib.hid hJ1
  have HKJ : Hid (K = [j]) := Lib.hid (HKE.out.symm.trans hj)
  have HXE := Lib.hid hX
  obtain ⟨hXl, hX0, hXB⟩ := HJ1.out j (by rw [HKJ.out]; simp)
  rw [hX] at hXl hX0 hXB
  have hjN : j < N := by have := kidsF_lt hF hi (j := j) (by rw [hj]; simp); omega
  have HNL : Hid (nullAt L j = nl) := Lib.hid hnl
  have C1 := rcopies_any ⟨4, 1, n, mm, f⟩ nl hr
  unfold ndCells at C1
  simp only at C1 hMu hMo n0 n1 n2 n3 n4 n5 n6 n7 hkl
  rw [hMu, hMo] at C1
  have HC1 := Lib.hid C1
  clear C1
  have hM1 : M = 1 := by rw [hkl]; rfl
  have hoB : Bnd (unaT X 8 0) := hXB.una 8 0
  have hoP : 0 < (unaT X 8 0).length := by rw [unaT_length]; omega
  have HOB := Lib.hid hoB
  have hmm0 : (mm == 0) = false := beq_eq_false_iff_ne.2 hm
  have hmm1 : (mm != 0) = true := by simp [bne, hmm0]
  have h2 : (unaT X 8 0).length ≤ 1000000 := by
    have := Nat.le_trans (part_le (k := 3) (List.mem_append.2 (.inr (List.mem_singleton.2 (rfl : unaT (unaT X 8 0) 5 0 = _))))) hl
    rw [unaT_length] at this
    omega
  have HLL := Lib.hid hl
  clear hl
  clear hIH hJ1 hF hx hlen hi hkl hX hnl hMu hMo hr hj hoB
  generalize hO1 : unaT X 8 0 = one at *
  have HO1 := Lib.hid hO1
  clear hO1
  obtain ⟨n9, hn9⟩ : ∃ n9, one.length = n9 := ⟨_, rfl⟩
  have HN9 := Lib.hid hn9
  have hol : n9 ≤ 1000000 := by omega
  have hop : 0 < n9 := by omega
  have HM1 := Lib.hid hM1
  clear hM1 hn9
  go_enter Try.func56, Try.ntmps56
  go_wp2_with fail
  refine CK.mono ?_
  rintro e1 w1 ⟨A1, c1, rfl, hrow1, hb1⟩
  have HK := Lib.hid (row_at0 hrow1 (by omega))
  have HB1 := Lib.hid hb1
  have HT1 := Lib.hid ((HT.out.keep hb1).more hb1.size)
  have k0 := ((bcell hb1).1 b (off + i * 8) hb).trans n0
  have k3 := ((bcell hb1).1 b (off + i * 8 + 3) hb).trans n3
  have hb1w : b < w1.heap.size := Nat.lt_of_lt_of_le hb hb1.size
  clear hrow1 hb1 CK
  have k00 := k0
  have k33 := k3
  go_wp2_with fail
  go_loopw [10, 11] (fun p j wr => ∃ (m : Nat) (PV : List (Value × List Tm)) (Ap : Option Addr) (cp : Nat), m ≤ M ∧ j = .int .i64 m ∧ p = .slice Ap m cp ∧ KidRows wr w1.heap.size L K m Ap cp PV ∧ Below w1.heap.size w1 wr) (fun _ j _ => M - (intOf j).toNat)
  case atStart => exact ⟨0, [], none, 0, Nat.zero_le _, rfl, rfl, ⟨rfl, by simp, World.ownsRow_nil _ _ _ _, fun p hp => by cases hp⟩, Below.refl _ _⟩
  case round =>
    obtain ⟨m, PV, Ap, cp, hm, rfl, rfl, hKR, hX⟩ := hrel
    have HX := Lib.hid hX
    have HKR := Lib.hid hKR
    clear hX hKR
    by_cases hlt : m < M
    · have hmK : m < K.length := by rw [HM.out]; exact hlt
      obtain ⟨b3, off3, rfl, hb3, hc3⟩ := (HK.out.below HX.out).at_ (j := m) hmK
      have hmem : K.getD m 0 ∈ K := by rw [List.getD_eq_getElem?_getD, List.getElem?_eq_getElem hmK]; exact List.getElem_mem _
      have C5 := HIH.out _ hmem wr ((HT1.out.keep HX.out).more HX.out.size)
      have hj1 := (HJ1.out _ hmem).1
      have HTK : Hid (K.take (m + 1) = K.take m ++ [K.getD m 0]) := Lib.hid (take_snoc hmK)
      rw [HN.out] at C5
      generalize K.getD m 0 = j at *
      clear hmK hmem
      unfold RetT at C5
      go_wp2_with fail
      refine C5.mono ?_
      rintro e5 w5 ⟨A5, c5, rfl, hrow5, hb5⟩
      obtain ⟨hk1, hk2, hk3, hk4⟩ := HKR.out
      have hs1 : w1.heap.size ≤ wr.heap.size := HX.out.size
      have hk3 := row_call hk3 hb5
      have HK4 := Lib.hid (fun p hp => row_call (hk4 p hp) hb5)
      have HR5 := Lib.hid (row_mono hrow5 hs1)
      have HX5 := Lib.hid (below_then HX.out hb5)
      have hs5 : w1.heap.size ≤ w5.heap.size := HX5.out.size
      have HK1 := Lib.hid hk1
      have HK2 := Lib.hid hk2
      have HK3 := Lib.hid hk3
      clear C5 hb5 hrow5 hk4 HKR hk1 hk2 hc3 hb3
      go_wp2_with ((at_builtin; go_must (refine wpList_append_elem_at _ rfl (.tmp 40) (.tmp 49) 131 rfl (w1.heap.size) 31 i0 _ _ _ Try.underlying131 HI.out HZ0.out HZ1.out HZ2.out rfl (by decide) _ _ _ _ ?q1 hk3 _ _ ?q2 (by first | rfl | simp) ?q3 ?q4 (by unfold maxLen; omega) (by omega) (by first | omega | (simp; omega)) ?_); (case q1 => rfl); (case q2 => first | rfl | exact slice_at (by simp)); (case q3 => rfl); (case q4 => simp [Value.oneCell']); intro A4 q4 w4 hown4 hbl4 has4); have HAS := Lib.hid has4; have HO4 := Lib.hid hown4; have HB4 := Lib.hid (HX5.out.trans hbl4); clear has4 hown4 hbl4)
      go_roundw
      case rel =>
        have KR : KidRows w4 w1.heap.size L K (m + 1) A4 q4 (PV ++ [(.slice A5 (termAt L j).length c5, termAt L j)]) := by
          refine ⟨by rw [List.length_append, HK1.out]; rfl, by rw [List.map_append, HK2.out, HTK.out, List.map_append]; rfl, by rw [List.map_append]; exact HO4.out, fun p hp => ?_⟩
          rcases List.mem_append.1 hp with hp | hp
          · exact (row_aside (HK4.out p hp) HAS.out (row_apart HK3.out (HK4.out p hp) (by decide))).1
          · rw [List.mem_singleton.1 hp]
            exact (row_aside HR5.out HAS.out (row_apart HK3.out HR5.out (by decide))).1
        first
          | exact ⟨m + 1, _, A4, q4, by omega, by go_num, rfl, KR, HB4.out⟩
          | exact ⟨m + 1, by omega, by omega, _, A4, q4, ⟨rfl, rfl, rfl⟩, KR, HB4.out⟩
      case measure => simp [intOf]; omega
    · obtain rfl : m = M := by omega
      have htk : K.take m = K := by rw [← HM.out, List.take_length]
      clear hlt hm
      have hM1 := HM1.out
      have b0 := (HX.out.cell (p := ⟨b, off + i * 8, none⟩) hb1w).trans k0
      have b3 := (HX.out.cell (p := ⟨b, off + i * 8 + 3, none⟩) hb1w).trans k3
      obtain ⟨hk1, hk2, hk3, hk4⟩ := HKR.out
      obtain ⟨gp, rfl, hgpb, hgp, hgpc, hcell⟩ := row_cell hk3 (by omega)
      rw [htk] at hk2
      have HB2 := Lib.hid (HB1.out.trans (HX.out.mono HB1.out.size))
      have hw1 := HX.out.size
      have hPV : ∃ V, PV = [(V, X)] := by
        have hk1 : PV.length = 1 := by omega
        cases PV with
        | nil => simp at hk1
        | cons p PV =>
          obtain ⟨V, X'⟩ := p
          cases PV with
          | nil =>
            rw [HKJ.out] at hk2
            simp at hk2
            exact ⟨V, by rw [hk2, HXE.out]⟩
          | cons q PV => simp at hk1
      obtain ⟨V, rfl⟩ := hPV
      have hrow := hk4 (V, X) (by simp)
      simp only at hrow
      obtain ⟨AV, cV, rfl⟩ := row_shape hrow
      have kp := (hcell 0 (by omega)).trans rfl
      clear hk1 hk2 hk3 hk4 HKR htk hcell
      clear k0 k3 k00 k33
      have CU := unary_any w1.heap.size AV cV X 8 0 wr hw1 hXl hrow
      rw [HO1.out] at CU
      unfold RetT at CU
      rw [HN9.out] at CU
      go_wp2_with fail
      refine CU.mono ?_
      rintro e7 w7 ⟨A7, c7, rfl, hown7, hb7⟩
      have HB7 := Lib.hid (HB2.out.trans (hb7.mono HB1.out.size))
      have HX7 := Lib.hid (HX.out.trans hb7)
      have H7 := Lib.hid hown7
      have hb7w : w1.heap.size ≤ w7.heap.size := HX7.out.size
      obtain ⟨b9, off9, rfl, hb9, hc9⟩ := (HK.out.below HX7.out).at_ (j := 0) (by rw [HM.out]; omega)
      have hkc : K.getD 0 0 = j := by rw [HKJ.out]; rfl
      rw [hkc] at hc9
      obtain ⟨cs, hs1, hs2⟩ := HT1.out.null
      have hgN1 := HT1.out.gN
      have hcn := (HX7.out.cell (p := ⟨gN, j, none⟩) hgN1).trans ((hs1.cell j).trans (hs2 j (by rw [HN.out]; exact hjN)))
      rw [HNL.out] at hcn
      have hbw7 : b < w7.heap.size := Nat.lt_of_lt_of_le hb HB7.out.size
      have hgw7 : gN < w7.heap.size := Nat.lt_of_lt_of_le hgN1 hb7w
      have hb9w : b9 < w7.heap.size := Nat.lt_of_lt_of_le hb9 hb7w
      have r0 : ∀ d os, (grow (redrawn w7 d) os).cell? ⟨b, off + i * 8, none⟩ = _ := fun d os => ((below_regrown w7 d os).cell (p := ⟨b, off + i * 8, none⟩) hbw7).trans ((HB7.out.cell (p := ⟨b, off + i * 8, none⟩) hb).trans n0)
      have r1 : ∀ d os, (grow (redrawn w7 d) os).cell? ⟨b, off + i * 8 + 1, none⟩ = _ := fun d os => ((below_regrown w7 d os).cell (p := ⟨b, off + i * 8 + 1, none⟩) hbw7).trans ((HB7.out.cell (p := ⟨b, off + i * 8 + 1, none⟩) hb).trans n1)
      have r2 : ∀ d os, (grow (redrawn w7 d) os).cell? ⟨b, off + i * 8 + 2, none⟩ = _ := fun d os => ((below_regrown w7 d os).cell (p := ⟨b, off + i * 8 + 2, none⟩) hbw7).trans ((HB7.out.cell (p := ⟨b, off + i * 8 + 2, none⟩) hb).trans n2)
      have r3 : ∀ d os, (grow (redrawn w7 d) os).cell? ⟨b, off + i * 8 + 3, none⟩ = _ := fun d os => ((below_regrown w7 d os).cell (p := ⟨b, off + i * 8 + 3, none⟩) hbw7).trans ((HB7.out.cell (p := ⟨b, off + i * 8 + 3, none⟩) hb).trans n3)
      have r4 : ∀ d os, (grow (redrawn w7 d) os).cell? ⟨b, off + i * 8 + 4, none⟩ = _ := fun d os => ((below_regrown w7 d os).cell (p := ⟨b, off + i * 8 + 4, none⟩) hbw7).trans ((HB7.out.cell (p := ⟨b, off + i * 8 + 4, none⟩) hb).trans n4)
      have r5 : ∀ d os, (grow (redrawn w7 d) os).cell? ⟨b, off + i * 8 + 5, none⟩ = _ := fun d os => ((below_regrown w7 d os).cell (p := ⟨b, off + i * 8 + 5, none⟩) hbw7).trans ((HB7.out.cell (p := ⟨b, off + i * 8 + 5, none⟩) hb).trans n5)
      have r6 : ∀ d os, (grow (redrawn w7 d) os).cell? ⟨b, off + i * 8 + 6, none⟩ = _ := fun d os => ((below_regrown w7 d os).cell (p := ⟨b, off + i * 8 + 6, none⟩) hbw7).trans ((HB7.out.cell (p := ⟨b, off + i * 8 + 6, none⟩) hb).trans n6)
      have r7 : ∀ d os, (grow (redrawn w7 d) os).cell? ⟨b, off + i * 8 + 7, none⟩ = _ := fun d os => ((below_regrown w7 d os).cell (p := ⟨b, off + i * 8 + 7, none⟩) hbw7).trans ((HB7.out.cell (p := ⟨b, off + i * 8 + 7, none⟩) hb).trans n7)
      have r8 : ∀ d os, (grow (redrawn w7 d) os).cell? ⟨b9, off9, none⟩ = _ := fun d os => ((below_regrown w7 d os).cell (p := ⟨b9, off9, none⟩) hb9w).trans hc9
      have r9 : ∀ d os, (grow (redrawn w7 d) os).cell? ⟨gN, j, none⟩ = _ := fun d os => ((below_regrown w7 d os).cell (p := ⟨gN, j, none⟩) hgw7).trans hcn
      clear CU hown7 hb7 hs1 hs2 hc9 hcn kp hrow
      have C1 := HC1.out
      go_wp2_with fail
      refine wp_region_quiet_below (by kernel_rfl) (by kernel_rfl) ?_
      repeat (first | go_big_quiet_step ((first | (go_at_call 52; exact Calls.regrown_of (C1 _)))) | quiet_step ((first | (go_at_call 52; exact Calls.regrown_of (C1 _)))))
      refine wpQuiet_nil ?_
      intro _ hw'
      obtain ⟨⟨qd, qos⟩, hw''⟩ := hw'
      subst hw''
      have hbW := below_regrown w7 qd qos
      have HB8 := Lib.hid (below_then HB7.out hbW)
      have HX8 := Lib.hid (HX7.out.trans (hbW.mono hb7w))
      have H8 := Lib.hid (row_call H7.out hbW)
      generalize grow (redrawn w7 qd) qos = w8 at *
      clear hbW r0 r1 r2 r3 r4 r5 r6 r7 r8 r9 C1 H7 HB7 HX7 hb7w hbw7 hgw7 hb9w b0 b3
      go_wp2_with fail
      go_loopw [15, 16] (fun p k wr => ∃ (k' : Nat) (Aa : Option Addr) (ca : Nat), k' ≤ Mu ∧ k = .int .i64 k' ∧ p = .slice Aa k' ca ∧ wr.ownsRow w8.heap.size 31 1 (.slice Aa k' ca) k' (List.replicate k' (.slice A7 n9 c7)) ∧ wr.ownsRow w1.heap.size 47 8 (.slice A7 n9 c7) n9 (flatT one) ∧ Below w8.heap.size w8 wr) (fun _ k _ => Mu - (intOf k).toNat)
      case atStart => exact ⟨0, none, 0, Nat.zero_le _, rfl, rfl, World.ownsRow_nil _ _ _ _, H8.out, Below.refl _ _⟩
      case round =>
        clear H8
        obtain ⟨k, Aa, ca, hk, rfl, rfl, hall, hone, hY⟩ := hrel
        have HY := Lib.hid hY
        have HONE := Lib.hid hone
        have hs8 : w8.heap.size ≤ wr.heap.size := HY.out.size
        clear hY hone
        by_cases hlt : k < Mu
        · have HALL := Lib.hid hall
          go_wp2_with ((at_builtin; go_must (refine wpList_append_elem_at _ rfl (.tmp 122) (.tmp 124) 131 rfl (w8.heap.size) 31 i0 _ _ _ Try.underlying131 HI.out HZ0.out HZ1.out HZ2.out rfl (by decide) _ _ _ _ ?q1 hall _ _ ?q2 (by first | rfl | simp) ?q3 ?q4 (by unfold maxLen; omega) (by omega) (by first | omega | (simp; omega)) ?_); (case q1 => rfl); (case q2 => first | rfl | exact slice_at (by simp)); (case q3 => rfl); (case q4 => simp [Value.oneCell']); intro A4 q4 w4 hown4 hbl4 has4); have HAS := Lib.hid has4; have HO4 := Lib.hid hown4; have HB4 := Lib.hid (HY.out.trans hbl4); clear has4 hown4 hbl4)
          go_roundw
          case rel => exact ⟨k + 1, A4, q4, by omega, by go_num, rfl, by rw [List.replicate_succ']; exact HO4.out, (row_aside HONE.out HAS.out (row_apart HALL.out HONE.out (by decide))).1, HB4.out⟩
          case measure => simp [intOf]; omega
        · obtain rfl : k = Mu := by omega
          clear hlt hk
          skip
          have C2 := shift0_any w1.heap.size A7 c7 one wr h2 HOB.out (by rw [HN9.out]; exact HONE.out)
          rw [HN9.out] at C2
          unfold RetT at C2
          rw [HN9.out] at C2
          go_wp2_with fail
          refine C2.mono ?_
          rintro e10 w10 ⟨A10, c10, rfl, hown10, hb10⟩
          have C3 := unary_any wr.heap.size A10 c10 one 5 0 w10 hb10.size h2 (by rw [HN9.out]; exact hown10)
          rw [HN9.out] at C3
          unfold RetT at C3
          have HB10 := Lib.hid hb10
          clear C2 hown10 hb10
          generalize hU5 : unaT one 5 0 = U5 at *
          have HU5 : Hid (Bnd U5 ∧ 0 < U5.length) := Lib.hid ⟨by rw [← hU5]; exact HOB.out.una _ _, by rw [← hU5, unaT_length]; omega⟩
          clear hU5
          go_wp2_with fail
          refine C3.mono ?_
          rintro e11 w11 ⟨A11, c11, rfl, hown11, hb11⟩
          have hb12 := HB10.out.trans hb11
          clear C3 HB10 hb11
          have hall12 := row_call hall hb12
          have HONE12 := Lib.hid (row_call HONE.out hb12)
          have HR11 := Lib.hid (row_mono hown11 (Nat.le_trans HX8.out.size hs8))
          have HB12 := Lib.hid (HY.out.trans (hb12.mono hs8))
          have hs12 : w8.heap.size ≤ w11.heap.size := HB12.out.size
          have HALL := Lib.hid hall12
          clear hall HONE hown11 hb12
          go_wp2_with ((at_builtin; go_must (refine wpList_append_elem_at _ rfl (.tmp 128) (.tmp 132) 131 rfl (w8.heap.size) 31 i0 _ _ _ Try.underlying131 HI.out HZ0.out HZ1.out HZ2.out rfl (by decide) _ _ _ _ ?q1 hall12 _ _ ?q2 (by first | rfl | simp) ?q3 ?q4 (by unfold maxLen; omega) (by omega) (by first | omega | (simp; omega)) ?_); (case q1 => rfl); (case q2 => first | rfl | exact slice_at (by simp)); (case q3 => rfl); (case q4 => simp [Value.oneCell']); intro A4 q4 w4 hown4 hbl4 has4); have HAS := Lib.hid has4; have HO4 := Lib.hid hown4; have HB4 := Lib.hid (HB12.out.trans hbl4); clear has4 hown4 hbl4)
          have HON4 := Lib.hid (row_aside HONE12.out HAS.out (row_apart HALL.out HONE12.out (by decide))).1
          have HR4 := Lib.hid (row_aside HR11.out HAS.out (row_apart HALL.out HR11.out (by decide))).1
          have hs4 : w8.heap.size ≤ w4.heap.size := HB4.out.size
          have CJ := join_rows (w := w) (base := w.heap.size) (PV := List.replicate k (.slice A7 n9 c7, one) ++ [(.slice A11 U5.length c11, U5)]) (n := k + 1) 3 (by omega) (by simp) (by omega) (by rw [List.map_append, List.map_replicate]; exact HO4.out) (by
            intro p hp
            rcases List.mem_append.1 hp with hp | hp
            · rw [(List.mem_replicate.1 hp).2]
              show World.ownsRow _ _ _ _ _ one.length _
              rw [HN9.out]; exact HON4.out
            · rw [List.mem_singleton.1 hp]; exact HR4.out) (by
            intro p hp
            rcases List.mem_append.1 hp with hp | hp
            · rw [(List.mem_replicate.1 hp).2]; exact ⟨HOB.out, hoP⟩
            · rw [List.mem_singleton.1 hp]; exact HU5.out) (by rw [List.map_append, List.map_replicate]; exact HLL.out) HB1.out.size (HB8.out.trans (HB4.out.mono HB8.out.size)) (Nat.le_trans HB8.out.size hs4)
          rw [List.map_append, List.map_replicate] at CJ
          unfold RetT at CJ
          clear HALL HONE12 HR11 HB12 HAS HON4 HR4 HU5
          refine CJ.mono ?_
          rintro e20 w20 ⟨A20, c20, rfl, hown20, hb20⟩
          have HB20 := Lib.hid hb20
          have H20 := Lib.hid hown20
          clear CJ hown20 hb20
          go_wp2_with fail
          go_ret
          exact ⟨A20, c20, rfl, H20.out, HB20.out⟩
set_option maxRecDepth 100000 in
set_option maxHeartbeats 2000000 in
theorem rnode_rep2 {A : Option Addr} {c : Nat} {L : List Nd} {gN cN : Nat} {AM : Option Addr} {cM : Nat} (hlen : L.length ≤ 100000) (hF : formedF L = true) (i : Nat) (hi : i < L.length) (x : Nd) (hx : L.getD i ndEmpty = x) (w : World) (hT : TreeMem w w.heap.size A L gN AM) (n mm : Int) (f : Nat → Bool) (hk : x = ⟨4, 1, n, mm, f⟩) (hm : mm ≠ 0) (nl : Bool) (hr : rightB n mm = true) (j : Nat) (hj : kidsF L (i : Int) = [j]) (hnl : nullAt L j = nl) (hIH : ∀ j ∈ kidsF L (i : Int), NodeW L A c gN cN AM cM j) (hJ1 : ∀ j ∈ kidsF L (i : Int), (termAt L j).length ≤ 1000000 ∧ 0 < (termAt L j).length ∧ Bnd (termAt L j)) (X : List Tm) (hX : termAt L j = X) (Mu : Nat) (hMu : mustN n nl = Mu) (hMu9 : Mu ≤ 99) (y : Nat) (hy : y ≤ 99) (hMo : moreN n mm nl = (y : Int) + 1) (hl : (joinT 3 (List.replicate Mu (unaT X 8 0) ++ [lacksT (unaT X 8 0) y])).length ≤ 1000000) :
    Calls Try.prog 56 #[.slice A L.length c, .slice (some ⟨gN, 0, none⟩) L.length cN, .slice AM L.length cM, .int .i64 i] w (RetT w.heap.size (joinT 3 (List.replicate Mu (unaT X 8 0) ++ [lacksT (unaT X 8 0) y])) w) := by
  subst hk
  obtain ⟨i0, hi0, hz0, hz1, hz2⟩ := info_parts info_terms
  have HI := Lib.hid hi0; clear hi0
  have HZ0 := Lib.hid hz0; clear hz0
  have HZ1 := Lib.hid hz1; clear hz1
  have HZ2 := Lib.hid hz2; clear hz2
  have HT := Lib.hid hT
  obtain ⟨b, off, rfl, hb, hn8⟩ := hT.nodes.node hi
  rw [hx] at hn8
  unfold Node8 at hn8
  obtain ⟨n0, n1, n2, n3, n4, n5, n6, n7⟩ := hn8
  have CK := rkids_any (some ⟨b, off, none⟩) c L i w hT.nodes
  have hkl := kidsF_length hF hi
  rw [hx] at hkl
  have hat := formed_at hF hi
  have hstl := St_len (L := L) (k := i) (by omega)
  rw [hx] at hat
  have hkb : (kidsF L (i : Int)).length ≤ 100000 := by omega
  obtain ⟨N, hN⟩ : ∃ N, L.length = N := ⟨_, rfl⟩
  have HN := Lib.hid hN
  have hi2 := hi
  rw [hN] at CK hi2 ⊢
  obtain ⟨K, hK⟩ : ∃ K, kidsF L (i : Int) = K := ⟨_, rfl⟩
  rw [hK] at CK hkl hkb
  have HKE := Lib.hid hK
  obtain ⟨M, hM⟩ : ∃ M, K.length = M := ⟨_, rfl⟩
  rw [hM] at CK hkl hkb
  have HM := Lib.hid hM
  clear hN hK hM hstl hat hT
  rw [HKE.out] at hIH hJ1
  have HIH := Lib.hid hIH
  have HJ1 := Lib.hid hJ1
  have HKJ : Hid (K = [j]) := Lib.hid (HKE.out.symm.trans hj)
  have HXE := Lib.hid hX
  obtain ⟨hXl, hX0, hXB⟩ := HJ1.out j (by rw [HKJ.out]; simp)
  rw [hX] at hXl hX0 hXB
  have hjN : j < N := by have := kidsF_lt hF hi (j := j) (by rw [hj]; simp); omega
  have HNL : Hid (nullAt L j = nl) := Lib.hid hnl
  have C1 := rcopies_any ⟨4, 1, n, mm, f⟩ nl hr
  unfold ndCells at C1
  simp only at C1 hMu hMo n0 n1 n2 n3 n4 n5 n6 n7 hkl
  rw [hMu, hMo] at C1
  have HC1 := Lib.hid C1
  clear C1
  have hM1 : M = 1 := by rw [hkl]; rfl
  have hoB : Bnd (unaT X 8 0) := hXB.una 8 0
  have hoP : 0 < (unaT X 8 0).length := by rw [unaT_length]; omega
  have HOB := Lib.hid hoB
  have hmm0 : (mm == 0) = false := beq_eq_false_iff_ne.2 hm
  have hmm1 : (mm != 0) = true := by simp [bne, hmm0]
  have hll : (lacksT (unaT X 8 0) y).length ≤ 1000000 := Nat.le_trans (part_le (k := 3) (List.mem_append.2 (.inr (List.mem_singleton.2 rfl)))) hl
  have h2 : (unaT X 8 0).length ≤ 1000000 := by
    have := lacksT_length (unaT X 8 0) y
    have h3 : 1 * (unaT X 8 0).length ≤ (y + 1) * (unaT X 8 0).length := Nat.mul_le_mul_right _ (by omega)
    omega
  have hy1 : ((y : Int) + 1 == -1) = false := beq_eq_false_iff_ne.2 (by omega)
  have hy2 : decide (0 < (y : Int) + 1) = true := decide_eq_true (by omega)
  have HLL := Lib.hid hl
  clear hl
  clear hIH hJ1 hF hx hlen hi hkl hX hnl hMu hMo hr hj hoB
  generalize hO1 : unaT X 8 0 = one at *
  have HO1 := Lib.hid hO1
  clear hO1
  obtain ⟨n9, hn9⟩ : ∃ n9, one.length = n9 := ⟨_, rfl⟩
  have HN9 := Lib.hid hn9
  have hol : n9 ≤ 1000000 := by omega
  have hop : 0 < n9 := by omega
  have HM1 := Lib.hid hM1
  clear hM1 hn9
  go_enter Try.func56, Try.ntmps56
  go_wp2_with fail
  refine CK.mono ?_
  rintro e1 w1 ⟨A1, c1, rfl, hrow1, hb1⟩
  have HK := Lib.hid (row_at0 hrow1 (by omega))
  have HB1 := Lib.hid hb1
  have HT1 := Lib.hid ((HT.out.keep hb1).more hb1.size)
  have k0 := ((bcell hb1).1 b (off + i * 8) hb).trans n0
  have k3 := ((bcell hb1).1 b (off + i * 8 + 3) hb).trans n3
  have hb1w : b < w1.heap.size := Nat.lt_of_lt_of_le hb hb1.size
  clear hrow1 hb1 CK
  have k00 := k0
  have k33 := k3
  go_wp2_with fail
  go_loopw [10, 11] (fun p j wr => ∃ (m : Nat) (PV : List (Value × List Tm)) (Ap : Option Addr) (cp : Nat), m ≤ M ∧ j = .int .i64 m ∧ p = .slice Ap m cp ∧ KidRows wr w1.heap.size L K m Ap cp PV ∧ Below w1.heap.size w1 wr) (fun _ j _ => M - (intOf j).toNat)
  case atStart => exact ⟨0, [], none, 0, Nat.zero_le _, rfl, rfl, ⟨rfl, by simp, World.ownsRow_nil _ _ _ _, fun p hp => by cases hp⟩, Below.refl _ _⟩
  case round =>
    obtain ⟨m, PV, Ap, cp, hm, rfl, rfl, hKR, hX⟩ := hrel
    have HX := Lib.hid hX
    have HKR := Lib.hid hKR
    clear hX hKR
    by_cases hlt : m < M
    · have hmK : m < K.length := by rw [HM.out]; exact hlt
      obtain ⟨b3, off3, rfl, hb3, hc3⟩ := (HK.out.below HX.out).at_ (j := m) hmK
      have hmem : K.getD m 0 ∈ K := by rw [List.getD_eq_getElem?_getD, List.getElem?_eq_getElem hmK]; exact List.getElem_mem _
      have C5 := HIH.out _ hmem wr ((HT1.out.keep HX.out).more HX.out.size)
      have hj1 := (HJ1.out _ hmem).1
      have HTK : Hid (K.take (m + 1) = K.take m ++ [K.getD m 0]) := Lib.hid (take_snoc hmK)
      rw [HN.out] at C5
      generalize K.getD m 0 = j at *
      clear hmK hmem
      unfold RetT at C5
      go_wp2_with fail
      refine C5.mono ?_
      rintro e5 w5 ⟨A5, c5, rfl, hrow5, hb5⟩
      obtain ⟨hk1, hk2, hk3, hk4⟩ := HKR.out
      have hs1 : w1.heap.size ≤ wr.heap.size := HX.out.size
      have hk3 := row_call hk3 hb5
      have HK4 := Lib.hid (fun p hp => row_call (hk4 p hp) hb5)
      have HR5 := Lib.hid (row_mono hrow5 hs1)
      have HX5 := Lib.hid (below_then HX.out hb5)
      have hs5 : w1.heap.size ≤ w5.heap.size := HX5.out.size
      have HK1 := Lib.hid hk1
      have HK2 := Lib.hid hk2
      have HK3 := Lib.hid hk3
      clear C5 hb5 hrow5 hk4 HKR hk1 hk2 hc3 hb3
      go_wp2_with ((at_builtin; go_must (refine wpList_append_elem_at _ rfl (.tmp 40) (.tmp 49) 131 rfl (w1.heap.size) 31 i0 _ _ _ Try.underlying131 HI.out HZ0.out HZ1.out HZ2.out rfl (by decide) _ _ _ _ ?q1 hk3 _ _ ?q2 (by first | rfl | simp) ?q3 ?q4 (by unfold maxLen; omega) (by omega) (by first | omega | (simp; omega)) ?_); (case q1 => rfl); (case q2 => first | rfl | exact slice_at (by simp)); (case q3 => rfl); (case q4 => simp [Value.oneCell']); intro A4 q4 w4 hown4 hbl4 has4); have HAS := Lib.hid has4; have HO4 := Lib.hid hown4; have HB4 := Lib.hid (HX5.out.trans hbl4); clear has4 hown4 hbl4)
      go_roundw
      case rel =>
        have KR : KidRows w4 w1.heap.size L K (m + 1) A4 q4 (PV ++ [(.slice A5 (termAt L j).length c5, termAt L j)]) := by
          refine ⟨by rw [List.length_append, HK1.out]; rfl, by rw [List.map_append, HK2.out, HTK.out, List.map_append]; rfl, by rw [List.map_append]; exact HO4.out, fun p hp => ?_⟩
          rcases List.mem_append.1 hp with hp | hp
          · exact (row_aside (HK4.out p hp) HAS.out (row_apart HK3.out (HK4.out p hp) (by decide))).1
          · rw [List.mem_singleton.1 hp]
            exact (row_aside HR5.out HAS.out (row_apart HK3.out HR5.out (by decide))).1
        first
          | exact ⟨m + 1, _, A4, q4, by omega, by go_num, rfl, KR, HB4.out⟩
          | exact ⟨m + 1, by omega, by omega, _, A4, q4, ⟨rfl, rfl, rfl⟩, KR, HB4.out⟩
      case measure => simp [intOf]; omega
    · obtain rfl : m = M := by omega
      have htk : K.take m = K := by rw [← HM.out, List.take_length]
      clear hlt hm
      have hM1 := HM1.out
      have b0 := (HX.out.cell (p := ⟨b, off + i * 8, none⟩) hb1w).trans k0
      have b3 := (HX.out.cell (p := ⟨b, off + i * 8 + 3, none⟩) hb1w).trans k3
      obtain ⟨hk1, hk2, hk3, hk4⟩ := HKR.out
      obtain ⟨gp, rfl, hgpb, hgp, hgpc, hcell⟩ := row_cell hk3 (by omega)
      rw [htk] at hk2
      have HB2 := Lib.hid (HB1.out.trans (HX.out.mono HB1.out.size))
      have hw1 := HX.out.size
      have hPV : ∃ V, PV = [(V, X)] := by
        have hk1 : PV.length = 1 := by omega
        cases PV with
        | nil => simp at hk1
        | cons p PV =>
          obtain ⟨V, X'⟩ := p
          cases PV with
          | nil =>
            rw [HKJ.out] at hk2
            simp at hk2
            exact ⟨V, by rw [hk2, HXE.out]⟩
          | cons q PV => simp at hk1
      obtain ⟨V, rfl⟩ := hPV
      have hrow := hk4 (V, X) (by simp)
      simp only at hrow
      obtain ⟨AV, cV, rfl⟩ := row_shape hrow
      have kp := (hcell 0 (by omega)).trans rfl
      clear hk1 hk2 hk3 hk4 HKR htk hcell
      clear k0 k3 k00 k33
      have CU := unary_any w1.heap.size AV cV X 8 0 wr hw1 hXl hrow
      rw [HO1.out] at CU
      unfold RetT at CU
      rw [HN9.out] at CU
      go_wp2_with fail
      refine CU.mono ?_
      rintro e7 w7 ⟨A7, c7, rfl, hown7, hb7⟩
      have HB7 := Lib.hid (HB2.out.trans (hb7.mono HB1.out.size))
      have HX7 := Lib.hid (HX.out.trans hb7)
      have H7 := Lib.hid hown7
      have hb7w : w1.heap.size ≤ w7.heap.size := HX7.out.size
      obtain ⟨b9, off9, rfl, hb9, hc9⟩ := (HK.out.below HX7.out).at_ (j := 0) (by rw [HM.out]; omega)
      have hkc : K.getD 0 0 = j := by rw [HKJ.out]; rfl
      rw [hkc] at hc9
      obtain ⟨cs, hs1, hs2⟩ := HT1.out.null
      have hgN1 := HT1.out.gN
      have hcn := (HX7.out.cell (p := ⟨gN, j, none⟩) hgN1).trans ((hs1.cell j).trans (hs2 j (by rw [HN.out]; exact hjN)))
      rw [HNL.out] at hcn
      have hbw7 : b < w7.heap.size := Nat.lt_of_lt_of_le hb HB7.out.size
      have hgw7 : gN < w7.heap.size := Nat.lt_of_lt_of_le hgN1 hb7w
      have hb9w : b9 < w7.heap.size := Nat.lt_of_lt_of_le hb9 hb7w
      have r0 : ∀ d os, (grow (redrawn w7 d) os).cell? ⟨b, off + i * 8, none⟩ = _ := fun d os => ((below_regrown w7 d os).cell (p := ⟨b, off + i * 8, none⟩) hbw7).trans ((HB7.out.cell (p := ⟨b, off + i * 8, none⟩) hb).trans n0)
      have r1 : ∀ d os, (grow (redrawn w7 d) os).cell? ⟨b, off + i * 8 + 1, none⟩ = _ := fun d os => ((below_regrown w7 d os).cell (p := ⟨b, off + i * 8 + 1, none⟩) hbw7).trans ((HB7.out.cell (p := ⟨b, off + i * 8 + 1, none⟩) hb).trans n1)
      have r2 : ∀ d os, (grow (redrawn w7 d) os).cell? ⟨b, off + i * 8 + 2, none⟩ = _ := fun d os => ((below_regrown w7 d os).cell (p := ⟨b, off + i * 8 + 2, none⟩) hbw7).trans ((HB7.out.cell (p := ⟨b, off + i * 8 + 2, none⟩) hb).trans n2)
      have r3 : ∀ d os, (grow (redrawn w7 d) os).cell? ⟨b, off + i * 8 + 3, none⟩ = _ := fun d os => ((below_regrown w7 d os).cell (p := ⟨b, off + i * 8 + 3, none⟩) hbw7).trans ((HB7.out.cell (p := ⟨b, off + i * 8 + 3, none⟩) hb).trans n3)
      have r4 : ∀ d os, (grow (redrawn w7 d) os).cell? ⟨b, off + i * 8 + 4, none⟩ = _ := fun d os => ((below_regrown w7 d os).cell (p := ⟨b, off + i * 8 + 4, none⟩) hbw7).trans ((HB7.out.cell (p := ⟨b, off + i * 8 + 4, none⟩) hb).trans n4)
      have r5 : ∀ d os, (grow (redrawn w7 d) os).cell? ⟨b, off + i * 8 + 5, none⟩ = _ := fun d os => ((below_regrown w7 d os).cell (p := ⟨b, off + i * 8 + 5, none⟩) hbw7).trans ((HB7.out.cell (p := ⟨b, off + i * 8 + 5, none⟩) hb).trans n5)
      have r6 : ∀ d os, (grow (redrawn w7 d) os).cell? ⟨b, off + i * 8 + 6, none⟩ = _ := fun d os => ((below_regrown w7 d os).cell (p := ⟨b, off + i * 8 + 6, none⟩) hbw7).trans ((HB7.out.cell (p := ⟨b, off + i * 8 + 6, none⟩) hb).trans n6)
      have r7 : ∀ d os, (grow (redrawn w7 d) os).cell? ⟨b, off + i * 8 + 7, none⟩ = _ := fun d os => ((below_regrown w7 d os).cell (p := ⟨b, off + i * 8 + 7, none⟩) hbw7).trans ((HB7.out.cell (p := ⟨b, off + i * 8 + 7, none⟩) hb).trans n7)
      have r8 : ∀ d os, (grow (redrawn w7 d) os).cell? ⟨b9, off9, none⟩ = _ := fun d os => ((below_regrown w7 d os).cell (p := ⟨b9, off9, none⟩) hb9w).trans hc9
      have r9 : ∀ d os, (grow (redrawn w7 d) os).cell? ⟨gN, j, none⟩ = _ := fun d os => ((below_regrown w7 d os).cell (p := ⟨gN, j, none⟩) hgw7).trans hcn
      clear CU hown7 hb7 hs1 hs2 hc9 hcn kp hrow
      have C1 := HC1.out
      go_wp2_with fail
      refine wp_region_quiet_below (by kernel_rfl) (by kernel_rfl) ?_
      repeat (first | go_big_quiet_step ((first | (go_at_call 52; exact Calls.regrown_of (C1 _)))) | quiet_step ((first | (go_at_call 52; exact Calls.regrown_of (C1 _)))))
      refine wpQuiet_nil ?_
      intro _ hw'
      obtain ⟨⟨qd, qos⟩, hw''⟩ := hw'
      subst hw''
      have hbW := below_regrown w7 qd qos
      have HB8 := Lib.hid (below_then HB7.out hbW)
      have HX8 := Lib.hid (HX7.out.trans (hbW.mono hb7w))
      have H8 := Lib.hid (row_call H7.out hbW)
      generalize grow (redrawn w7 qd) qos = w8 at *
      clear hbW r0 r1 r2 r3 r4 r5 r6 r7 r8 r9 C1 H7 HB7 HX7 hb7w hbw7 hgw7 hb9w b0 b3
      go_wp2_with fail
      go_loopw [15, 16] (fun p k wr => ∃ (k' : Nat) (Aa : Option Addr) (ca : Nat), k' ≤ Mu ∧ k = .int .i64 k' ∧ p = .slice Aa k' ca ∧ wr.ownsRow w8.heap.size 31 1 (.slice Aa k' ca) k' (List.replicate k' (.slice A7 n9 c7)) ∧ wr.ownsRow w1.heap.size 47 8 (.slice A7 n9 c7) n9 (flatT one) ∧ Below w8.heap.size w8 wr) (fun _ k _ => Mu - (intOf k).toNat)
      case atStart => exact ⟨0, none, 0, Nat.zero_le _, rfl, rfl, World.ownsRow_nil _ _ _ _, H8.out, Below.refl _ _⟩
      case round =>
        clear H8
        obtain ⟨k, Aa, ca, hk, rfl, rfl, hall, hone, hY⟩ := hrel
        have HY := Lib.hid hY
        have HONE := Lib.hid hone
        have hs8 : w8.heap.size ≤ wr.heap.size := HY.out.size
        clear hY hone
        by_cases hlt : k < Mu
        · have HALL := Lib.hid hall
          go_wp2_with ((at_builtin; go_must (refine wpList_append_elem_at _ rfl (.tmp 122) (.tmp 124) 131 rfl (w8.heap.size) 31 i0 _ _ _ Try.underlying131 HI.out HZ0.out HZ1.out HZ2.out rfl (by decide) _ _ _ _ ?q1 hall _ _ ?q2 (by first | rfl | simp) ?q3 ?q4 (by unfold maxLen; omega) (by omega) (by first | omega | (simp; omega)) ?_); (case q1 => rfl); (case q2 => first | rfl | exact slice_at (by simp)); (case q3 => rfl); (case q4 => simp [Value.oneCell']); intro A4 q4 w4 hown4 hbl4 has4); have HAS := Lib.hid has4; have HO4 := Lib.hid hown4; have HB4 := Lib.hid (HY.out.trans hbl4); clear has4 hown4 hbl4)
          go_roundw
          case rel => exact ⟨k + 1, A4, q4, by omega, by go_num, rfl, by rw [List.replicate_succ']; exact HO4.out, (row_aside HONE.out HAS.out (row_apart HALL.out HONE.out (by decide))).1, HB4.out⟩
          case measure => simp [intOf]; omega
        · obtain rfl : k = Mu := by omega
          clear hlt hk
          skip
          have C3 := rlacks_any w1.heap.size one HOB.out hoP y A7 c7 wr (Nat.le_trans (by have := HX8.out.size; omega) hs8) (by rw [HN9.out]; exact HONE.out) (by omega) hll
          rw [HN9.out] at C3
          unfold RetT at C3
          generalize hU5 : lacksT one y = U5 at *
          have HU5 : Hid (Bnd U5 ∧ 0 < U5.length) := Lib.hid ⟨by rw [← hU5]; exact HOB.out.lacks _, by rw [← hU5]; exact lacksT_pos _ _⟩
          clear hU5
          go_wp2_with fail
          refine C3.mono ?_
          rintro e11 w11 ⟨A11, c11, rfl, hown11, hb12⟩
          clear C3
          have hall12 := row_call hall hb12
          have HONE12 := Lib.hid (row_call HONE.out hb12)
          have HR11 := Lib.hid (row_mono hown11 (Nat.le_trans HX8.out.size hs8))
          have HB12 := Lib.hid (HY.out.trans (hb12.mono hs8))
          have hs12 : w8.heap.size ≤ w11.heap.size := HB12.out.size
          have HALL := Lib.hid hall12
          clear hall HONE hown11 hb12
          go_wp2_with ((at_builtin; go_must (refine wpList_append_elem_at _ rfl (.tmp 136) (.tmp 140) 131 rfl (w8.heap.size) 31 i0 _ _ _ Try.underlying131 HI.out HZ0.out HZ1.out HZ2.out rfl (by decide) _ _ _ _ ?q1 hall12 _ _ ?q2 (by first | rfl | simp) ?q3 ?q4 (by unfold maxLen; omega) (by omega) (by first | omega | (simp; omega)) ?_); (case q1 => rfl); (case q2 => first | rfl | exact slice_at (by simp)); (case q3 => rfl); (case q4 => simp [Value.oneCell']); intro A4 q4 w4 hown4 hbl4 has4); have HAS := Lib.hid has4; have HO4 := Lib.hid hown4; have HB4 := Lib.hid (HB12.out.trans hbl4); clear has4 hown4 hbl4)
          have HON4 := Lib.hid (row_aside HONE12.out HAS.out (row_apart HALL.out HONE12.out (by decide))).1
          have HR4 := Lib.hid (row_aside HR11.out HAS.out (row_apart HALL.out HR11.out (by decide))).1
          have hs4 : w8.heap.size ≤ w4.heap.size := HB4.out.size
          have CJ := join_rows (w := w) (base := w.heap.size) (PV := List.replicate k (.slice A7 n9 c7, one) ++ [(.slice A11 U5.length c11, U5)]) (n := k + 1) 3 (by omega) (by simp) (by omega) (by rw [List.map_append, List.map_replicate]; exact HO4.out) (by
            intro p hp
            rcases List.mem_append.1 hp with hp | hp
            · rw [(List.mem_replicate.1 hp).2]
              show World.ownsRow _ _ _ _ _ one.length _
              rw [HN9.out]; exact HON4.out
            · rw [List.mem_singleton.1 hp]; exact HR4.out) (by
            intro p hp
            rcases List.mem_append.1 hp with hp | hp
            · rw [(List.mem_replicate.1 hp).2]; exact ⟨HOB.out, hoP⟩
            · rw [List.mem_singleton.1 hp]; exact HU5.out) (by rw [List.map_append, List.map_replicate]; exact HLL.out) HB1.out.size (HB8.out.trans (HB4.out.mono HB8.out.size)) (Nat.le_trans HB8.out.size hs4)
          rw [List.map_append, List.map_replicate] at CJ
          unfold RetT at CJ
          clear HALL HONE12 HR11 HB12 HAS HON4 HR4 HU5
          refine CJ.mono ?_
          rintro e20 w20 ⟨A20, c20, rfl, hown20, hb20⟩
          have HB20 := Lib.hid hb20
          have H20 := Lib.hid hown20
          clear CJ hown20 hb20
          go_wp2_with fail
          go_ret
          exact ⟨A20, c20, rfl, H20.out, HB20.out⟩
theorem bnd_rep {X : List Tm} (h : Bnd X) (n m : Int) (nl : Bool) : Bnd (repT X n m nl) := by
  unfold repT
  split
  · intro y hy; rw [List.mem_singleton.1 hy]; exact ⟨by decide, by decide⟩
  · refine Bnd.join _ fun p hp => ?_
    have h1 := h.una 8 0
    unfold partsT at hp
    rw [List.mem_append] at hp
    rcases hp with hp | hp
    · rw [(List.mem_replicate.1 hp).2]; exact h1
    · split at hp
      · rw [List.mem_singleton.1 hp]; exact h1.una _ _
      · split at hp
        · rw [List.mem_singleton.1 hp]; exact h1.lacks _
        · cases hp
theorem bnd_term {L : List Nd} (hF : formedF L = true) (hok : ∀ j, j < L.length → nodeOk L j = true) (i : Nat) (hi : i < L.length) : Bnd (termAt L i) := by
  revert hi
  induction i using Nat.strongRecOn with
  | _ i ih =>
    intro hi
    rcases termAt_cases hF hok hi _ rfl with ⟨hk, h⟩ | ⟨_, j, hj, hji, h⟩ | ⟨_, hr, j, hj, hji, h⟩ | ⟨q, _, h0, h⟩
    · rw [h]
      intro y hy
      rw [List.mem_singleton.1 hy]
      split <;> exact ⟨show (-1 : Int) < ((1 : Nat) : Int) by decide, show (-1 : Int) < ((1 : Nat) : Int) by decide⟩
    · rw [h]; exact (ih j hji (by omega)).una _ _
    · rw [h]; exact bnd_rep (ih j hji (by omega)) _ _ _
    · rw [h]
      refine Bnd.join _ fun p hp => ?_
      obtain ⟨j, hj, rfl⟩ := List.mem_map.1 hp
      exact ih j (kidsF_lt hF hi hj) (Nat.lt_trans (kidsF_lt hF hi hj) hi)
theorem repT_ge {X : List Tm} {n m : Int} {nl : Bool} (hr : rightB n m = true) (hm : m ≠ 0) : X.length ≤ (repT X n m nl).length := by
  have h1 := repT_length (X := X) (nl := nl) hr 0
  have h2 := repS_ge (s := ((X.length : Int), 0)) (nl := nl) hr (beq_eq_false_iff_ne.2 hm) (by show (0 : Int) ≤ X.length; omega)
  simp only at h2
  omega
/-- node makes the node's term. -/
theorem rnode_any {L : List Nd} (hlen : L.length ≤ 100000) (hF : formedF L = true) (hok : ∀ j, j < L.length → nodeOk L j = true) (A : Option Addr) (c gN cN : Nat) (AM : Option Addr) (cM : Nat) (i : Nat) (hi : i < L.length) (hl : (termAt L i).length ≤ 1000000) : NodeW L A c gN cN AM cM i := by
  revert hi hl
  induction i using Nat.strongRecOn with
  | _ i ih =>
    intro hi hl w hT
    have base : ∀ (j : Nat), j ∈ kidsF L (i : Int) → (termAt L j).length ≤ 1000000 → NodeW L A c gN cN AM cM j ∧ (termAt L j).length ≤ 1000000 ∧ 0 < (termAt L j).length ∧ Bnd (termAt L j) := fun j hj hjl => by
      have hji := kidsF_lt hF hi hj
      exact ⟨ih j hji (by omega) hjl, hjl, termAt_pos hF hok j (by omega), bnd_term hF hok j (by omega)⟩
    have hni := nodeIs (nodeOk_parts (hok i hi)).1
    rcases termAt_cases hF hok hi _ rfl with ⟨hk, h⟩ | ⟨hk, j, hj, hji, h⟩ | ⟨hk, hr, j, hj, hji, h⟩ | ⟨q, hk, h0, h⟩
    · rw [h]
      rcases hk with hk | hk
      · rw [if_pos hk]
        refine rnode_empty hlen hF i hi _ rfl w hT (.inl hk) fun _ => ?_
        cases hni with
        | empty _ hn _ => exact hn
        | set hk2 hn _ => rw [hk] at hk2; cases hk2
        | group hk2 hn _ => rw [hk] at hk2; cases hk2
        | rep hk2 hn _ _ => rw [hk] at hk2; cases hk2
        | cat hk2 n hn _ _ => rw [hk] at hk2; cases hk2
        | alt hk2 n hn _ _ => rw [hk] at hk2; cases hk2
      · rw [if_neg (by rw [hk]; decide)]
        refine rnode_set hlen hF i hi _ rfl w hT _ hk ?_ rfl
        cases hni with
        | empty hk2 hn _ => rw [hk] at hk2; cases hk2
        | set hk2 hn _ => exact hn
        | group hk2 hn _ => rw [hk] at hk2; cases hk2
        | rep hk2 hn _ _ => rw [hk] at hk2; cases hk2
        | cat hk2 n hn _ _ => rw [hk] at hk2; cases hk2
        | alt hk2 n hn _ _ => rw [hk] at hk2; cases hk2
    · rw [h] at hl ⊢
      rw [unaT_length] at hl
      have hb : ∀ j' ∈ kidsF L (i : Int), _ := fun j' hj' => base j' hj' (by rw [hj] at hj'; rw [List.mem_singleton.1 hj']; omega)
      refine rnode_group hlen hF i hi _ rfl w hT hk ?_ j hj (fun j' hj' => (hb j' hj').1) (fun j' hj' => (hb j' hj').2) _ rfl
      have := kidsF_length hF hi
      cases hni with
      | empty hk2 hn _ => rw [hk] at hk2; cases hk2
      | set hk2 hn _ => rw [hk] at hk2; cases hk2
      | group hk2 hn _ => exact hn
      | rep hk2 hn _ _ => rw [hk] at hk2; cases hk2
      | cat hk2 n hn _ _ => rw [hk] at hk2; cases hk2
      | alt hk2 n hn _ _ => rw [hk] at hk2; cases hk2
    · rw [h] at hl ⊢
      by_cases hm : (L.getD i ndEmpty).m = 0
      · have e : repT (termAt L j) (L.getD i ndEmpty).n (L.getD i ndEmpty).m (nullAt L j) = [tmE] := by unfold repT; rw [hm]; rfl
        rw [e]
        exact rnode_empty hlen hF i hi _ rfl w hT (.inr ⟨hk, hm⟩) fun e => by rw [hk] at e; cases e
      · have hge := repT_ge (X := termAt L j) (nl := nullAt L j) hr hm
        have hb : ∀ j' ∈ kidsF L (i : Int), _ := fun j' hj' => base j' hj' (by rw [hj] at hj'; rw [List.mem_singleton.1 hj']; omega)
        have hkids : (L.getD i ndEmpty).kids = 1 := by
          cases hni with
          | empty hk2 hn _ => rw [hk] at hk2; cases hk2
          | set hk2 hn _ => rw [hk] at hk2; cases hk2
          | group hk2 hn _ => exact hn
          | rep hk2 hn _ _ => exact hn
          | cat hk2 n hn _ _ => rw [hk] at hk2; cases hk2
          | alt hk2 n hn _ _ => rw [hk] at hk2; cases hk2
        have hx : L.getD i ndEmpty = ⟨4, 1, (L.getD i ndEmpty).n, (L.getD i ndEmpty).m, (L.getD i ndEmpty).set⟩ := by
          rw [← hk, ← hkids]
        obtain ⟨Mu, hMu, hMu9, hc⟩ := more_cases hr hm (nullAt L j) (termAt L j)
        rcases hc with ⟨c1, c2, c3⟩ | ⟨y, c1, c2, c3⟩ | ⟨c1, c2, c3⟩
        · rw [c3] at hl ⊢
          exact rnode_rep1 hlen hF i hi _ rfl w hT _ _ _ hx hm _ hr j hj rfl (fun j' hj' => (hb j' hj').1) (fun j' hj' => (hb j' hj').2) _ rfl Mu hMu hMu9 c1 c2 hl
        · rw [c3] at hl ⊢
          exact rnode_rep2 hlen hF i hi _ rfl w hT _ _ _ hx hm _ hr j hj rfl (fun j' hj' => (hb j' hj').1) (fun j' hj' => (hb j' hj').2) _ rfl Mu hMu hMu9 y c1 c2 hl
        · rw [c3] at hl ⊢
          exact rnode_rep3 hlen hF i hi _ rfl w hT _ _ _ hx hm _ hr j hj rfl (fun j' hj' => (hb j' hj').1) (fun j' hj' => (hb j' hj').2) _ rfl Mu hMu hMu9 c1 c2 hl
    · rw [h] at hl ⊢
      have hb : ∀ j' ∈ kidsF L (i : Int), _ := fun j' hj' => base j' hj' (Nat.le_trans (part_le (List.mem_map.2 ⟨j', hj', rfl⟩)) hl)
      exact rnode_join hlen hF i hi _ rfl w hT q hk h0 (fun j' hj' => (hb j' hj').1) (fun j' hj' => (hb j' hj').2) hl
end Go.Proofs.Ytddokdjlmdoebaa
