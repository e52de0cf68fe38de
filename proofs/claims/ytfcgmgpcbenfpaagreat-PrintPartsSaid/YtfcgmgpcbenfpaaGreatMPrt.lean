/- Walks of the document's printer: the text of a node. -/
import Derived.Test.YtfcgmgpcbenfpaaGreatProg
import Derived.WalkKit
import Derived.WalkSpells
import Derived.WalkLawsBesides
import Derived.Handy
import Derived.Lib.Hide
import Derived.Test.YtfcgmgpcbenfpaaGreatMPra
import Derived.Test.YtfcgmgpcbenfpaaGreatMAsd
import Derived.Test.YtfcgmgpcbenfpaaGreatLexF
import Derived.Test.YtfcgmgpcbenfpaaGreatMBrb
import Derived.Deep.QuietTactic
import Derived.BigQuiet
import Derived.Lib.QuietBelow
import Derived.Deep.Cut
import Derived.Test.YtfcgmgpcbenfpaaGreatMPrn
import Derived.Test.YtfcgmgpcbenfpaaGreatMAsk
import Derived.Test.YtfcgmgpcbenfpaaGreatAstO
import Derived.Test.YtfcgmgpcbenfpaaGreatParZ
import Derived.Test.YtfcgmgpcbenfpaaGreatPrtP
import Derived.Test.YtfcgmgpcbenfpaaGreatLaw6
import Derived.Test.YtfcgmgpcbenfpaaGreatLaw6a
set_option linter.unusedVariables false
set_option linter.unusedSimpArgs false
namespace Go.Proofs.YtfcgmgpcbenfpaaGreat
open Go.RowKit SetP BrkP LexP AstP ParP
def RNodeW (L : List Nd) (k : Nat) : Prop := ∀ (w : World) (A : Option Addr) (c : Nat), NodesAt w w.heap.size A L → (textAt L k).length ≤ 100000000 →
  Calls Tryz.prog 34 #[.slice A L.length c, .int .i64 (k : Int)] w fun e w' => e = .returned (.string ⟨(textAt L k).toArray⟩) ∧ Below w.heap.size w w'
set_option maxRecDepth 100000 in
set_option maxHeartbeats 2000000 in
theorem rnode_empty {L : List Nd} (hF : formedF L = true) {k : Nat} (hk : k < L.length) (hlen : L.length ≤ 1000000) {x : Nd} (hx : L.getD k ndEmpty = x) (ks : List Nat) (hks : kidsF L (k : Int) = ks) (hkn : ks.length ≤ 1000000)
    (hkind : x.kind = 1) (hs0 : x.kind = 2 → ks.length = 0) (IH : ∀ j ∈ ks, RNodeW L j) (hT : textAt L k = headT x ++ (partT (x.kind == 6) (ks.map (textAt L)) ks.length ++ tailT x)) : RNodeW L k := by
  intro w A c hN hlt
  rw [hT] at hlt ⊢
  clear hT
  obtain ⟨kd, kc, xn, xm, f⟩ := x
  simp only at hkind hs0
  subst hkind
  have HS0 := Lib.hid hs0; clear hs0
  have hpl := fun t (ht : t ≤ ks.length) => partT_le (b := false) (K := ks.map (textAt L)) (ks.length - t) t (by rw [List.length_map]; omega)
  rw [List.length_map] at hpl
  have HPL := Lib.hid hpl; clear hpl
  have HPS := Lib.hid (fun t (ht : t < ks.length) => partT_succ (b := false) (K := ks.map (textAt L)) (t := t) (by rw [List.length_map]; exact ht))
  have HIH := Lib.hid IH; clear IH
  clear hF
  have e6 : ((1 : Int) == 6) = false := rfl
  simp only [e6] at hlt ⊢
  clear e6
  rw [show headT ⟨1, kc, xn, xm, f⟩ = [] from rfl, show tailT ⟨1, kc, xn, xm, f⟩ = [] from rfl] at hlt ⊢
  obtain ⟨b, off, hA, hbB, hn8⟩ := hN.node hk
  rw [hx] at hn8
  clear hx
  have CK := rkids_any A c L (k : Int) w hN
  rw [hks] at CK
  clear hks
  have HN := Lib.hid hN; clear hN
  subst hA
  have HN8 := Lib.hid hn8; clear hn8
  go_enter Tryz.func34, Tryz.ntmps34
  go_wp2_with fail
  refine CK.mono ?_
  rintro e1 w1 ⟨A1, c1, rfl, hown1, hb1⟩
  have HK1 := Lib.hid (row_at0 hown1 (by omega))
  have HB1 := Lib.hid hb1
  clear CK hown1 hb1
  go_wp2_with fail
  go_loopw [6, 7] (fun o i wr => ∃ (t : Nat) (S : ByteArray), t ≤ ks.length ∧ i = .int .i64 (t : Int) ∧ o = .string S ∧ S.data.toList = partT false (ks.map (textAt L)) t ∧ Below w.heap.size w wr ∧ Below w1.heap.size w1 wr) (fun _ i _ => ks.length - (intOf i).toNat)
  case atStart => exact ⟨0, ⟨#[]⟩, Nat.zero_le _, rfl, rfl, by rw [partT_zero], HB1.out, Below.refl _ _⟩
  case round =>
    obtain ⟨t, S, ht, rfl, rfl, hS, hB, hX⟩ := hrel
    have HS := Lib.hid hS
    have hSz : S.size ≤ 100000000 := by
      have h1 := HPL.out t ht
      have h2 : S.size = S.data.toList.length := by simp
      rw [h2, hS]; simp only [List.length_append] at hlt; omega
    have HB := Lib.hid hB
    have HX := Lib.hid hX
    have hn8 : Node8 wr b (off + k * 8) ⟨1, kc, xn, xm, f⟩ := by
      obtain ⟨a0, a1, a2, a3, a4, a5, a6, a7⟩ := HN8.out
      have hcl := (bcell HB.out).1
      exact ⟨(hcl _ _ hbB).trans a0, (hcl _ _ hbB).trans a1, (hcl _ _ hbB).trans a2, (hcl _ _ hbB).trans a3, (hcl _ _ hbB).trans a4, (hcl _ _ hbB).trans a5, (hcl _ _ hbB).trans a6, (hcl _ _ hbB).trans a7⟩
    obtain ⟨n0, n1, n2, n3, n4, n5, n6, n7⟩ := hn8
    simp only at n0 n1 n2 n3 n4 n5 n6 n7
    clear hS hB hX
    by_cases hlt' : t < ks.length
    · obtain ⟨bk, ofk, hA1, hbk, hc⟩ := (HK1.out.below HX.out).at_ hlt'
      subst hA1
      have hstep := HPS.out t hlt'
      rw [map_getD hlt'] at hstep
      have hle := HPL.out (t + 1) hlt'
      have HIJ := Lib.hid (HIH.out _ (getD_mem hlt'))
      generalize ks.getD t 0 = j at *
      simp only [List.length_append] at hlt
      have C := HIJ.out wr (some ⟨b, off, none⟩) c ((HN.out.below HB.out).more HB.out.size) (by rw [hstep] at hle; simp only [List.length_append, List.length_nil, List.length_cons] at hle hlt ⊢; omega)
      have hjl : (textAt L j).length ≤ 100000000 := by rw [hstep] at hle; simp only [List.length_append, List.length_nil, List.length_cons] at hle hlt ⊢; omega
      have HST := Lib.hid hstep
      clear hstep hle
      generalize textAt L j = Tj at *
      go_wp2_with fail
      all_goals (
        refine C.mono ?_
        rintro e2 w2 ⟨rfl, hb2⟩
        have HB2 := Lib.hid (HB.out.trans (hb2.mono HB.out.size))
        have HX2 := Lib.hid (HX.out.trans (hb2.mono HX.out.size))
        have hs2 : (S ++ (⟨Tj.toArray⟩ : ByteArray)).size = S.size + Tj.length := by rw [ByteArray.size_append]; show _ + Tj.toArray.size = _; simp
        clear C hb2
        go_wp2
        go_roundw
        case rel => exact ⟨t + 1, S ++ ⟨Tj.toArray⟩, by omega, by go_num, rfl, by rw [HST.out, ← HS.out]; simp [ByteArray.data_append], HB2.out, HX2.out⟩
        case measure => simp [intOf]; omega)
    · have hte : t = ks.length := by omega
      subst hte
      go_wp2
      go_ret
      exact ⟨congrArg Ending.returned (congrArg Value.string (bytes_ext (by rw [HS.out]; simp))), HB.out⟩
set_option maxRecDepth 100000 in
theorem rnode_set {L : List Nd} (hF : formedF L = true) {k : Nat} (hk : k < L.length) (hlen : L.length ≤ 1000000) {x : Nd} (hx : L.getD k ndEmpty = x) (ks : List Nat) (hks : kidsF L (k : Int) = ks) (hkn : ks.length ≤ 1000000)
    (hkind : x.kind = 2) (hs0 : x.kind = 2 → ks.length = 0) (IH : ∀ j ∈ ks, RNodeW L j) (hT : textAt L k = headT x ++ (partT (x.kind == 6) (ks.map (textAt L)) ks.length ++ tailT x)) : RNodeW L k := by
  intro w A c hN hlt
  rw [hT] at hlt ⊢
  clear hT
  obtain ⟨kd, kc, xn, xm, f⟩ := x
  simp only at hkind hs0
  subst hkind
  have HS0 := Lib.hid hs0; clear hs0
  have hpl := fun t (ht : t ≤ ks.length) => partT_le (b := false) (K := ks.map (textAt L)) (ks.length - t) t (by rw [List.length_map]; omega)
  rw [List.length_map] at hpl
  have HPL := Lib.hid hpl; clear hpl
  have HPS := Lib.hid (fun t (ht : t < ks.length) => partT_succ (b := false) (K := ks.map (textAt L)) (t := t) (by rw [List.length_map]; exact ht))
  have HIH := Lib.hid IH; clear IH
  clear hF
  have e6 : ((2 : Int) == 6) = false := rfl
  simp only [e6] at hlt ⊢
  clear e6
  rw [show headT ⟨2, kc, xn, xm, f⟩ = [] from rfl, show tailT ⟨2, kc, xn, xm, f⟩ = textW f from rfl] at hlt ⊢
  obtain ⟨b, off, hA, hbB, hn8⟩ := hN.node hk
  rw [hx] at hn8
  clear hx
  have CK := rkids_any A c L (k : Int) w hN
  rw [hks] at CK
  clear hks
  have HN := Lib.hid hN; clear hN
  subst hA
  have HN8 := Lib.hid hn8; clear hn8
  go_enter Tryz.func34, Tryz.ntmps34
  go_wp2_with fail
  refine CK.mono ?_
  rintro e1 w1 ⟨A1, c1, rfl, hown1, hb1⟩
  have HK1 := Lib.hid (row_at0 hown1 (by omega))
  have HB1 := Lib.hid hb1
  clear CK hown1 hb1
  go_wp2_with fail
  go_loopw [6, 7] (fun o i wr => ∃ (t : Nat) (S : ByteArray), t ≤ ks.length ∧ i = .int .i64 (t : Int) ∧ o = .string S ∧ S.data.toList = partT false (ks.map (textAt L)) t ∧ Below w.heap.size w wr ∧ Below w1.heap.size w1 wr) (fun _ i _ => ks.length - (intOf i).toNat)
  case atStart => exact ⟨0, ⟨#[]⟩, Nat.zero_le _, rfl, rfl, by rw [partT_zero], HB1.out, Below.refl _ _⟩
  case round =>
    obtain ⟨t, S, ht, rfl, rfl, hS, hB, hX⟩ := hrel
    have HS := Lib.hid hS
    have hSz : S.size ≤ 100000000 := by
      have h1 := HPL.out t ht
      have h2 : S.size = S.data.toList.length := by simp
      rw [h2, hS]; simp only [List.length_append] at hlt; omega
    have HB := Lib.hid hB
    have HX := Lib.hid hX
    have hn8 : Node8 wr b (off + k * 8) ⟨2, kc, xn, xm, f⟩ := by
      obtain ⟨a0, a1, a2, a3, a4, a5, a6, a7⟩ := HN8.out
      have hcl := (bcell HB.out).1
      exact ⟨(hcl _ _ hbB).trans a0, (hcl _ _ hbB).trans a1, (hcl _ _ hbB).trans a2, (hcl _ _ hbB).trans a3, (hcl _ _ hbB).trans a4, (hcl _ _ hbB).trans a5, (hcl _ _ hbB).trans a6, (hcl _ _ hbB).trans a7⟩
    obtain ⟨n0, n1, n2, n3, n4, n5, n6, n7⟩ := hn8
    simp only at n0 n1 n2 n3 n4 n5 n6 n7
    clear hS hB hX
    by_cases hlt' : t < ks.length
    · obtain ⟨bk, ofk, hA1, hbk, hc⟩ := (HK1.out.below HX.out).at_ hlt'
      subst hA1
      have hstep := HPS.out t hlt'
      rw [map_getD hlt'] at hstep
      have hle := HPL.out (t + 1) hlt'
      have HIJ := Lib.hid (HIH.out _ (getD_mem hlt'))
      generalize ks.getD t 0 = j at *
      simp only [List.length_append] at hlt
      have C := HIJ.out wr (some ⟨b, off, none⟩) c ((HN.out.below HB.out).more HB.out.size) (by rw [hstep] at hle; simp only [List.length_append, List.length_nil, List.length_cons] at hle hlt ⊢; omega)
      have hjl : (textAt L j).length ≤ 100000000 := by rw [hstep] at hle; simp only [List.length_append, List.length_nil, List.length_cons] at hle hlt ⊢; omega
      have HST := Lib.hid hstep
      clear hstep hle
      generalize textAt L j = Tj at *
      go_wp2_with fail
      all_goals (
        refine C.mono ?_
        rintro e2 w2 ⟨rfl, hb2⟩
        have HB2 := Lib.hid (HB.out.trans (hb2.mono HB.out.size))
        have HX2 := Lib.hid (HX.out.trans (hb2.mono HX.out.size))
        have hs2 : (S ++ (⟨Tj.toArray⟩ : ByteArray)).size = S.size + Tj.length := by rw [ByteArray.size_append]; show _ + Tj.toArray.size = _; simp
        clear C hb2
        go_wp2
        go_roundw
        case rel => exact ⟨t + 1, S ++ ⟨Tj.toArray⟩, by omega, by go_num, rfl, by rw [HST.out, ← HS.out]; simp [ByteArray.data_append], HB2.out, HX2.out⟩
        case measure => simp [intOf]; omega)
    · have hte : t = ks.length := by omega
      subst hte
      have h0 := List.eq_nil_of_length_eq_zero (HS0.out (by first | trivial | rfl))
      subst h0
      have CG := gtext_any f wr
      go_wp2_with fail
      refine CG.mono ?_
      rintro e3 w3 ⟨rfl, hb3⟩
      go_wp2
      go_ret
      exact ⟨congrArg Ending.returned (congrArg Value.string (bytes_ext (by simp [partT]))), HB.out.trans (hb3.mono HB.out.size)⟩
set_option maxRecDepth 100000 in
theorem rnode_group {L : List Nd} (hF : formedF L = true) {k : Nat} (hk : k < L.length) (hlen : L.length ≤ 1000000) {x : Nd} (hx : L.getD k ndEmpty = x) (ks : List Nat) (hks : kidsF L (k : Int) = ks) (hkn : ks.length ≤ 1000000)
    (hkind : x.kind = 3) (hs0 : x.kind = 2 → ks.length = 0) (IH : ∀ j ∈ ks, RNodeW L j) (hT : textAt L k = headT x ++ (partT (x.kind == 6) (ks.map (textAt L)) ks.length ++ tailT x)) : RNodeW L k := by
  intro w A c hN hlt
  rw [hT] at hlt ⊢
  clear hT
  obtain ⟨kd, kc, xn, xm, f⟩ := x
  simp only at hkind hs0
  subst hkind
  have HS0 := Lib.hid hs0; clear hs0
  have hpl := fun t (ht : t ≤ ks.length) => partT_le (b := false) (K := ks.map (textAt L)) (ks.length - t) t (by rw [List.length_map]; omega)
  rw [List.length_map] at hpl
  have HPL := Lib.hid hpl; clear hpl
  have HPS := Lib.hid (fun t (ht : t < ks.length) => partT_succ (b := false) (K := ks.map (textAt L)) (t := t) (by rw [List.length_map]; exact ht))
  have HIH := Lib.hid IH; clear IH
  clear hF
  have e6 : ((3 : Int) == 6) = false := rfl
  simp only [e6] at hlt ⊢
  clear e6
  rw [show headT ⟨3, kc, xn, xm, f⟩ = [40] from rfl, show tailT ⟨3, kc, xn, xm, f⟩ = [41] from rfl] at hlt ⊢
  obtain ⟨b, off, hA, hbB, hn8⟩ := hN.node hk
  rw [hx] at hn8
  clear hx
  have CK := rkids_any A c L (k : Int) w hN
  rw [hks] at CK
  clear hks
  have HN := Lib.hid hN; clear hN
  subst hA
  have HN8 := Lib.hid hn8; clear hn8
  go_enter Tryz.func34, Tryz.ntmps34
  go_wp2_with fail
  refine CK.mono ?_
  rintro e1 w1 ⟨A1, c1, rfl, hown1, hb1⟩
  have HK1 := Lib.hid (row_at0 hown1 (by omega))
  have HB1 := Lib.hid hb1
  clear CK hown1 hb1
  go_wp2_with fail
  go_loopw [6, 7] (fun o i wr => ∃ (t : Nat) (S : ByteArray), t ≤ ks.length ∧ i = .int .i64 (t : Int) ∧ o = .string S ∧ S.data.toList = partT false (ks.map (textAt L)) t ∧ Below w.heap.size w wr ∧ Below w1.heap.size w1 wr) (fun _ i _ => ks.length - (intOf i).toNat)
  case atStart => exact ⟨0, ⟨#[]⟩, Nat.zero_le _, rfl, rfl, by rw [partT_zero], HB1.out, Below.refl _ _⟩
  case round =>
    obtain ⟨t, S, ht, rfl, rfl, hS, hB, hX⟩ := hrel
    have HS := Lib.hid hS
    have hSz : S.size ≤ 100000000 := by
      have h1 := HPL.out t ht
      have h2 : S.size = S.data.toList.length := by simp
      rw [h2, hS]; simp only [List.length_append] at hlt; omega
    have HB := Lib.hid hB
    have HX := Lib.hid hX
    have hn8 : Node8 wr b (off + k * 8) ⟨3, kc, xn, xm, f⟩ := by
      obtain ⟨a0, a1, a2, a3, a4, a5, a6, a7⟩ := HN8.out
      have hcl := (bcell HB.out).1
      exact ⟨(hcl _ _ hbB).trans a0, (hcl _ _ hbB).trans a1, (hcl _ _ hbB).trans a2, (hcl _ _ hbB).trans a3, (hcl _ _ hbB).trans a4, (hcl _ _ hbB).trans a5, (hcl _ _ hbB).trans a6, (hcl _ _ hbB).trans a7⟩
    obtain ⟨n0, n1, n2, n3, n4, n5, n6, n7⟩ := hn8
    simp only at n0 n1 n2 n3 n4 n5 n6 n7
    clear hS hB hX
    by_cases hlt' : t < ks.length
    · obtain ⟨bk, ofk, hA1, hbk, hc⟩ := (HK1.out.below HX.out).at_ hlt'
      subst hA1
      have hstep := HPS.out t hlt'
      rw [map_getD hlt'] at hstep
      have hle := HPL.out (t + 1) hlt'
      have HIJ := Lib.hid (HIH.out _ (getD_mem hlt'))
      generalize ks.getD t 0 = j at *
      simp only [List.length_append] at hlt
      have C := HIJ.out wr (some ⟨b, off, none⟩) c ((HN.out.below HB.out).more HB.out.size) (by rw [hstep] at hle; simp only [List.length_append, List.length_nil, List.length_cons] at hle hlt ⊢; omega)
      have hjl : (textAt L j).length ≤ 100000000 := by rw [hstep] at hle; simp only [List.length_append, List.length_nil, List.length_cons] at hle hlt ⊢; omega
      have HST := Lib.hid hstep
      clear hstep hle
      generalize textAt L j = Tj at *
      go_wp2_with fail
      all_goals (
        refine C.mono ?_
        rintro e2 w2 ⟨rfl, hb2⟩
        have HB2 := Lib.hid (HB.out.trans (hb2.mono HB.out.size))
        have HX2 := Lib.hid (HX.out.trans (hb2.mono HX.out.size))
        have hs2 : (S ++ (⟨Tj.toArray⟩ : ByteArray)).size = S.size + Tj.length := by rw [ByteArray.size_append]; show _ + Tj.toArray.size = _; simp
        clear C hb2
        go_wp2
        go_roundw
        case rel => exact ⟨t + 1, S ++ ⟨Tj.toArray⟩, by omega, by go_num, rfl, by rw [HST.out, ← HS.out]; simp [ByteArray.data_append], HB2.out, HX2.out⟩
        case measure => simp [intOf]; omega)
    · have hte : t = ks.length := by omega
      subst hte
      have hs1 : ((⟨#[40]⟩ : ByteArray) ++ S).size = 1 + S.size := by rw [ByteArray.size_append]; rfl
      go_wp2
      go_ret
      exact ⟨congrArg Ending.returned (congrArg Value.string (bytes_ext (by simp [ByteArray.data_append, HS.out]))), HB.out⟩
set_option maxRecDepth 100000 in
theorem rnode_rep {L : List Nd} (hF : formedF L = true) {k : Nat} (hk : k < L.length) (hlen : L.length ≤ 1000000) {x : Nd} (hx : L.getD k ndEmpty = x) (ks : List Nat) (hks : kidsF L (k : Int) = ks) (hkn : ks.length ≤ 1000000)
    (hkind : x.kind = 4) (hs0 : x.kind = 2 → ks.length = 0) (IH : ∀ j ∈ ks, RNodeW L j) (hT : textAt L k = headT x ++ (partT (x.kind == 6) (ks.map (textAt L)) ks.length ++ tailT x)) : RNodeW L k := by
  intro w A c hN hlt
  rw [hT] at hlt ⊢
  clear hT
  obtain ⟨kd, kc, xn, xm, f⟩ := x
  simp only at hkind hs0
  subst hkind
  have HS0 := Lib.hid hs0; clear hs0
  have hpl := fun t (ht : t ≤ ks.length) => partT_le (b := false) (K := ks.map (textAt L)) (ks.length - t) t (by rw [List.length_map]; omega)
  rw [List.length_map] at hpl
  have HPL := Lib.hid hpl; clear hpl
  have HPS := Lib.hid (fun t (ht : t < ks.length) => partT_succ (b := false) (K := ks.map (textAt L)) (t := t) (by rw [List.length_map]; exact ht))
  have HIH := Lib.hid IH; clear IH
  clear hF
  have e6 : ((4 : Int) == 6) = false := rfl
  simp only [e6] at hlt ⊢
  clear e6
  rw [show headT ⟨4, kc, xn, xm, f⟩ = [] from rfl, show tailT ⟨4, kc, xn, xm, f⟩ = textF xn xm from rfl] at hlt ⊢
  obtain ⟨b, off, hA, hbB, hn8⟩ := hN.node hk
  rw [hx] at hn8
  clear hx
  have CK := rkids_any A c L (k : Int) w hN
  rw [hks] at CK
  clear hks
  have HN := Lib.hid hN; clear hN
  subst hA
  have HN8 := Lib.hid hn8; clear hn8
  go_enter Tryz.func34, Tryz.ntmps34
  go_wp2_with fail
  refine CK.mono ?_
  rintro e1 w1 ⟨A1, c1, rfl, hown1, hb1⟩
  have HK1 := Lib.hid (row_at0 hown1 (by omega))
  have HB1 := Lib.hid hb1
  clear CK hown1 hb1
  go_wp2_with fail
  go_loopw [6, 7] (fun o i wr => ∃ (t : Nat) (S : ByteArray), t ≤ ks.length ∧ i = .int .i64 (t : Int) ∧ o = .string S ∧ S.data.toList = partT false (ks.map (textAt L)) t ∧ Below w.heap.size w wr ∧ Below w1.heap.size w1 wr) (fun _ i _ => ks.length - (intOf i).toNat)
  case atStart => exact ⟨0, ⟨#[]⟩, Nat.zero_le _, rfl, rfl, by rw [partT_zero], HB1.out, Below.refl _ _⟩
  case round =>
    obtain ⟨t, S, ht, rfl, rfl, hS, hB, hX⟩ := hrel
    have HS := Lib.hid hS
    have hSz : S.size ≤ 100000000 := by
      have h1 := HPL.out t ht
      have h2 : S.size = S.data.toList.length := by simp
      rw [h2, hS]; simp only [List.length_append] at hlt; omega
    have HB := Lib.hid hB
    have HX := Lib.hid hX
    have hn8 : Node8 wr b (off + k * 8) ⟨4, kc, xn, xm, f⟩ := by
      obtain ⟨a0, a1, a2, a3, a4, a5, a6, a7⟩ := HN8.out
      have hcl := (bcell HB.out).1
      exact ⟨(hcl _ _ hbB).trans a0, (hcl _ _ hbB).trans a1, (hcl _ _ hbB).trans a2, (hcl _ _ hbB).trans a3, (hcl _ _ hbB).trans a4, (hcl _ _ hbB).trans a5, (hcl _ _ hbB).trans a6, (hcl _ _ hbB).trans a7⟩
    obtain ⟨n0, n1, n2, n3, n4, n5, n6, n7⟩ := hn8
    simp only at n0 n1 n2 n3 n4 n5 n6 n7
    clear hS hB hX
    by_cases hlt' : t < ks.length
    · obtain ⟨bk, ofk, hA1, hbk, hc⟩ := (HK1.out.below HX.out).at_ hlt'
      subst hA1
      have hstep := HPS.out t hlt'
      rw [map_getD hlt'] at hstep
      have hle := HPL.out (t + 1) hlt'
      have HIJ := Lib.hid (HIH.out _ (getD_mem hlt'))
      generalize ks.getD t 0 = j at *
      simp only [List.length_append] at hlt
      have C := HIJ.out wr (some ⟨b, off, none⟩) c ((HN.out.below HB.out).more HB.out.size) (by rw [hstep] at hle; simp only [List.length_append, List.length_nil, List.length_cons] at hle hlt ⊢; omega)
      have hjl : (textAt L j).length ≤ 100000000 := by rw [hstep] at hle; simp only [List.length_append, List.length_nil, List.length_cons] at hle hlt ⊢; omega
      have HST := Lib.hid hstep
      clear hstep hle
      generalize textAt L j = Tj at *
      go_wp2_with fail
      all_goals (
        refine C.mono ?_
        rintro e2 w2 ⟨rfl, hb2⟩
        have HB2 := Lib.hid (HB.out.trans (hb2.mono HB.out.size))
        have HX2 := Lib.hid (HX.out.trans (hb2.mono HX.out.size))
        have hs2 : (S ++ (⟨Tj.toArray⟩ : ByteArray)).size = S.size + Tj.length := by rw [ByteArray.size_append]; show _ + Tj.toArray.size = _; simp
        clear C hb2
        go_wp2
        go_roundw
        case rel => exact ⟨t + 1, S ++ ⟨Tj.toArray⟩, by omega, by go_num, rfl, by rw [HST.out, ← HS.out]; simp [ByteArray.data_append], HB2.out, HX2.out⟩
        case measure => simp [intOf]; omega)
    · have hte : t = ks.length := by omega
      subst hte
      have q2 : ∀ d os, («Sort».grow (redrawn wr d) os).cell? ⟨b, off + k * 8 + 2, none⟩ = some (.int .i64 xn) := fun d os => ((bcell (below_regrown wr d os)).1 _ _ (Nat.lt_of_lt_of_le hbB HB.out.size)).trans n2
      have q3 : ∀ d os, («Sort».grow (redrawn wr d) os).cell? ⟨b, off + k * 8 + 3, none⟩ = some (.int .i64 xm) := fun d os => ((bcell (below_regrown wr d os)).1 _ _ (Nat.lt_of_lt_of_le hbB HB.out.size)).trans n3
      go_upto_region 15 with fail
      have hs3 : (S ++ (⟨(textF xn xm).toArray⟩ : ByteArray)).size = S.size + (textF xn xm).length := by rw [ByteArray.size_append]; show _ + (textF xn xm).toArray.size = _; simp
      have hs4 : (textF xn xm).length ≤ 100000000 := by simp only [List.length_append, List.length_nil] at hlt; omega
      refine wp_region_quiet_below (by kernel_rfl) (by kernel_rfl) ?_
      repeat (first | go_big_quiet_step ((first | (go_at_call 62; exact Calls.regrown_of (rtext_any xn xm _)))) | quiet_step ((first | (go_at_call 62; exact Calls.regrown_of (rtext_any xn xm _)))))
      refine wpQuiet_nil ?_
      intro _ hw'
      obtain ⟨⟨qd, qos⟩, hw''⟩ := hw'
      subst hw''
      go_wp2
      go_ret
      exact ⟨congrArg Ending.returned (congrArg Value.string (bytes_ext (by simp [ByteArray.data_append, HS.out]))), HB.out.trans ((below_regrown wr qd qos).mono HB.out.size)⟩
set_option maxRecDepth 100000 in
theorem rnode_cat {L : List Nd} (hF : formedF L = true) {k : Nat} (hk : k < L.length) (hlen : L.length ≤ 1000000) {x : Nd} (hx : L.getD k ndEmpty = x) (ks : List Nat) (hks : kidsF L (k : Int) = ks) (hkn : ks.length ≤ 1000000)
    (hkind : x.kind = 5) (hs0 : x.kind = 2 → ks.length = 0) (IH : ∀ j ∈ ks, RNodeW L j) (hT : textAt L k = headT x ++ (partT (x.kind == 6) (ks.map (textAt L)) ks.length ++ tailT x)) : RNodeW L k := by
  intro w A c hN hlt
  rw [hT] at hlt ⊢
  clear hT
  obtain ⟨kd, kc, xn, xm, f⟩ := x
  simp only at hkind hs0
  subst hkind
  have HS0 := Lib.hid hs0; clear hs0
  have hpl := fun t (ht : t ≤ ks.length) => partT_le (b := false) (K := ks.map (textAt L)) (ks.length - t) t (by rw [List.length_map]; omega)
  rw [List.length_map] at hpl
  have HPL := Lib.hid hpl; clear hpl
  have HPS := Lib.hid (fun t (ht : t < ks.length) => partT_succ (b := false) (K := ks.map (textAt L)) (t := t) (by rw [List.length_map]; exact ht))
  have HIH := Lib.hid IH; clear IH
  clear hF
  have e6 : ((5 : Int) == 6) = false := rfl
  simp only [e6] at hlt ⊢
  clear e6
  rw [show headT ⟨5, kc, xn, xm, f⟩ = [] from rfl, show tailT ⟨5, kc, xn, xm, f⟩ = [] from rfl] at hlt ⊢
  obtain ⟨b, off, hA, hbB, hn8⟩ := hN.node hk
  rw [hx] at hn8
  clear hx
  have CK := rkids_any A c L (k : Int) w hN
  rw [hks] at CK
  clear hks
  have HN := Lib.hid hN; clear hN
  subst hA
  have HN8 := Lib.hid hn8; clear hn8
  go_enter Tryz.func34, Tryz.ntmps34
  go_wp2_with fail
  refine CK.mono ?_
  rintro e1 w1 ⟨A1, c1, rfl, hown1, hb1⟩
  have HK1 := Lib.hid (row_at0 hown1 (by omega))
  have HB1 := Lib.hid hb1
  clear CK hown1 hb1
  go_wp2_with fail
  go_loopw [6, 7] (fun o i wr => ∃ (t : Nat) (S : ByteArray), t ≤ ks.length ∧ i = .int .i64 (t : Int) ∧ o = .string S ∧ S.data.toList = partT false (ks.map (textAt L)) t ∧ Below w.heap.size w wr ∧ Below w1.heap.size w1 wr) (fun _ i _ => ks.length - (intOf i).toNat)
  case atStart => exact ⟨0, ⟨#[]⟩, Nat.zero_le _, rfl, rfl, by rw [partT_zero], HB1.out, Below.refl _ _⟩
  case round =>
    obtain ⟨t, S, ht, rfl, rfl, hS, hB, hX⟩ := hrel
    have HS := Lib.hid hS
    have hSz : S.size ≤ 100000000 := by
      have h1 := HPL.out t ht
      have h2 : S.size = S.data.toList.length := by simp
      rw [h2, hS]; simp only [List.length_append] at hlt; omega
    have HB := Lib.hid hB
    have HX := Lib.hid hX
    have hn8 : Node8 wr b (off + k * 8) ⟨5, kc, xn, xm, f⟩ := by
      obtain ⟨a0, a1, a2, a3, a4, a5, a6, a7⟩ := HN8.out
      have hcl := (bcell HB.out).1
      exact ⟨(hcl _ _ hbB).trans a0, (hcl _ _ hbB).trans a1, (hcl _ _ hbB).trans a2, (hcl _ _ hbB).trans a3, (hcl _ _ hbB).trans a4, (hcl _ _ hbB).trans a5, (hcl _ _ hbB).trans a6, (hcl _ _ hbB).trans a7⟩
    obtain ⟨n0, n1, n2, n3, n4, n5, n6, n7⟩ := hn8
    simp only at n0 n1 n2 n3 n4 n5 n6 n7
    clear hS hB hX
    by_cases hlt' : t < ks.length
    · obtain ⟨bk, ofk, hA1, hbk, hc⟩ := (HK1.out.below HX.out).at_ hlt'
      subst hA1
      have hstep := HPS.out t hlt'
      rw [map_getD hlt'] at hstep
      have hle := HPL.out (t + 1) hlt'
      have HIJ := Lib.hid (HIH.out _ (getD_mem hlt'))
      generalize ks.getD t 0 = j at *
      simp only [List.length_append] at hlt
      have C := HIJ.out wr (some ⟨b, off, none⟩) c ((HN.out.below HB.out).more HB.out.size) (by rw [hstep] at hle; simp only [List.length_append, List.length_nil, List.length_cons] at hle hlt ⊢; omega)
      have hjl : (textAt L j).length ≤ 100000000 := by rw [hstep] at hle; simp only [List.length_append, List.length_nil, List.length_cons] at hle hlt ⊢; omega
      have HST := Lib.hid hstep
      clear hstep hle
      generalize textAt L j = Tj at *
      go_wp2_with fail
      all_goals (
        refine C.mono ?_
        rintro e2 w2 ⟨rfl, hb2⟩
        have HB2 := Lib.hid (HB.out.trans (hb2.mono HB.out.size))
        have HX2 := Lib.hid (HX.out.trans (hb2.mono HX.out.size))
        have hs2 : (S ++ (⟨Tj.toArray⟩ : ByteArray)).size = S.size + Tj.length := by rw [ByteArray.size_append]; show _ + Tj.toArray.size = _; simp
        clear C hb2
        go_wp2
        go_roundw
        case rel => exact ⟨t + 1, S ++ ⟨Tj.toArray⟩, by omega, by go_num, rfl, by rw [HST.out, ← HS.out]; simp [ByteArray.data_append], HB2.out, HX2.out⟩
        case measure => simp [intOf]; omega)
    · have hte : t = ks.length := by omega
      subst hte
      go_wp2
      go_ret
      exact ⟨congrArg Ending.returned (congrArg Value.string (bytes_ext (by rw [HS.out]; simp))), HB.out⟩
set_option maxRecDepth 100000 in
theorem rnode_alt {L : List Nd} (hF : formedF L = true) {k : Nat} (hk : k < L.length) (hlen : L.length ≤ 1000000) {x : Nd} (hx : L.getD k ndEmpty = x) (ks : List Nat) (hks : kidsF L (k : Int) = ks) (hkn : ks.length ≤ 1000000)
    (hkind : x.kind = 6) (hs0 : x.kind = 2 → ks.length = 0) (IH : ∀ j ∈ ks, RNodeW L j) (hT : textAt L k = headT x ++ (partT (x.kind == 6) (ks.map (textAt L)) ks.length ++ tailT x)) : RNodeW L k := by
  intro w A c hN hlt
  rw [hT] at hlt ⊢
  clear hT
  obtain ⟨kd, kc, xn, xm, f⟩ := x
  simp only at hkind hs0
  subst hkind
  have HS0 := Lib.hid hs0; clear hs0
  have hpl := fun t (ht : t ≤ ks.length) => partT_le (b := true) (K := ks.map (textAt L)) (ks.length - t) t (by rw [List.length_map]; omega)
  rw [List.length_map] at hpl
  have HPL := Lib.hid hpl; clear hpl
  have HPS := Lib.hid (fun t (ht : t < ks.length) => partT_succ (b := true) (K := ks.map (textAt L)) (t := t) (by rw [List.length_map]; exact ht))
  have HIH := Lib.hid IH; clear IH
  clear hF
  have e6 : ((6 : Int) == 6) = true := rfl
  simp only [e6] at hlt ⊢
  clear e6
  rw [show headT ⟨6, kc, xn, xm, f⟩ = [] from rfl, show tailT ⟨6, kc, xn, xm, f⟩ = [] from rfl] at hlt ⊢
  obtain ⟨b, off, hA, hbB, hn8⟩ := hN.node hk
  rw [hx] at hn8
  clear hx
  have CK := rkids_any A c L (k : Int) w hN
  rw [hks] at CK
  clear hks
  have HN := Lib.hid hN; clear hN
  subst hA
  have HN8 := Lib.hid hn8; clear hn8
  go_enter Tryz.func34, Tryz.ntmps34
  go_wp2_with fail
  refine CK.mono ?_
  rintro e1 w1 ⟨A1, c1, rfl, hown1, hb1⟩
  have HK1 := Lib.hid (row_at0 hown1 (by omega))
  have HB1 := Lib.hid hb1
  clear CK hown1 hb1
  go_wp2_with fail
  go_loopw [6, 7] (fun o i wr => ∃ (t : Nat) (S : ByteArray), t ≤ ks.length ∧ i = .int .i64 (t : Int) ∧ o = .string S ∧ S.data.toList = partT true (ks.map (textAt L)) t ∧ Below w.heap.size w wr ∧ Below w1.heap.size w1 wr) (fun _ i _ => ks.length - (intOf i).toNat)
  case atStart => exact ⟨0, ⟨#[]⟩, Nat.zero_le _, rfl, rfl, by rw [partT_zero], HB1.out, Below.refl _ _⟩
  case round =>
    obtain ⟨t, S, ht, rfl, rfl, hS, hB, hX⟩ := hrel
    have HS := Lib.hid hS
    have hSz : S.size ≤ 100000000 := by
      have h1 := HPL.out t ht
      have h2 : S.size = S.data.toList.length := by simp
      rw [h2, hS]; simp only [List.length_append] at hlt; omega
    have HB := Lib.hid hB
    have HX := Lib.hid hX
    have hn8 : Node8 wr b (off + k * 8) ⟨6, kc, xn, xm, f⟩ := by
      obtain ⟨a0, a1, a2, a3, a4, a5, a6, a7⟩ := HN8.out
      have hcl := (bcell HB.out).1
      exact ⟨(hcl _ _ hbB).trans a0, (hcl _ _ hbB).trans a1, (hcl _ _ hbB).trans a2, (hcl _ _ hbB).trans a3, (hcl _ _ hbB).trans a4, (hcl _ _ hbB).trans a5, (hcl _ _ hbB).trans a6, (hcl _ _ hbB).trans a7⟩
    obtain ⟨n0, n1, n2, n3, n4, n5, n6, n7⟩ := hn8
    simp only at n0 n1 n2 n3 n4 n5 n6 n7
    clear hS hB hX
    by_cases hlt' : t < ks.length
    · obtain ⟨bk, ofk, hA1, hbk, hc⟩ := (HK1.out.below HX.out).at_ hlt'
      subst hA1
      have hstep := HPS.out t hlt'
      rw [map_getD hlt'] at hstep
      have hle := HPL.out (t + 1) hlt'
      have HIJ := Lib.hid (HIH.out _ (getD_mem hlt'))
      generalize ks.getD t 0 = j at *
      simp only [List.length_append] at hlt
      have C := HIJ.out wr (some ⟨b, off, none⟩) c ((HN.out.below HB.out).more HB.out.size) (by rw [hstep] at hle; simp only [List.length_append, List.length_nil, List.length_cons] at hle hlt ⊢; omega)
      have hjl : (textAt L j).length ≤ 100000000 := by rw [hstep] at hle; simp only [List.length_append, List.length_nil, List.length_cons] at hle hlt ⊢; omega
      have HST := Lib.hid hstep
      clear hstep hle
      generalize textAt L j = Tj at *
      by_cases h0 : t = 0
      · subst h0
        have hd0 : decide ((0 : Int) < ((0 : Nat) : Int)) = false := rfl
        simp only [Nat.add_zero] at hc
        go_wp2_with fail
        all_goals (
          refine C.mono ?_
          rintro e2 w2 ⟨rfl, hb2⟩
          have HB2 := Lib.hid (HB.out.trans (hb2.mono HB.out.size))
          have HX2 := Lib.hid (HX.out.trans (hb2.mono HX.out.size))
          have hs2 : (S ++ (⟨Tj.toArray⟩ : ByteArray)).size = S.size + Tj.length := by rw [ByteArray.size_append]; show _ + Tj.toArray.size = _; simp
          clear C hb2
          go_wp2
          go_roundw
          case rel => exact ⟨0 + 1, S ++ ⟨Tj.toArray⟩, by omega, by go_num, rfl, by rw [HST.out, ← HS.out]; simp [ByteArray.data_append], HB2.out, HX2.out⟩
          case measure => simp [intOf]; omega)
      · have h0' : 0 < t := by omega
        have hs9 : (S ++ (⟨#[124]⟩ : ByteArray)).size = S.size + 1 := by rw [ByteArray.size_append]; rfl
        have hs8 : S.size + 1 + Tj.length ≤ 100000000 := by
          have h1 := HPL.out (t + 1) hlt'
          rw [HST.out, ← HS.out, if_pos (by simp [h0'])] at h1
          have h2 : S.size = S.data.toList.length := by simp
          simp only [List.length_append, List.length_nil, List.length_cons] at h1 hlt ⊢; omega
        have hd1 : decide ((0 : Int) < (t : Int)) = true := decide_eq_true (by omega)
        have hs2 : (S ++ (⟨#[124]⟩ : ByteArray) ++ (⟨Tj.toArray⟩ : ByteArray)).size = S.size + 1 + Tj.length := by rw [ByteArray.size_append, hs9]; show _ + Tj.toArray.size = _; simp
        go_wp2_with fail
        refine C.mono ?_
        rintro e2 w2 ⟨rfl, hb2⟩
        have HB2 := Lib.hid (HB.out.trans (hb2.mono HB.out.size))
        have HX2 := Lib.hid (HX.out.trans (hb2.mono HX.out.size))
        clear C hb2
        go_wp2
        go_roundw
        case rel => exact ⟨t + 1, S ++ ⟨#[124]⟩ ++ ⟨Tj.toArray⟩, by omega, by go_num, rfl, by rw [HST.out, ← HS.out, if_pos (by simp [h0'])]; simp [ByteArray.data_append], HB2.out, HX2.out⟩
        case measure => simp [intOf]; omega
    · have hte : t = ks.length := by omega
      subst hte
      go_wp2
      go_ret
      exact ⟨congrArg Ending.returned (congrArg Value.string (bytes_ext (by rw [HS.out]; simp))), HB.out⟩
theorem rnode_any {L : List Nd} (h : rightF L = true) (hlen : L.length ≤ 1000000) (k : Nat) (hk : k < L.length) : RNodeW L k := by
  obtain ⟨hF, hok, _⟩ := right_parts h
  revert hk
  induction k using Nat.strongRecOn with
  | _ k ih =>
    intro hk
    have hT := text_parts hF hok hk
    have hkn : (kidsF L (k : Int)).length ≤ 1000000 := by
      have h1 := formed_at hF hk
      have h2 := St_len (L := L) (k := k) (by omega)
      rw [kidsF_length hF hk]; omega
    have IH : ∀ j ∈ kidsF L (k : Int), RNodeW L j := fun j hj => ih j (kidsF_lt hF hk hj) (Nat.lt_trans (kidsF_lt hF hk hj) hk)
    cases nodeIs (nodeOk_parts (hok k hk)).1 with
    | empty hk1 => exact rnode_empty hF hk hlen rfl _ rfl hkn hk1 (by omega) IH hT
    | set hk1 hn1 h1 => exact rnode_set hF hk hlen rfl _ rfl hkn hk1 (fun _ => by rw [kidsF_length hF hk, hn1]; rfl) IH hT
    | group hk1 => exact rnode_group hF hk hlen rfl _ rfl hkn hk1 (by omega) IH hT
    | rep hk1 => exact rnode_rep hF hk hlen rfl _ rfl hkn hk1 (by omega) IH hT
    | cat hk1 => exact rnode_cat hF hk hlen rfl _ rfl hkn hk1 (by omega) IH hT
    | alt hk1 => exact rnode_alt hF hk hlen rfl _ rfl hkn hk1 (by omega) IH hT
end Go.Proofs.YtfcgmgpcbenfpaaGreat

/- Walks of the document's printer: print and plain. -/
namespace Go.Proofs.YtfcgmgpcbenfpaaGreat
open Go.RowKit SetP BrkP LexP AstP ParP
set_option maxRecDepth 100000 in
set_option maxHeartbeats 2000000 in
theorem rprint_any (A : Option Addr) (c : Nat) (L : List Nd) (hlen : L.length ≤ 1000000) (hl : rightF L = true → (textAt L (L.length - 1)).length ≤ 100000000) (w : World) (hN : NodesAt w w.heap.size A L) :
    Calls Tryz.prog 18 #[.slice A L.length c] w fun e w' => e = .returned (if rightF L then .tuple #[.string ⟨(textAt L (L.length - 1)).toArray⟩, .int .i64 0] else .tuple #[.string ⟨#[]⟩, .int .i64 11]) ∧ Below w.heap.size w w' := by
  have C := rright6_any A c L w hN
  cases hr : rightF L with
  | false =>
    rw [hr] at C
    rw [if_neg (by simp)]
    go_enter Tryz.func18, Tryz.ntmps18
    go_wp2_with fail
    refine C.mono ?_
    rintro e1 w1 ⟨rfl, hb1⟩
    go_wp2
    refine bodyPost_ret (v := .tuple #[.string ⟨#[]⟩, .int .i64 11]) (by simp [results, Tryz.results18, go_sem]) rfl ⟨rfl, hb1⟩
  | true =>
    rw [hr] at C
    rw [if_pos rfl]
    have hpos := (root_size (right_parts hr).1).1
    have C2 := fun w1 hN1 => rnode_any hr hlen (L.length - 1) (by omega) w1 A c hN1 (hl hr)
    generalize textAt L (L.length - 1) = T at *
    have hc : (((L.length - 1 : Nat)) : Int) = (L.length : Int) - 1 := by omega
    simp only [hc] at C2
    have HN := Lib.hid hN
    clear hN hl hc
    go_enter Tryz.func18, Tryz.ntmps18
    go_wp2_with fail
    refine C.mono ?_
    rintro e1 w1 ⟨rfl, hb1⟩
    have hN1 := (HN.out.below hb1).more hb1.size
    have HB1 := Lib.hid hb1
    have C3 := C2 w1 hN1
    clear hb1 hN1 C C2
    go_wp2_with fail
    refine C3.mono ?_
    rintro e2 w2 ⟨rfl, hb2⟩
    go_wp2
    refine bodyPost_ret (v := .tuple #[.string ⟨T.toArray⟩, .int .i64 0]) (by simp [results, Tryz.results18, go_sem]) rfl ⟨rfl, below_then HB1.out hb2⟩
set_option maxRecDepth 100000 in
set_option maxHeartbeats 2000000 in
theorem rplain_any (s : ByteArray) (hs : s.size ≤ 20000) (hlen : (parseF s).1.length ≤ 90000) (w : World) : Calls Tryz.prog 22 #[.string s] w fun e w' => e = .returned (.tuple #[.string ⟨(plainF s).1.toArray⟩, .int .i64 (plainF s).2.1, .int .i64 (plainF s).2.2]) ∧ Below w.heap.size w w' := by
  have C := rparse_any s (by omega) w
  by_cases h0 : (parseF s).2.1 = 0
  · have hr := parse_right h0
    have hp : plainF s = (textAt (parseF s).1 ((parseF s).1.length - 1), 0, 0) := by unfold plainF; rw [if_pos h0]
    rw [hp]
    clear hp
    obtain ⟨⟨L, er, p⟩, hR⟩ : ∃ R, parseF s = R := ⟨_, rfl⟩
    rw [hR] at C h0 hr hlen ⊢
    simp only at h0 hr hlen ⊢
    subst h0
    clear hR
    obtain ⟨hF, hok, _⟩ := right_parts hr
    have hpos := (root_size hF).1
    have hl : (textAt L (L.length - 1)).length ≤ 100000000 := by
      have h1 := text_le hF hok (L.length - 1) (by omega)
      rw [nodes_root hF] at h1; omega
    have C2 := fun A c w1 hN1 => rnode_any hr (by omega) (L.length - 1) (by omega) w1 A c hN1 hl
    generalize textAt L (L.length - 1) = T at *
    have hc : (((L.length - 1 : Nat)) : Int) = (L.length : Int) - 1 := by omega
    simp only [hc] at C2
    clear hc hF hok hl hr
    go_enter Tryz.func22, Tryz.ntmps22
    go_wp2_with fail
    refine C.mono ?_
    rintro e1 w1 ⟨A, c, rfl, hown, hb1⟩
    have C3 := C2 A c w1 (NodesAt.of_row hown rfl (by simp only; omega))
    have HB1 := Lib.hid hb1
    clear C C2 hown hb1
    go_wp2_with fail
    refine C3.mono ?_
    rintro e2 w2 ⟨rfl, hb2⟩
    go_wp2
    refine bodyPost_ret (v := .tuple #[.string ⟨T.toArray⟩, .int .i64 0, .int .i64 0]) (by simp [results, Tryz.results22, go_sem]) rfl ⟨rfl, below_then HB1.out hb2⟩
  · have hp : plainF s = ([], (parseF s).2.1, (parseF s).2.2) := by unfold plainF; rw [if_neg h0]
    rw [hp]
    clear hp
    obtain ⟨⟨L, er, p⟩, hR⟩ : ∃ R, parseF s = R := ⟨_, rfl⟩
    rw [hR] at C h0 ⊢
    simp only at h0 ⊢
    have t0 : (er != 0) = true := bne_iff_ne.2 h0
    clear hR h0
    go_enter Tryz.func22, Tryz.ntmps22
    go_wp2_with fail
    refine C.mono ?_
    rintro e1 w1 ⟨A, c, rfl, hown, hb1⟩
    clear C hown
    go_wp2
    refine bodyPost_ret (v := .tuple #[.string ⟨#[]⟩, .int .i64 er, .int .i64 p]) (by simp [results, Tryz.results22, go_sem]) rfl ⟨rfl, hb1⟩
end Go.Proofs.YtfcgmgpcbenfpaaGreat

/- Walks: print.Group and the document's. -/
namespace Go.Proofs.YtfcgmgpcbenfpaaGreat
open Go.RowKit SetP BrkP LexP AstP ParP
/-- A group's text, and the error. -/
def groupF (L : List Nd) (n : Int) : List UInt8 × Int :=
  if rightF L then (if 0 < n ∧ (numsF L).idxOf n.toNat < L.length then (textAt L ((numsF L).idxOf n.toNat), 0) else ([], 1)) else ([], 11)
theorem idx_hit (a : Nat) : ∀ (l : List Nat) (t : Nat), t < l.length → (∀ j, j < t → l.getD j 0 ≠ a) → l.getD t 0 = a → l.idxOf a = t := by
  intro l
  induction l with
  | nil => intro t h; exact absurd h (Nat.not_lt_zero _)
  | cons x l ih =>
    intro t ht hn hh
    cases t with
    | zero => rw [show x = a from hh, List.idxOf_cons_self]
    | succ t =>
      have hx : x ≠ a := hn 0 (Nat.zero_lt_succ _)
      have e1 : (x :: l).idxOf a = l.idxOf a + 1 := by rw [List.idxOf_cons, beq_eq_false_iff_ne.2 hx]; rfl
      rw [e1, ih t (Nat.lt_of_succ_lt_succ ht) (fun j hj => hn (j + 1) (Nat.succ_lt_succ hj)) hh]
theorem idx_none (a : Nat) (l : List Nat) (hn : ∀ j, j < l.length → l.getD j 0 ≠ a) : ¬ l.idxOf a < l.length := by
  intro h
  have hm : a ∈ l := List.idxOf_lt_length_iff.mp h
  obtain ⟨j, hj, e⟩ := List.getElem_of_mem hm
  exact hn j hj (by rw [List.getD_eq_getElem?_getD, List.getElem?_eq_getElem hj]; exact e)
theorem nums_len {L : List Nd} (h : rightF L = true) : (numsF L).length = L.length := by rw [numsF_Nums (right_parts h).1, Nums_length]
set_option maxRecDepth 100000 in
set_option maxHeartbeats 2000000 in
theorem prgroup_any (A : Option Addr) (c : Nat) (L : List Nd) (n : Int) (hlen : L.length ≤ 1000000) (hl : rightF L = true → ∀ k, k < L.length → (textAt L k).length ≤ 100000000) (w : World) (hN : NodesAt w w.heap.size A L) :
    Calls Tryz.prog 19 #[.slice A L.length c, .int .i64 n] w fun e w' => e = .returned (.tuple #[.string ⟨(groupF L n).1.toArray⟩, .int .i64 (groupF L n).2]) ∧ Below w.heap.size w w' := by
  have C := right_any A c L w hN
  unfold groupF
  cases hr : rightF L with
  | false =>
    rw [hr] at C
    rw [if_neg (by simp)]
    go_enter Tryz.func19, Tryz.ntmps19
    go_wp2_with fail
    refine C.mono ?_
    rintro e1 w1 ⟨rfl, hb1⟩
    go_wp2
    refine bodyPost_ret (v := .tuple #[.string ⟨#[]⟩, .int .i64 11]) (by simp [results, Tryz.results19, go_sem]) rfl ⟨rfl, hb1⟩
  | true =>
    rw [hr] at C
    rw [if_pos rfl]
    have HN := Lib.hid hN
    have HLL := Lib.hid (hl hr)
    obtain ⟨R, hR⟩ : ∃ R, (if 0 < n ∧ (numsF L).idxOf n.toNat < L.length then (textAt L ((numsF L).idxOf n.toNat), (0 : Int)) else ([], 1)) = R := ⟨_, rfl⟩
    rw [hR]
    have HR := Lib.hid hR
    clear hR
    clear hN hl
    go_enter Tryz.func19, Tryz.ntmps19
    go_wp2_with fail
    refine C.mono ?_
    rintro e1 w1 ⟨rfl, hb1⟩
    have hN1 := (HN.out.below hb1).more hb1.size
    have CN := numbers_any A c L w1 hN1
    have HB1 := Lib.hid hb1
    clear hb1 hN1 C
    go_wp2_with fail
    refine CN.mono ?_
    rintro e2 w2 ⟨A2, c2, rfl, hown2, hb2⟩
    have HK2 := Lib.hid (row_at0 hown2 (by rw [nums_len hr]; omega))
    have HB2 := Lib.hid (HB1.out.trans (hb2.mono HB1.out.size))
    clear CN hown2 hb2
    rw [nums_len hr]
    go_wp2_with fail
    go_loopw [14] (fun i wr => ∃ t : Nat, t ≤ L.length ∧ i = .int .i64 (t : Int) ∧ (∀ j, j < t → 0 < n → (numsF L).getD j 0 ≠ n.toNat) ∧ Below w.heap.size w wr ∧ Below w2.heap.size w2 wr) (fun i _ => L.length - (intOf i).toNat)
    case atStart => exact ⟨0, Nat.zero_le _, rfl, (fun j hj => absurd hj (Nat.not_lt_zero _)), HB2.out, Below.refl _ _⟩
    case round =>
      obtain ⟨t, ht, rfl, hno, hB, hX⟩ := hrel
      have HB := Lib.hid hB
      have HX := Lib.hid hX
      have HNO := Lib.hid hno
      clear hB hX hno
      by_cases hlt' : t < L.length
      · obtain ⟨bk, ofk, hA2, hbk, hc⟩ := (HK2.out.below HX.out).at_ (by rw [nums_len hr]; exact hlt')
        subst hA2
        obtain ⟨v, hv⟩ : ∃ v, (numsF L).getD t 0 = v := ⟨_, rfl⟩
        rw [hv] at hc
        by_cases hhit : (v : Int) = n ∧ 0 < n
        · obtain ⟨hvn, hn0⟩ := hhit
          have hidx : (numsF L).idxOf n.toNat = t := idx_hit _ _ t (by rw [nums_len hr]; exact hlt') (fun j hj => HNO.out j hj hn0) (by rw [hv]; omega)
          subst hvn
          have C4 := prtext_any A c L hr hlen t hlt' (HLL.out t hlt') wr ((HN.out.below HB.out).more HB.out.size)
          have hI := Lib.hid hidx
          have hv0 : 0 < v := by omega
          have hp : decide ((0 : Int) < (v : Int)) = true := decide_eq_true hn0
          clear hidx hv
          go_wp2_with fail
          refine C4.mono ?_
          rintro e4 w4 ⟨rfl, hb4⟩
          go_wp2
          refine bodyPost_ret (v := .tuple #[.string ⟨(textAt L t).toArray⟩, .int .i64 0]) (by simp [results, Tryz.results19, go_sem]) rfl ⟨?_, HB.out.trans (hb4.mono HB.out.size)⟩
          rw [← HR.out, if_pos ⟨hn0, by rw [hI.out]; exact hlt'⟩, hI.out]
        · have hno' : ∀ j, j < t + 1 → 0 < n → (numsF L).getD j 0 ≠ n.toNat := by
            intro j hj h0 e
            by_cases hjt : j < t
            · exact HNO.out j hjt h0 e
            · have : j = t := by omega
              subst this
              rw [hv] at e
              exact hhit ⟨by omega, h0⟩
          have HNO2 := Lib.hid hno'
          clear hno' hv
          by_cases he : (v : Int) = n
          · have hn0 : ¬ (0 : Int) < n := fun h => hhit ⟨he, h⟩
            subst he
            have hp : decide ((0 : Int) < (v : Int)) = false := decide_eq_false hn0
            go_wp2_with fail
            go_roundw
            case rel => exact ⟨t + 1, by omega, by go_num, HNO2.out, HB.out, HX.out⟩
            case measure => simp [intOf]; omega
          · have hp : ((v : Int) == n) = false := beq_eq_false_iff_ne.2 he
            go_wp2_with fail
            go_roundw
            case rel => exact ⟨t + 1, by omega, by go_num, HNO2.out, HB.out, HX.out⟩
            case measure => simp [intOf]; omega
      · have hte : t = L.length := by omega
        subst hte
        go_wp2
        refine bodyPost_ret (v := .tuple #[.string ⟨#[]⟩, .int .i64 1]) (by simp [results, Tryz.results19, go_sem]) rfl ⟨?_, HB.out⟩
        rw [← HR.out, if_neg (fun h => idx_none _ _ (fun j hj => HNO.out j (by rw [nums_len hr] at hj; exact hj) h.1) (by rw [nums_len hr]; exact h.2))]
end Go.Proofs.YtfcgmgpcbenfpaaGreat

/- Walks: the document's Group. -/
namespace Go.Proofs.YtfcgmgpcbenfpaaGreat
open Go.RowKit SetP BrkP LexP AstP ParP
set_option maxRecDepth 100000 in
set_option maxHeartbeats 2000000 in
theorem rgroup9_any (A : Option Addr) (c : Nat) (L : List Nd) (n : Int) (hlen : L.length ≤ 1000000) (hl : rightF L = true → ∀ k, k < L.length → (textAt L k).length ≤ 100000000) (w : World) (hN : NodesAt w w.heap.size A L) :
    Calls Tryz.prog 20 #[.slice A L.length c, .int .i64 n] w fun e w' => e = .returned (.tuple #[.string ⟨(groupF L n).1.toArray⟩, .int .i64 (groupF L n).2]) ∧ Below w.heap.size w w' := by
  have C := rright6_any A c L w hN
  unfold groupF
  cases hr : rightF L with
  | false =>
    rw [hr] at C
    rw [if_neg (by simp)]
    go_enter Tryz.func20, Tryz.ntmps20
    go_wp2_with fail
    refine C.mono ?_
    rintro e1 w1 ⟨rfl, hb1⟩
    go_wp2
    refine bodyPost_ret (v := .tuple #[.string ⟨#[]⟩, .int .i64 11]) (by simp [results, Tryz.results20, go_sem]) rfl ⟨rfl, hb1⟩
  | true =>
    rw [hr] at C
    rw [if_pos rfl]
    have HN := Lib.hid hN
    have HLL := Lib.hid (hl hr)
    obtain ⟨R, hR⟩ : ∃ R, (if 0 < n ∧ (numsF L).idxOf n.toNat < L.length then (textAt L ((numsF L).idxOf n.toNat), (0 : Int)) else ([], 1)) = R := ⟨_, rfl⟩
    rw [hR]
    have HR := Lib.hid hR
    clear hR
    clear hN hl
    go_enter Tryz.func20, Tryz.ntmps20
    go_wp2_with fail
    refine C.mono ?_
    rintro e1 w1 ⟨rfl, hb1⟩
    have hN1 := (HN.out.below hb1).more hb1.size
    have CN := rnumbers_any A c L w1 hN1
    have HB1 := Lib.hid hb1
    clear hb1 hN1 C
    go_wp2_with fail
    refine CN.mono ?_
    rintro e2 w2 ⟨A2, c2, rfl, hown2, hb2⟩
    have HK2 := Lib.hid (row_at0 hown2 (by rw [nums_len hr]; omega))
    have HB2 := Lib.hid (HB1.out.trans (hb2.mono HB1.out.size))
    clear CN hown2 hb2
    rw [nums_len hr]
    go_wp2_with fail
    go_loopw [7] (fun i wr => ∃ t : Nat, t ≤ L.length ∧ i = .int .i64 (t : Int) ∧ (∀ j, j < t → 0 < n → (numsF L).getD j 0 ≠ n.toNat) ∧ Below w.heap.size w wr ∧ Below w2.heap.size w2 wr) (fun i _ => L.length - (intOf i).toNat)
    case atStart => exact ⟨0, Nat.zero_le _, rfl, (fun j hj => absurd hj (Nat.not_lt_zero _)), HB2.out, Below.refl _ _⟩
    case round =>
      obtain ⟨t, ht, rfl, hno, hB, hX⟩ := hrel
      have HB := Lib.hid hB
      have HX := Lib.hid hX
      have HNO := Lib.hid hno
      clear hB hX hno
      by_cases hlt' : t < L.length
      · obtain ⟨bk, ofk, hA2, hbk, hc⟩ := (HK2.out.below HX.out).at_ (by rw [nums_len hr]; exact hlt')
        subst hA2
        obtain ⟨v, hv⟩ : ∃ v, (numsF L).getD t 0 = v := ⟨_, rfl⟩
        rw [hv] at hc
        by_cases hhit : (v : Int) = n ∧ 0 < n
        · obtain ⟨hvn, hn0⟩ := hhit
          have hidx : (numsF L).idxOf n.toNat = t := idx_hit _ _ t (by rw [nums_len hr]; exact hlt') (fun j hj => HNO.out j hj hn0) (by rw [hv]; omega)
          subst hvn
          have C4 := rnode_any hr hlen t hlt' wr A c ((HN.out.below HB.out).more HB.out.size) (HLL.out t hlt')
          have hI := Lib.hid hidx
          have hv0 : 0 < v := by omega
          have hp : decide ((0 : Int) < (v : Int)) = true := decide_eq_true hn0
          clear hidx hv
          go_wp2_with fail
          refine C4.mono ?_
          rintro e4 w4 ⟨rfl, hb4⟩
          go_wp2
          refine bodyPost_ret (v := .tuple #[.string ⟨(textAt L t).toArray⟩, .int .i64 0]) (by simp [results, Tryz.results20, go_sem]) rfl ⟨?_, HB.out.trans (hb4.mono HB.out.size)⟩
          rw [← HR.out, if_pos ⟨hn0, by rw [hI.out]; exact hlt'⟩, hI.out]
        · have hno' : ∀ j, j < t + 1 → 0 < n → (numsF L).getD j 0 ≠ n.toNat := by
            intro j hj h0 e
            by_cases hjt : j < t
            · exact HNO.out j hjt h0 e
            · have : j = t := by omega
              subst this
              rw [hv] at e
              exact hhit ⟨by omega, h0⟩
          have HNO2 := Lib.hid hno'
          clear hno' hv
          by_cases hn0 : (0 : Int) < n
          · have he : ¬ (v : Int) = n := fun h => hhit ⟨h, hn0⟩
            have hp : ((v : Int) == n) = false := beq_eq_false_iff_ne.2 he
            have hp0 : decide ((0 : Int) < n) = true := decide_eq_true hn0
            go_wp2_with fail
            go_roundw
            case rel => exact ⟨t + 1, by omega, by go_num, HNO2.out, HB.out, HX.out⟩
            case measure => simp [intOf]; omega
          · have hp : decide ((0 : Int) < n) = false := decide_eq_false hn0
            go_wp2_with fail
            go_roundw
            case rel => exact ⟨t + 1, by omega, by go_num, HNO2.out, HB.out, HX.out⟩
            case measure => simp [intOf]; omega
      · have hte : t = L.length := by omega
        subst hte
        go_wp2
        refine bodyPost_ret (v := .tuple #[.string ⟨#[]⟩, .int .i64 1]) (by simp [results, Tryz.results20, go_sem]) rfl ⟨?_, HB.out⟩
        rw [← HR.out, if_neg (fun h => idx_none _ _ (fun j hj => HNO.out j (by rw [nums_len hr] at hj; exact hj) h.1) (by rw [nums_len hr]; exact h.2))]
end Go.Proofs.YtfcgmgpcbenfpaaGreat

/- Plain facts on texts of trees: lists that are told alike have the same cells; the text of a tree in a Group, and of two trees in an Alt; the last node of a group. -/
namespace Go.Proofs.YtfcgmgpcbenfpaaGreat
open Go.RowKit SetP BrkP LexP AstP ParP
theorem key_cells {x y : Nd} (h : keyN x = keyN y) : ndCells x = ndCells y := by
  unfold keyN at h
  simp only [Prod.mk.injEq] at h
  obtain ⟨h1, h2, h3, h4, h5⟩ := h
  have hs := set_key h5
  unfold ndCells
  rw [h1, h2, h3, h4, wd_same hs 0 (by decide), wd_same hs 1 (by decide), wd_same hs 2 (by decide), wd_same hs 3 (by decide)]
theorem keys_flat {M L : List Nd} (h : keys M = keys L) : M.length = L.length ∧ flatD M = flatD L := by
  induction M generalizing L with
  | nil =>
    cases L with
    | nil => exact ⟨rfl, rfl⟩
    | cons y L => cases h
  | cons x M ih =>
    cases L with
    | nil => cases h
    | cons y L =>
      have h' : keyN x :: keys M = keyN y :: keys L := h
      injection h' with h1 h2
      obtain ⟨i1, i2⟩ := ih h2
      refine ⟨by rw [List.length_cons, List.length_cons, i1], ?_⟩
      have e1 : flatD (x :: M) = (ndCells x).toList ++ flatD M := rfl
      have e2 : flatD (y :: L) = (ndCells y).toList ++ flatD L := rfl
      rw [e1, e2, i2, key_cells h1]
theorem ret_keys {M L : List Nd} (h : keys M = keys L) (e p : Int) (w : World) : RetParse (M, e, p) w = RetParse (L, e, p) w := by
  obtain ⟨h1, h2⟩ := keys_flat h
  funext x y
  unfold RetParse
  simp only [h1, h2]
section
variable {α : Type} (f : Nat → Nd → List α → α)
theorem gF_more (l : List Nd) (i : Nat) (st rest : List α) (u : Int) (h : runF l st.length = some u) : gF f i l (st ++ rest) = gF f i l st ++ rest := by
  induction l generalizing st i with
  | nil => rfl
  | cons x l ih =>
    rw [runF] at h
    split at h
    · cases h
    · have hle : x.kids.toNat ≤ st.length := by omega
      rw [gF, gF, List.take_append_of_le_length hle, List.drop_append_of_le_length hle, ← List.cons_append]
      refine ih (i + 1) _ ?_
      rw [← h]; congr 1; simp; omega
theorem gF_at (hf : ∀ i j x K, f i x K = f j x K) (l : List Nd) (i j : Nat) (st : List α) : gF f i l st = gF f j l st := by
  induction l generalizing i j st with
  | nil => rfl
  | cons x l ih => rw [gF, gF, hf i j, ih (i + 1) (j + 1)]
variable [Inhabited α]
theorem val_last {L : List Nd} {x : Nd} : val f (L ++ [x]) L.length = f L.length x ((gF f 0 L []).take x.kids.toNat).reverse := by
  unfold val
  rw [gS_succ f (by simp), last_get]
  have : gS f (L ++ [x]) L.length = gF f 0 L [] := by unfold gS; rw [List.take_left]
  rw [this]; rfl
theorem two_stack (hf : ∀ i j x K, f i x K = f j x K) {L M : List Nd} (hL : formedF L = true) (hM : formedF M = true) : gF f 0 (L ++ M) [] = [val f M (M.length - 1), val f L (L.length - 1)] := by
  rw [gF_append, gF_root f hL, gF_at f hf M (0 + L.length) 0]
  have := gF_more f M 0 [] [val f L (L.length - 1)] 1 (runF_of hM)
  rw [List.nil_append] at this
  rw [this, gF_root f hM]; rfl
end
theorem text_group {L : List Nd} (h : formedF L = true) : textAt (L ++ [ndGroup]) L.length = 40 :: (textAt L (L.length - 1) ++ [41]) := by
  unfold textAt
  rw [val_last, gF_root textN h]
  have hk : ndGroup.kids.toNat = 1 := rfl
  rw [hk]
  have e : textN L.length ndGroup [val textN L (L.length - 1)] = 40 :: ([val textN L (L.length - 1)].flatten ++ [41]) := rfl
  refine Eq.trans e ?_
  simp
theorem text_two {L M : List Nd} (hL : formedF L = true) (hM : formedF M = true) : textAt (L ++ M ++ [ndAlt]) (L.length + M.length) = textAt L (L.length - 1) ++ 124 :: textAt M (M.length - 1) := by
  have h := val_last textN (L := L ++ M) (x := ndAlt)
  rw [two_stack textN (fun _ _ _ _ => rfl) hL hM, List.length_append] at h
  exact h
/-- A node that a number tells is a Group. -/
theorem group_kind {L : List Nd} (h : rightF L = true) {k : Nat} (hk : k < L.length) {n : Nat} (hn : 0 < n) (he : (numsF L).idxOf n = k) : (L.getD k ndEmpty).kind = 3 := by
  obtain ⟨hF, _, _⟩ := right_parts h
  have hl := nums_len h
  have hlt : (numsF L).idxOf n < (numsF L).length := by rw [he, hl]; exact hk
  have hg : (numsF L)[(numsF L).idxOf n] = n := List.getElem_idxOf hlt
  have hv : (numsF L).getD k 0 = n := by
    rw [← he, List.getD_eq_getElem?_getD, List.getElem?_eq_getElem hlt, hg]; rfl
  rw [numsF_Nums hF] at hv
  have : (Nums L L.length).getD k 0 = numAt L k := by
    unfold Nums
    rw [List.getD_eq_getElem?_getD, List.getElem?_map, List.getElem?_range hk]; rfl
  rw [this] at hv
  unfold numAt at hv
  split at hv
  · rename_i hgr
    unfold grp at hgr
    simpa using hgr
  · omega
end Go.Proofs.YtfcgmgpcbenfpaaGreat

/- Plain facts: a fixed text, printed plainly; two fixed lists. No program is in sight. -/
namespace Go.Proofs.YtfcgmgpcbenfpaaGreat
open Go.RowKit SetP BrkP LexP AstP
namespace ParP
abbrev s9 : ByteArray := ⟨#[91, 97, 97, 93, 123, 48, 44, 125, 124, 92, 93]⟩
def set9 : Nat → Bool := (ansOf false (.go 4 (addB (addB noSet 97) 97))).set
theorem loop9 : loopF s9 1 1 (fun _ => false) = .go 4 (addB (addB noSet 97) 97) := by
  have t1 : thingF s9 1 (fun _ => false) = .go 2 (addB noSet 97) := by kernel_rfl
  have t2 : thingF s9 2 (addB noSet 97) = .go 3 (addB (addB noSet 97) 97) := by kernel_rfl
  rw [loopF_step (by decide) (by decide), t1]
  simp only
  rw [loopF_step (by decide) (by decide), t2]
  simp only
  rw [lo_end (by decide) (by decide) (by decide)]
theorem read9 : readB s9 ((0 : Nat) : Int) = ⟨set9, 4, 0, 0⟩ := by
  unfold readB
  rw [if_neg (by decide), if_neg (by decide), if_neg (by decide)]
  have : loopF s9 (((0 : Nat) : Int).toNat + 1) (((0 : Nat) : Int).toNat + 1) (fun _ => false) = _ := loop9
  rw [this]; rfl
theorem n90 : nextW s9 ((0 : Nat) : Int) = ⟨⟨1, (0 : Nat), (4 : Nat), set9, 0, 0⟩, 0, 0⟩ := by
  rw [nextW_in (by decide), show bt s9 0 = 91 by decide]
  rw [show wordB s9 0 91 = brkA ((0 : Nat) : Int) (readB s9 ((0 : Nat) : Int)) from rfl, read9]; rfl
theorem n94 : nextW s9 ((4 : Nat) : Int) = ⟨⟨5, (4 : Nat), (8 : Nat), noSet, 0, -1⟩, 0, 0⟩ := by
  have h : BraceP.readF s9.data.toList ((4 : Nat) : Int) = (0, -1, 8, 0, 0) := by decide +kernel
  rw [nextW_in (by decide), show bt s9 4 = 123 by decide]
  rw [show wordB s9 4 123 = cntA ((4 : Nat) : Int) (BraceP.readF s9.data.toList ((4 : Nat) : Int)) from rfl, h]; rfl
theorem n98 : nextW s9 ((8 : Nat) : Int) = ⟨⟨4, (8 : Nat), (9 : Nat), noSet, 0, 0⟩, 0, 0⟩ := by
  rw [nextW_in (by decide), show bt s9 8 = 124 by decide]; rfl
theorem n99 : nextW s9 ((9 : Nat) : Int) = ⟨⟨1, (9 : Nat), (11 : Nat), addB noSet 93, 0, 0⟩, 0, 0⟩ := by
  have h : escA s9 9 = oneA (addB noSet 93) (9 : Nat) (11 : Nat) := by
    unfold escA
    rw [if_neg (by decide), if_pos (by decide), show bt s9 (9 + 1) = 93 by decide]; rfl
  rw [nextW_in (by decide), show bt s9 9 = 92 by decide]
  rw [show wordB s9 9 92 = escA s9 9 from rfl, h]; rfl
abbrev l9 : List Nd := [ndS set9, ndR 0 (-1), ndS (addB noSet 93), ndA 2]
theorem parse9 : parseF s9 = (l9, 0, 0) := by
  show parseR _ (readGo s9 0 ps0) = _
  rw [readGo_word (by decide) (bt7 (b := 91) (by decide) rfl) n90 rfl, readGo_word (by decide) (bt7 (b := 123) (by decide) rfl) n94 rfl, readGo_word (by decide) (bt7 (b := 124) (by decide) rfl) n98 rfl,
    readGo_word (by decide) (bt7 (b := 92) (by decide) rfl) n99 rfl, readGo_end (by decide)]
  rfl
theorem text9 : textAt l9 3 = [97, 42, 124, 93] := by decide +kernel
def L9 : List Nd := [⟨1, 0, 0, 0, fun _ => false⟩, ⟨3, 1, 0, 0, fun _ => false⟩]
theorem L9_right : rightF L9 = true := by decide +kernel
theorem L9_one : rightF (L9.drop 1) = false := by decide +kernel
theorem L9_idx : (numsF L9).idxOf 1 = 1 := by decide +kernel
theorem L9_text : textAt L9 1 = [40, 41] := by decide +kernel
theorem L9_all (k : Nat) (hk : k < 2) : (textAt L9 k).length ≤ 2 := by
  match k, hk with
  | 0, _ => decide +kernel
  | 1, _ => decide +kernel
end ParP
end Go.Proofs.YtfcgmgpcbenfpaaGreat

/- What must come whatever the input is, of the printer; PrintTells, walked. -/
namespace Go.Proofs.YtfcgmgpcbenfpaaGreat
open Go.RowKit SetP BrkP LexP AstP ParP
theorem NodesAt.skip {w : World} {B g off : Nat} {L : List Nd} (h : NodesAt w B (some ⟨g, off, none⟩) L) (n : Nat) : NodesAt w B (some ⟨g, off + n * 8, none⟩) (L.drop n) := by
  obtain ⟨h1, h2⟩ := h
  refine ⟨by rw [List.length_drop]; omega, ?_⟩
  rcases h2 with h2 | ⟨b, o, hA, hB, hc⟩
  · exact .inl (by rw [List.length_drop]; omega)
  · cases hA
    refine .inr ⟨g, off + n * 8, rfl, hB, fun j hj f hf => ?_⟩
    rw [List.length_drop] at hj
    rw [show off + n * 8 + j * 8 + f = off + (n + j) * 8 + f by omega, hc (n + j) (by omega) f hf, List.getD_eq_getElem?_getD, List.getD_eq_getElem?_getD, List.getElem?_drop]
set_option maxRecDepth 100000 in
theorem plain9_fix (w : World) : Calls Tryz.prog 21 #[.string s9] w fun e w' => e = .returned (.tuple #[.string ⟨#[97, 42, 124, 93]⟩, .int .i64 0, .int .i64 0]) ∧ Below w.heap.size w w' := by
  have h := pplain_any s9 (by decide) (by rw [parse9]; decide) w
  have e : plainF s9 = ([97, 42, 124, 93], 0, 0) := by
    unfold plainF
    rw [parse9, if_pos rfl]
    exact congrArg (fun t => (t, (0 : Int), (0 : Int))) text9
  rw [e] at h
  exact h
set_option maxRecDepth 100000 in
theorem group9_fix (A : Option Addr) (c : Nat) (w : World) (h : NodesAt w w.heap.size A L9) : Calls Tryz.prog 19 #[.slice A 2 c, .int .i64 1] w fun e w' => e = .returned (.tuple #[.string ⟨#[40, 41]⟩, .int .i64 0]) ∧ Below w.heap.size w w' := by
  have h := prgroup_any A c L9 1 (by decide) (fun _ k hk => Nat.le_trans (L9_all k hk) (by decide)) w h
  have e : groupF L9 1 = ([40, 41], 0) := by
    unfold groupF
    rw [if_pos L9_right, if_pos ⟨by decide, by rw [show (1 : Int).toNat = 1 from rfl, L9_idx]; decide⟩, show (1 : Int).toNat = 1 from rfl, L9_idx, L9_text]
  rw [e] at h
  exact h
set_option maxRecDepth 100000 in
theorem print9_fix (A : Option Addr) (c : Nat) (w : World) (h : NodesAt w w.heap.size A (L9.drop 1)) : Calls Tryz.prog 17 #[.slice A 1 c] w fun e w' => e = .returned (.tuple #[.string ⟨#[]⟩, .int .i64 11]) ∧ Below w.heap.size w w' := by
  have h := prprint_any A c (L9.drop 1) (by decide) (fun h => by rw [L9_one] at h; cases h) w h
  rw [L9_one, if_neg (by decide)] at h
  exact h
theorem n9_flat : (#[.int .i64 1, .int .i64 0, .int .i64 0, .int .i64 0, .int .u64 0, .int .u64 0, .int .u64 0, .int .u64 0, .int .i64 3, .int .i64 1, .int .i64 0, .int .i64 0, .int .u64 0, .int .u64 0, .int .u64 0, .int .u64 0] : Array Value) = (flatN L9).toArray := by
  simp [flatN, L9, ndCells, wd_zero]
set_option maxRecDepth 100000 in
set_option maxHeartbeats 2000000 in
theorem sure9_any (w : World) : Calls Tryz.prog 16 #[] w fun e w' => e = .returned (.bool true) ∧ Below w.heap.size w w' := by
  go_enter Tryz.func16, Tryz.ntmps16
  go_wp2_with fail
  refine (plain9_fix _).mono ?_
  rintro e1 w1 ⟨rfl, hb1⟩
  have o0 : Slab (w1.alloc (.cells (#[.int .i64 1, .int .i64 0, .int .i64 0, .int .i64 0, .int .u64 0, .int .u64 0, .int .u64 0, .int .u64 0, .int .i64 3, .int .i64 1, .int .i64 0, .int .i64 0, .int .u64 0, .int .u64 0, .int .u64 0, .int .u64 0]) 51)) w1.heap.size (flatN L9).toArray 51 := by rw [← n9_flat]; exact Slab.new _ _ _
  have HND := Lib.hid (NodesAt.slab (B := w1.heap.size + 1) o0 (by omega) (by decide))
  have HB1 := Lib.hid (hb1.alloc hb1.size (.cells (#[.int .i64 1, .int .i64 0, .int .i64 0, .int .i64 0, .int .u64 0, .int .u64 0, .int .u64 0, .int .u64 0, .int .i64 3, .int .i64 1, .int .i64 0, .int .i64 0, .int .u64 0, .int .u64 0, .int .u64 0, .int .u64 0]) 51))
  have hs : w1.heap.size + 1 ≤ (w1.alloc (.cells (#[.int .i64 1, .int .i64 0, .int .i64 0, .int .i64 0, .int .u64 0, .int .u64 0, .int .u64 0, .int .u64 0, .int .i64 3, .int .i64 1, .int .i64 0, .int .i64 0, .int .u64 0, .int .u64 0, .int .u64 0, .int .u64 0]) 51)).heap.size := by simp
  have HS := Lib.hid hs
  clear o0 hb1 hs
  go_wp2_with fail
  refine (group9_fix _ _ _ (HND.out.more HS.out)).mono ?_
  rintro e2 w2 ⟨rfl, hb2⟩
  have HN2 := Lib.hid ((HND.out.below (hb2.mono HS.out)).skip 1)
  have HB2 := Lib.hid (below_then HB1.out hb2)
  have HS2 := Lib.hid (Nat.le_trans HS.out hb2.size)
  clear hb2 HND HB1 HS
  go_wp2_with fail
  refine (print9_fix _ _ _ (HN2.out.more HS2.out)).mono ?_
  rintro e3 w3 ⟨rfl, hb3⟩
  have HB3 := below_then HB2.out hb3
  go_wp2
  go_ret
  exact ⟨rfl, HB3⟩
end Go.Proofs.YtfcgmgpcbenfpaaGreat

/- PrintTells and PrintBack, walked. -/
namespace Go.Proofs.YtfcgmgpcbenfpaaGreat
open Go.RowKit SetP BrkP LexP AstP ParP
theorem text_bd {L : List Nd} (h : rightF L = true) (hl : L.length ≤ 100) (k : Nat) (hk : k < L.length) : (textAt L k).length ≤ 150000 := by
  obtain ⟨hF, hok, _⟩ := right_parts h
  have h1 := text_le hF hok k hk
  have h2 := nodes_len (L := L) hk
  omega
theorem print_shape (L : List Nd) : ∃ T er, (if rightF L then (.tuple #[.string ⟨(textAt L (L.length - 1)).toArray⟩, .int .i64 0] : Value) else .tuple #[.string ⟨#[]⟩, .int .i64 11]) = .tuple #[.string T, .int .i64 er] := by
  cases rightF L with
  | false => exact ⟨_, _, rfl⟩
  | true => exact ⟨_, _, rfl⟩
set_option maxRecDepth 100000 in
set_option maxHeartbeats 2000000 in
theorem tells9_any (A : Option Addr) (c n : Nat) (i : Int) (w : World) (h : Came w A n) : Calls Tryz.prog 5 #[.slice A n c, .int .i64 i] w fun e w' => e = .returned (.bool true) ∧ Below w.heap.size w w' := by
  by_cases hn : n ≤ 60
  case neg =>
    have hd : decide (60 < (n : Int)) = true := decide_eq_true (by omega)
    clear h
    go_enter Tryz.func5, Tryz.ntmps5
    go_wp2_with fail
    refine (sure9_any _).mono ?_
    rintro e1 w1 ⟨rfl, hb1⟩
    go_wp2
    go_ret
    exact ⟨rfl, hb1⟩
  have hd : decide (60 < (n : Int)) = false := decide_eq_false (by omega)
  obtain ⟨L, hl, hL⟩ := h hn
  subst hl
  have HL := Lib.hid hL
  clear h hL
  have C1 := fun w hN => prprint_any A c L (by omega) (fun h => Nat.le_trans (text_bd h (by omega) _ (by have := (root_size (right_parts h).1).1; omega)) (by decide)) w hN
  have C2 := fun w hN => rprint_any A c L (by omega) (fun h => Nat.le_trans (text_bd h (by omega) _ (by have := (root_size (right_parts h).1).1; omega)) (by decide)) w hN
  have C3 := fun w hN => prgroup_any A c L i (by omega) (fun h k hk => Nat.le_trans (text_bd h (by omega) k hk) (by decide)) w hN
  have C4 := fun w hN => rgroup9_any A c L i (by omega) (fun h k hk => Nat.le_trans (text_bd h (by omega) k hk) (by decide)) w hN
  obtain ⟨T, er, hT⟩ := print_shape L
  rw [hT] at C1 C2
  clear hT
  obtain ⟨⟨G0, eg⟩, hG⟩ : ∃ R, groupF L i = R := ⟨_, rfl⟩
  rw [hG] at C3 C4
  clear hG
  simp only at C3 C4
  generalize (⟨G0.toArray⟩ : ByteArray) = G at *
  generalize L.length = n at *
  have t1 : (er == er) = true := beq_self_eq_true _
  have t2 : (eg == eg) = true := beq_self_eq_true _
  have t3 : (T.toList == T.toList) = true := beq_self_eq_true _
  have t4 : (G.toList == G.toList) = true := beq_self_eq_true _
  go_enter Tryz.func5, Tryz.ntmps5
  go_wp2_with fail
  refine (C1 _ HL.out).mono ?_
  rintro e1 w1 ⟨rfl, hb1⟩
  have HB1 := Lib.hid hb1
  clear hb1 C1
  go_wp2_with fail
  refine (C2 _ ((HL.out.below HB1.out).more HB1.out.size)).mono ?_
  rintro e2 w2 ⟨rfl, hb2⟩
  have HB2 := Lib.hid (below_then HB1.out hb2)
  clear hb2 C2 HB1
  go_wp2_with fail
  refine (C3 _ ((HL.out.below HB2.out).more HB2.out.size)).mono ?_
  rintro e3 w3 ⟨rfl, hb3⟩
  have HB3 := Lib.hid (below_then HB2.out hb3)
  clear hb3 C3 HB2
  go_wp2_with fail
  refine (C4 _ ((HL.out.below HB3.out).more HB3.out.size)).mono ?_
  rintro e4 w4 ⟨rfl, hb4⟩
  have HB4 := Lib.hid (below_then HB3.out hb4)
  clear hb4 C4 HB3
  go_wp2_with fail
  refine (sure9_any _).mono ?_
  rintro e5 w5 ⟨rfl, hb5⟩
  have HB5 := below_then HB4.out hb5
  go_wp2
  go_ret
  exact ⟨rfl, HB5⟩
set_option maxRecDepth 100000 in
set_option maxHeartbeats 2000000 in
theorem back9_any (A : Option Addr) (c n : Nat) (i : Int) (w : World) (h : Came w A n) : Calls Tryz.prog 7 #[.slice A n c, .int .i64 i] w fun e w' => e = .returned (.bool true) ∧ Below w.heap.size w w' := by
  by_cases hn : n ≤ 60
  case neg =>
    have hd : decide (60 < (n : Int)) = true := decide_eq_true (by omega)
    clear h
    go_enter Tryz.func7, Tryz.ntmps7
    go_wp2_with fail
    refine (sure9_any _).mono ?_
    rintro e1 w1 ⟨rfl, hb1⟩
    go_wp2
    go_ret
    exact ⟨rfl, hb1⟩
  have hd : decide (60 < (n : Int)) = false := decide_eq_false (by omega)
  obtain ⟨L, hl, hL⟩ := h hn
  subst hl
  have HL := Lib.hid hL
  clear h hL
  have C1 := fun w hN => prprint_any A c L (by omega) (fun h => Nat.le_trans (text_bd h (by omega) _ (by have := (root_size (right_parts h).1).1; omega)) (by decide)) w hN
  cases hr : rightF L with
  | false =>
    have C2 := fun w hN => rright6_any A c L w hN
    rw [hr] at C1 C2
    generalize L.length = n at *
    go_enter Tryz.func7, Tryz.ntmps7
    go_wp2_with fail
    refine (C1 _ HL.out).mono ?_
    rintro e1 w1 ⟨rfl, hb1⟩
    have HB1 := Lib.hid hb1
    clear hb1 C1
    rw [if_neg (by decide)]
    go_wp2_with fail
    refine (C2 _ ((HL.out.below HB1.out).more HB1.out.size)).mono ?_
    rintro e2 w2 ⟨rfl, hb2⟩
    have HB2 := Lib.hid (below_then HB1.out hb2)
    clear hb2 C2 HB1
    go_wp2_with fail
    refine (sure9_any _).mono ?_
    rintro e5 w5 ⟨rfl, hb5⟩
    have HB5 := below_then HB2.out hb5
    go_wp2
    go_ret
    exact ⟨rfl, HB5⟩
  | true =>
    have hrt := root_size (right_parts hr).1
    obtain ⟨M, hM, hK⟩ := print_parse hr
    have hbd := text_bd hr (by omega) (L.length - 1) (by omega)
    have C2 := fun w => pparse_any ⟨(textAt L (L.length - 1)).toArray⟩ (by show (textAt L (L.length - 1)).toArray.size ≤ _; simp; omega) w
    rw [hM] at C2
    have C2' := fun w => (ret_keys hK 0 0 w) ▸ C2 w
    clear C2 hM hK
    rw [hr, if_pos rfl] at C1
    have C3 := fun A2 c2 w h1 h2 => same06_any A A2 c c2 L w h1 h2
    have C4 := fun w hN => prgroup_any A c L i (by omega) (fun h k hk => Nat.le_trans (text_bd h (by omega) k hk) (by decide)) w hN
    have hgF : groupF L i = if 0 < i ∧ (numsF L).idxOf i.toNat < L.length then (textAt L ((numsF L).idxOf i.toNat), 0) else ([], 1) := by unfold groupF; rw [if_pos hr]
    rw [hgF] at C4
    clear hgF
    by_cases hi : 0 < i ∧ (numsF L).idxOf i.toNat < L.length
    · rw [if_pos hi] at C4
      obtain ⟨k, hk⟩ : ∃ k, (numsF L).idxOf i.toNat = k := ⟨_, rfl⟩
      rw [hk] at C4 hi
      obtain ⟨N, hN, hKN⟩ := print_node hr hi.2
      have h3 := group_kind hr hi.2 (by omega) hk
      have hbk := text_bd hr (by omega) k hi.2
      have C5 := fun w => pparse_any ⟨(textAt L k).toArray⟩ (by show (textAt L k).toArray.size ≤ _; simp; omega) w
      rw [hN] at C5
      have hlast := nodes_last (right_parts hr).1 hi.2
      obtain ⟨S, hS⟩ : ∃ S, ((kidsF L (k : Int)).map (nodesAt L)).flatten = S := ⟨_, rfl⟩
      rw [hS] at hlast
      obtain ⟨x, hx⟩ : ∃ x, L.getD k ndEmpty = x := ⟨_, rfl⟩
      rw [hx] at hlast h3
      rw [hlast] at hKN
      have C5' := fun w => (ret_keys hKN 0 0 w) ▸ C5 w
      have hSl : S.length ≤ 100 := by
        have := nodes_len (L := L) hi.2
        rw [hlast, List.length_append] at this
        omega
      clear C5 hN hKN hlast hS hx
      have HSX : Hid ((S ++ [x]).getD S.length ndEmpty = x) := Lib.hid (last_get S x)
      have HXL : Hid ((S ++ [x]).length = S.length + 1) := Lib.hid (by simp)
      have HX3 := Lib.hid h3
      clear h3 hk hi
      generalize textAt L k = Tk at *
      generalize textAt L (L.length - 1) = T at *
      go_enter Tryz.func7, Tryz.ntmps7
      go_wp2_with fail
      refine (C1 _ HL.out).mono ?_
      rintro e1 w1 ⟨rfl, hb1⟩
      have HB1 := Lib.hid hb1
      clear hb1 C1
      go_wp2_with fail
      refine (C2' _).mono ?_
      rintro e2 w2 ⟨A2, c2, rfl, hown2, hb2⟩
      have HN2 := Lib.hid (NodesAt.of_row hown2 rfl (by simp only; omega))
      have HB2 := Lib.hid (below_then HB1.out hb2)
      clear hb2 C2' HB1 hown2
      have C3b := C3 A2 c2 w2 ((HL.out.below HB2.out).more HB2.out.size) HN2.out
      simp only
      go_wp2_with fail
      refine C3b.mono ?_
      rintro e3 w3 ⟨rfl, hb3⟩
      have HB3 := Lib.hid (below_then HB2.out hb3)
      clear hb3 C3 C3b HB2 HN2
      go_wp2_with fail
      refine (C4 _ ((HL.out.below HB3.out).more HB3.out.size)).mono ?_
      rintro e4 w4 ⟨rfl, hb4⟩
      have HB4 := Lib.hid (below_then HB3.out hb4)
      clear hb4 C4 HB3
      go_wp2_with fail
      refine (C5' _).mono ?_
      rintro e5 w5 ⟨A5, c5, rfl, hown5, hb5⟩
      have HN5 := NodesAt.of_row hown5 rfl (by simp only; rw [HXL.out]; omega)
      obtain ⟨b, off, rfl, hbl, hn8⟩ := HN5.node (k := S.length) (by rw [HXL.out]; omega)
      rw [HSX.out] at hn8
      have n0 := hn8.1
      rw [HX3.out] at n0
      have HB5 := Lib.hid (below_then HB4.out hb5)
      clear hb5 C5' HB4 hown5 HN5 hn8
      simp only
      rw [HXL.out]
      generalize S.length = m at *
      go_wp2_with fail
      refine (sure9_any _).mono ?_
      rintro e6 w6 ⟨rfl, hb6⟩
      have HB6 := below_then HB5.out hb6
      go_wp2
      go_ret
      exact ⟨rfl, HB6⟩
    · rw [if_neg hi] at C4
      clear hi
      generalize textAt L (L.length - 1) = T at *
      go_enter Tryz.func7, Tryz.ntmps7
      go_wp2_with fail
      refine (C1 _ HL.out).mono ?_
      rintro e1 w1 ⟨rfl, hb1⟩
      have HB1 := Lib.hid hb1
      clear hb1 C1
      go_wp2_with fail
      refine (C2' _).mono ?_
      rintro e2 w2 ⟨A2, c2, rfl, hown2, hb2⟩
      have HN2 := Lib.hid (NodesAt.of_row hown2 rfl (by simp only; omega))
      have HB2 := Lib.hid (below_then HB1.out hb2)
      clear hb2 C2' HB1 hown2
      have C3b := C3 A2 c2 w2 ((HL.out.below HB2.out).more HB2.out.size) HN2.out
      simp only
      go_wp2_with fail
      refine C3b.mono ?_
      rintro e3 w3 ⟨rfl, hb3⟩
      have HB3 := Lib.hid (below_then HB2.out hb3)
      clear hb3 C3 C3b HB2 HN2
      go_wp2_with fail
      refine (C4 _ ((HL.out.below HB3.out).more HB3.out.size)).mono ?_
      rintro e4 w4 ⟨rfl, hb4⟩
      have HB4 := Lib.hid (below_then HB3.out hb4)
      clear hb4 C4 HB3
      go_wp2_with fail
      refine (sure9_any _).mono ?_
      rintro e6 w6 ⟨rfl, hb6⟩
      have HB6 := below_then HB4.out hb6
      go_wp2
      go_ret
      exact ⟨rfl, HB6⟩
end Go.Proofs.YtfcgmgpcbenfpaaGreat
