/- AstGrows, walked. -/
import Derived.Test.YtgkfdjfoakbibaaProg
import Derived.WalkKit
import Derived.WalkSpells
import Derived.WalkLawsBesides
import Derived.Handy
import Derived.Lib.Hide
import Derived.Test.YtgkfdjfoakbibaaLaw6a
import Derived.Test.YtgkfdjfoakbibaaAstO
import Derived.Deep.QuietTactic
import Derived.BigQuiet
namespace Go.Proofs.Ytgkfdjfoakbibaa
open Go.RowKit SetP AstP
theorem flatN_length (L : List Nd) : (flatN L).length = L.length * 8 := by
  induction L with
  | nil => rfl
  | cons x L ih =>
    have e : flatN (x :: L) = (ndCells x).toList ++ flatN L := rfl
    rw [e, List.length_append, ih, List.length_cons]
    simp; omega
theorem flatN_append (L M : List Nd) : flatN (L ++ M) = flatN L ++ flatN M := by unfold flatN; rw [List.flatMap_append]
theorem flatN_one (x : Nd) : flatN [x] = (ndCells x).toList := by unfold flatN; simp
theorem flatN_cell (L : List Nd) : ∀ u ∈ flatN L, u.oneCell' = true := by
  intro u hu
  unfold flatN at hu
  obtain ⟨x, _, hx⟩ := List.mem_flatMap.1 hu
  simp at hx
  rcases hx with rfl | rfl | rfl | rfl | rfl | rfl | rfl | rfl <;> rfl
theorem NodesAt.cells {w : World} {B b off : Nat} {L : List Nd} (h : NodesAt w B (some ⟨b, off, none⟩) L) : ∀ j u, (flatN L)[j]? = some u → w.cell? ((⟨b, off, none⟩ : Addr).add j) = some u := by
  intro j u hu
  have hj : j < L.length * 8 := by rw [← flatN_length]; exact (List.getElem?_eq_some_iff.1 hu).1
  rcases h.2 with h0 | ⟨b', off', e, _, hc⟩
  · omega
  · cases e
    have h1 := hc (j / 8) (by omega) (j % 8) (by omega)
    have h2 := flat_get L (j / 8) (j % 8) (by omega) (by omega)
    have e : j / 8 * 8 + j % 8 = j := by omega
    rw [e] at h2
    rw [Addr.add_lit, show off + j = off + j / 8 * 8 + j % 8 by omega, h1, ← h2, hu]
theorem NodesAt.of_row {w : World} {base n c : Nat} {A : Option Addr} {L : List Nd} (h : w.ownsRow base 48 8 (.slice A n c) n (flatN L)) (hn : L.length = n) (hb : n ≤ 1000000000000) : NodesAt w w.heap.size A L := by
  refine ⟨by omega, ?_⟩
  rcases Nat.eq_zero_or_pos n with h0 | h0
  · exact .inl (by omega)
  · obtain ⟨g, rfl, _, hg, _, hc⟩ := row_cell h h0
    refine .inr ⟨g, 0, rfl, hg, fun j hj f hf => ?_⟩
    rw [Nat.zero_add, hc _ (by omega), flat_get L j f hj hf]
theorem Nums_get {L : List Nd} {k n : Nat} (hk : k < n) : (Nums L n).getD k 0 = numAt L k := by
  unfold Nums
  rw [List.getD_eq_getElem?_getD, List.getElem?_map, List.getElem?_range hk]; rfl
def ndZero : Value := .agg #[.int .i64 0, .int .i64 0, .int .i64 0, .int .i64 0, .int .u64 0, .int .u64 0, .int .u64 0, .int .u64 0]
theorem info_node : (Try.prog.info? 48).map (fun i => (i.zero, i.size, i.bytes)) = some (some ndZero, 8, 64) := by kernel_rfl
theorem flat_group : flatN [ndGroup] = (#[.int .i64 3, .int .i64 1, .int .i64 0, .int .i64 0, .int .u64 0, .int .u64 0, .int .u64 0, .int .u64 0] : Array Value).toList := by
  simp [flatN, ndGroup, ndCells, wd_zero]
theorem flat_alt : flatN [ndAlt] = (#[.int .i64 6, .int .i64 2, .int .i64 0, .int .i64 0, .int .u64 0, .int .u64 0, .int .u64 0, .int .u64 0] : Array Value).toList := by
  simp [flatN, ndAlt, ndCells, wd_zero]
set_option maxRecDepth 100000 in
set_option maxHeartbeats 20000000 in
theorem astgrows_any (A A' : Option Addr) (c c' n n' : Nat) (w : World) (h : Came w A n) (h' : Came w A' n') :
    Calls Try.prog 12 #[.slice A n c, .slice A' n' c'] w fun e w' => e = .returned (.bool true) ∧ Below w.heap.size w w' := by
  by_cases hn : n ≤ 60
  case neg =>
    have hd := decide_eq_false hn
    clear h h'
    go_enter Try.func12, Try.ntmps12
    go_wp2_with fail
    refine (few_any A c n _).mono ?_
    rintro e0 w0 ⟨rfl, rfl⟩
    rw [hd]
    go_wp2_with fail
    refine (sure6_any _).mono ?_
    rintro e1 w1 ⟨rfl, hb1⟩
    go_wp2
    go_ret
    exact ⟨rfl, hb1⟩
  have hd := decide_eq_true hn
  by_cases hn' : n' ≤ 60
  case neg =>
    have hd' := decide_eq_false hn'
    clear h h'
    go_enter Try.func12, Try.ntmps12
    go_wp2_with fail
    refine (few_any A c n _).mono ?_
    rintro e0 w0 ⟨rfl, rfl⟩
    rw [hd]
    go_wp2_with fail
    refine (few_any A' c' n' _).mono ?_
    rintro e1 w1 ⟨rfl, rfl⟩
    rw [hd']
    go_wp2_with fail
    refine (sure6_any _).mono ?_
    rintro e2 w2 ⟨rfl, hb2⟩
    go_wp2
    go_ret
    exact ⟨rfl, hb2⟩
  have hd' := decide_eq_true hn'
  obtain ⟨L, hl, hL⟩ := h hn
  obtain ⟨M, hm, hM⟩ := h' hn'
  have HL := Lib.hid hL
  have HM := Lib.hid hM
  have F1 := fun (w : World) (h : NodesAt w w.heap.size A L) => right_any A c L w h
  have F2 := fun (w : World) (h : NodesAt w w.heap.size A' M) => right_any A' c' M w h
  rw [hl] at F1
  rw [hm] at F2
  cases hRL : rightF L with
  | false =>
    rw [hRL] at F1
    clear h h' hL hM hl hm hRL F2
    go_enter Try.func12, Try.ntmps12
    go_wp2_with fail
    refine (few_any A c n _).mono ?_
    rintro e0 w0 ⟨rfl, rfl⟩
    rw [hd]
    go_wp2_with fail
    refine (few_any A' c' n' _).mono ?_
    rintro e1 w1 ⟨rfl, rfl⟩
    rw [hd']
    go_wp2_with fail
    refine (F1 _ HL.out).mono ?_
    rintro e2 w2 ⟨rfl, hb2⟩
    have HB2 := Lib.hid hb2
    clear hb2
    go_wp2_with fail
    refine (sure6_any _).mono ?_
    rintro e3 w3 ⟨rfl, hb3⟩
    have HB3 := below_then HB2.out hb3
    go_wp2
    go_ret
    exact ⟨rfl, HB3⟩
  | true =>
  rw [hRL] at F1
  cases hRM : rightF M with
  | false =>
    rw [hRM] at F2
    clear h h' hL hM hl hm hRL hRM
    go_enter Try.func12, Try.ntmps12
    go_wp2_with fail
    refine (few_any A c n _).mono ?_
    rintro e0 w0 ⟨rfl, rfl⟩
    rw [hd]
    go_wp2_with fail
    refine (few_any A' c' n' _).mono ?_
    rintro e1 w1 ⟨rfl, rfl⟩
    rw [hd']
    go_wp2_with fail
    refine (F1 _ HL.out).mono ?_
    rintro e2 w2 ⟨rfl, hb2⟩
    have HB2 := Lib.hid hb2
    clear hb2
    go_wp2_with fail
    refine (F2 _ ((HM.out.below HB2.out).more HB2.out.size)).mono ?_
    rintro e3 w3 ⟨rfl, hb3⟩
    have HB3 := Lib.hid (below_then HB2.out hb3)
    clear hb3 HB2
    go_wp2_with fail
    refine (sure6_any _).mono ?_
    rintro e4 w4 ⟨rfl, hb4⟩
    have HB4 := below_then HB3.out hb4
    go_wp2
    go_ret
    exact ⟨rfl, HB4⟩
  | true =>
  rw [hRM] at F2
  obtain ⟨hF, _, hg9⟩ := right_parts hRL
  obtain ⟨hFM, _, hh9⟩ := right_parts hRM
  have hrL := (root_size hF).1
  have hrM := (root_size hFM).1
  rw [hl] at hrL
  rw [hm] at hrM
  obtain ⟨r, hr⟩ : ∃ r, n = r + 1 := ⟨n - 1, by omega⟩
  obtain ⟨r', hr'⟩ : ∃ r, n' = r + 1 := ⟨n' - 1, by omega⟩
  have x1 : (n : Int) - 1 = (r : Int) := by omega
  have x2 : (n' : Int) - 1 = (r' : Int) := by omega
  have hrn : r < n := by omega
  have hrn' : r' < n' := by omega
  obtain ⟨b, off, rfl, hbl, _⟩ := hL.node (k := r) (by omega)
  obtain ⟨b', off', rfl, hbl', _⟩ := hM.node (k := r') (by omega)
  have HLN := Lib.hid hl
  have HMN := Lib.hid hm
  have HF := Lib.hid hF
  have HRL := Lib.hid hRL
  have HRM := Lib.hid hRM
  have HR := Lib.hid hr
  have HR' := Lib.hid hr'
  obtain ⟨i0, hi, hz0, hz1, hz2⟩ := info_parts info_node
  have HI := Lib.hid hi; clear hi
  have HZ0 := Lib.hid hz0; clear hz0
  have HZ1 := Lib.hid hz1; clear hz1
  have HZ2 := Lib.hid hz2; clear hz2
  clear h h' hL hM hl hm hRL hRM hF hFM hr hr' hg9 hh9
  go_enter Try.func12, Try.ntmps12
  go_wp2_with fail
  refine (few_any _ c n _).mono ?_
  rintro e0 w0 ⟨rfl, rfl⟩
  rw [hd]
  go_wp2_with fail
  refine (few_any _ c' n' _).mono ?_
  rintro e1 w1 ⟨rfl, rfl⟩
  rw [hd']
  go_wp2_with fail
  refine (F1 _ HL.out).mono ?_
  rintro e2 w2 ⟨rfl, hb2⟩
  have HB2 := Lib.hid hb2
  clear hb2 F1
  go_wp2_with fail
  refine (F2 _ ((HM.out.below HB2.out).more HB2.out.size)).mono ?_
  rintro e3 w3 ⟨rfl, hb3⟩
  have HB3 := Lib.hid (below_then HB2.out hb3)
  clear hb3 HB2 F2
  have hown0 : (w3.alloc (.cells #[] 48)).ownsRow w3.heap.size 48 8 (.slice (some ⟨w3.heap.size, 0, none⟩) 0 0) 0 [] := row_lit (Slab.new _ _ _) (Nat.le_refl _) rfl (by unfold maxLen; omega)
  have hnd0 := NodesAt.cells ((HL.out.below HB3.out).below ((Below.refl w1.heap.size w3).alloc HB3.out.size (.cells #[] 48)))
  have hfl : (flatN L).length = n * 8 := by rw [flatN_length, HLN.out]
  go_wp2_with (at_builtin; first
    | (((refine wpList_append_own _ rfl (.tmp 33) (.tmp 34) 37 rfl (w3.heap.size) 48 i0 ndZero 8 64 Try.underlying37 HI.out HZ0.out HZ1.out HZ2.out rfl (by decide) _ _ _ rfl hown0 ⟨b, off, none⟩ n _ _ rfl hfl hnd0 (flatN_cell _) (by unfold maxLen; omega) (by omega) (by first | omega | (simp; done) | (simp; omega)) ?_)); intro v4 w4 hown4 hgr4 hnil4
       obtain ⟨A4, c4, rfl⟩ := row_shape hown4
       rw [Nat.zero_add, List.nil_append] at hown4
       have hb4 : Below w3.heap.size w3 w4 := ((Below.refl w3.heap.size w3).alloc (Nat.le_refl _) (.cells #[] 48)).grown hgr4 (by simp) (fun k e => (hown0.lt k e).1)
       have hs4 := hb4.size
       clear hown0 hnd0 hfl)
    | ((go_must (refine wpList_append_elem _ rfl (.tmp 35) (.tmp 37) 37 rfl (w3.heap.size) 48 i0 ndZero 8 64 Try.underlying37 HI.out HZ0.out HZ1.out HZ2.out rfl (by decide) _ _ _ _ rfl hown4 #[.int .i64 3, .int .i64 1, .int .i64 0, .int .i64 0, .int .u64 0, .int .u64 0, .int .u64 0, .int .u64 0] _ rfl (by first | rfl | simp) rfl (by simp [Value.oneCell']) (by unfold maxLen; omega) (by omega) (by first | omega | (simp; done) | (simp; omega)) ?_)); intro A5 c5 w5 hown5 hbl5))
  have hown5' : w5.ownsRow w3.heap.size 48 8 (.slice A5 (n + 1) c5) (n + 1) (flatN (L ++ [ndGroup])) := by rw [flatN_append, flat_group]; exact hown5
  have HB5 := Lib.hid (below_then HB3.out (hb4.trans hbl5))
  have HG5 := Lib.hid (NodesAt.of_row hown5' (by rw [List.length_append, HLN.out]; rfl) (by omega))
  have C1 := fun (w : World) (h : NodesAt w w.heap.size (some ⟨b, off, none⟩) L) => numbers_any (some ⟨b, off, none⟩) c L w h
  have C2 := fun (w : World) (h : NodesAt w w.heap.size A5 (L ++ [ndGroup])) => numbers_any A5 c5 (L ++ [ndGroup]) w h
  have hnl : (numsF L).length = n := by rw [numsF_length HF.out, HLN.out]
  have hgl : (L ++ [ndGroup]).length = n + 1 := by rw [List.length_append, HLN.out]; rfl
  have hng : (numsF (L ++ [ndGroup])).length = n + 1 := by rw [numsF_length (formed_group HF.out), hgl]
  rw [HLN.out, hnl] at C1
  rw [hgl, hng] at C2
  have HNL := Lib.hid hnl
  have HNG := Lib.hid hng
  clear hnl hgl hng hown5 hown5' hown4 hgr4 hnil4 hb4 hs4 hbl5
  refine (C1 _ ((HL.out.below HB5.out).more HB5.out.size)).mono ?_
  rintro e6 w6 ⟨A6, c6, rfl, hrow6, hb6⟩
  have HI6 := Lib.hid (row_at0 hrow6 (by omega))
  have HB6 := Lib.hid (below_then HB5.out hb6)
  have HG6 := Lib.hid ((HG5.out.below hb6).more hb6.size)
  clear hrow6 hb6 HB5 HG5 C1
  go_wp2_with fail
  refine (C2 _ HG6.out).mono ?_
  rintro e7 w7 ⟨A7, c7, rfl, hrow7, hb7⟩
  have HI7 := Lib.hid (row_at0 hrow7 (by omega))
  have HI6' := Lib.hid ((HI6.out.below hb7).more hb7.size)
  have HB7 := Lib.hid (below_then HB6.out hb7)
  have HG7 := Lib.hid ((HG6.out.below hb7).more hb7.size)
  clear hrow7 hb7 HB6 HG6 HI6 C2
  obtain ⟨ga, oa, rfl, hga, hca⟩ : ∃ b off, A6 = some ⟨b, off, none⟩ ∧ b < w7.heap.size ∧ ∀ j, j < n → w7.cell? ⟨b, off + j, none⟩ = some (.int .i64 ((numAt L j : Nat) : Int)) := by
    rcases HI6'.out.2 with h | ⟨b, off, hA, hb, hc⟩
    · exfalso; have := HNL.out; omega
    · refine ⟨b, off, hA, hb, fun j hj => ?_⟩
      rw [hc j (by rw [HNL.out]; exact hj), numsF_Nums HF.out, Nums_get (by rw [HLN.out]; exact hj)]
  obtain ⟨gb, ob, rfl, hgb, hcb⟩ : ∃ b off, A7 = some ⟨b, off, none⟩ ∧ b < w7.heap.size ∧ ∀ j, j < n + 1 → w7.cell? ⟨b, off + j, none⟩ = some (.int .i64 ((numAt (L ++ [ndGroup]) j : Nat) : Int)) := by
    rcases HI7.out.2 with h | ⟨b, off, hA, hb, hc⟩
    · exfalso; have := HNG.out; omega
    · refine ⟨b, off, hA, hb, fun j hj => ?_⟩
      rw [hc j (by rw [HNG.out]; exact hj), numsF_Nums (formed_group HF.out), Nums_get (by rw [List.length_append, HLN.out]; exact hj)]
  obtain ⟨hstep, hone⟩ := numbers_group HF.out
  rw [HLN.out] at hstep hone
  have hcb1 := hcb n (by omega)
  rw [hone] at hcb1
  replace hcb1 : w7.cell? ⟨gb, ob + n, none⟩ = some (.int .i64 1) := hcb1
  have HCA := Lib.hid hca
  have HCB := Lib.hid hcb
  have HGA := Lib.hid hga
  have HGB := Lib.hid hgb
  have HSTEP := Lib.hid hstep
  have hgle := groupsF_le L
  have hmle := groupsF_le M
  have HGLE := Lib.hid hgle
  have HMLE := Lib.hid hmle
  clear hca hcb hga hgb hstep hone HI6' HI7 hgle hmle
  go_wp2_with fail
  clear hcb1
  have hk1 : ∀ wr, Below w7.heap.size w7 wr → ∀ i, i < n → wr.cell? ⟨b, off + i * 8, none⟩ = some (.int .i64 (kindAt L i)) := fun wr hb i hi => NodesAt.kind (HL.out.below (HB7.out.trans (hb.mono HB7.out.size))) (by rw [HLN.out]; exact hi) rfl
  have hk2 : ∀ wr, Below w7.heap.size w7 wr → ∀ i, i < n' → wr.cell? ⟨b', off' + i * 8, none⟩ = some (.int .i64 (kindAt M i)) := fun wr hb i hi => NodesAt.kind (HM.out.below (HB7.out.trans (hb.mono HB7.out.size))) (by rw [HMN.out]; exact hi) rfl
  have HK1 := Lib.hid hk1
  have HK2 := Lib.hid hk2
  clear hk1 hk2
  go_loopw [8, 10] (fun gr i wr => ∃ k : Nat, k ≤ n ∧ i = .int .i64 k ∧ gr = .int .i64 ((groupsF L k : Nat) : Int) ∧ Below w7.heap.size w7 wr) (fun _ i _ => n - (intOf i).toNat)
  case atStart => exact ⟨0, by omega, rfl, rfl, Below.refl _ _⟩
  case round =>
    obtain ⟨i, hi, rfl, rfl, hB⟩ := hrel
    have HB := Lib.hid hB; clear hB
    by_cases hlt : i < n
    · have n0 := HK1.out wr HB.out i hlt
      have hgk : (kindAt L i == 3) = grp L i := rfl
      have hgs : groupsF L (i + 1) = if (kindAt L i == 3) then groupsF L i + 1 else groupsF L i := rfl
      have hgl := HGLE.out i
      obtain ⟨G, hG⟩ : ∃ G, groupsF L i = G := ⟨_, rfl⟩
      rw [hG] at hgs hgl ⊢
      clear hG
      generalize kindAt L i = kd at *
      cases hg : grp L i with
      | true =>
        rw [hg] at hgk
        rw [hgk] at hgs
        have hG1 : groupsF L (i + 1) = G + 1 := hgs
        have HG1 := Lib.hid hG1
        have p1 := (HB.out.cell (p := ⟨gb, ob + i, none⟩) HGB.out).trans (HCB.out i (by omega))
        have p2 := (HB.out.cell (p := ⟨ga, oa + i, none⟩) HGA.out).trans (HCA.out i hlt)
        have hst := HSTEP.out i hlt hg
        rw [hst] at p1
        have hnb : numAt L i ≤ L.length := by
          unfold numAt
          rw [if_pos hg]
          exact rank_le _ _ _
        rw [HLN.out] at hnb
        obtain ⟨v, hv⟩ : ∃ v, numAt L i = v := ⟨_, rfl⟩
        rw [hv] at p1 p2 hnb
        obtain ⟨v1, hv1⟩ : ∃ v1, v + 1 = v1 := ⟨_, rfl⟩
        rw [hv1] at p1
        have y1 : (v : Int) + 1 = (v1 : Int) := by omega
        have y2 : IntKind.i64.wrap ((v : Int) + 1) = (v1 : Int) := by rw [IntWalk.i64_in _ (by omega)]; exact y1
        have hi7 : i < n + 1 := by omega
        have hil : (i : Int) < (n : Int) + 1 := by omega
        clear hgs hG1 hst hv hv1 hg
        go_wp2_with fail
        go_quiet (fail)
        go_wp2
        go_roundw
        case rel => exact ⟨i + 1, by omega, by go_num, by rw [HG1.out]; go_num, below_drewN HB.out _⟩
        case measure => simp [intOf]; omega
      | false =>
        rw [hg] at hgk
        rw [hgk] at hgs
        have hG1 : groupsF L (i + 1) = G := hgs
        have HG1 := Lib.hid hG1
        clear hgs hG1 hg
        go_wp2
        go_roundw
        case rel => exact ⟨i + 1, by omega, by go_num, by rw [HG1.out], HB.out⟩
        case measure => simp [intOf]; omega
    · obtain rfl : i = n := by omega
      clear hlt
      go_wp2_with fail
      go_loopw [9, 11] (fun gr k wr => ∃ j : Nat, j ≤ n' ∧ k = .int .i64 j ∧ gr = .int .i64 ((groupsF M j : Nat) : Int) ∧ Below w7.heap.size w7 wr) (fun _ k _ => n' - (intOf k).toNat)
      case atStart => exact ⟨0, by omega, rfl, rfl, HB.out⟩
      case round =>
        clear HB
        obtain ⟨j, hj, rfl, rfl, hB⟩ := hrel
        have HB := Lib.hid hB; clear hB
        by_cases hlt : j < n'
        · have n0 := HK2.out wr HB.out j hlt
          have hgk : (kindAt M j == 3) = grp M j := rfl
          have hgs : groupsF M (j + 1) = if (kindAt M j == 3) then groupsF M j + 1 else groupsF M j := rfl
          have hgl := HMLE.out j
          obtain ⟨G, hG⟩ : ∃ G, groupsF M j = G := ⟨_, rfl⟩
          rw [hG] at hgs hgl ⊢
          clear hG
          generalize kindAt M j = kd at *
          cases hg : grp M j with
          | true =>
            rw [hg] at hgk
            rw [hgk] at hgs
            have hG1 : groupsF M (j + 1) = G + 1 := hgs
            have HG1 := Lib.hid hG1
            clear hgs hG1 hg
            go_wp2
            go_roundw
            case rel => exact ⟨j + 1, by omega, by go_num, by rw [HG1.out]; go_num, HB.out⟩
            case measure => simp [intOf]; omega
          | false =>
            rw [hg] at hgk
            rw [hgk] at hgs
            have hG1 : groupsF M (j + 1) = G := hgs
            have HG1 := Lib.hid hG1
            clear hgs hG1 hg
            go_wp2
            go_roundw
            case rel => exact ⟨j + 1, by omega, by go_num, by rw [HG1.out], HB.out⟩
            case measure => simp [intOf]; omega
        · obtain rfl : j = n' := by omega
          clear hlt
          have hv1 : rightF (L ++ [ndGroup]) = decide (groupsF L i < 9) := by rw [right_group HRL.out, HLN.out]
          have hv2 : rightF (L ++ M ++ [ndAlt]) = ((!(kindAt L r == 6) && !(kindAt M r' == 6)) && decide (groupsF L i + groupsF M j ≤ 9)) := by
            rw [right_two HRL.out HRM.out, HLN.out, HMN.out, show i - 1 = r by have := HR.out; omega, show j - 1 = r' by have := HR'.out; omega]; rfl
          have hglb := HGLE.out i
          have hmlb := HMLE.out j
          have R1 := fun (w : World) (h : NodesAt w w.heap.size A5 (L ++ [ndGroup])) => right_any A5 c5 (L ++ [ndGroup]) w h
          have R2 := fun (A : Option Addr) (c : Nat) (w : World) (h : NodesAt w w.heap.size A (L ++ M ++ [ndAlt])) => right_any A c (L ++ M ++ [ndAlt]) w h
          have hll1 : (L ++ [ndGroup]).length = i + 1 := by rw [List.length_append, HLN.out]; rfl
          have hll2 : (L ++ M ++ [ndAlt]).length = i + j + 1 := by rw [List.length_append, List.length_append, HLN.out, HMN.out]; rfl
          rw [hll1] at R1
          rw [hll2] at R2
          have HLL2 := Lib.hid hll2
          have hm1 := fun wr hb => HK1.out wr hb r hrn
          have hm2 := fun wr hb => HK2.out wr hb r' hrn'
          clear hll1 hll2
          obtain ⟨G, hG⟩ : ∃ G, groupsF L i = G := ⟨_, rfl⟩
          obtain ⟨G', hG'⟩ : ∃ G, groupsF M j = G := ⟨_, rfl⟩
          rw [hG] at hv1 hv2 hglb ⊢
          rw [hG'] at hv2 hmlb ⊢
          generalize kindAt L r = kd at *
          generalize kindAt M r' = kd' at *
          have t3 : decide ((G : Int) + (G' : Int) ≤ 9) = decide (G + G' ≤ 9) := by rw [Bool.eq_iff_iff]; simp; omega
          have t4 : decide ((G : Int) < 9) = decide (G < 9) := by rw [Bool.eq_iff_iff]; simp; omega
          have HM1 := Lib.hid hm1
          have HM2 := Lib.hid hm2
          clear hG hG' hm1 hm2
          have hbw : Below w1.heap.size w1 wr := HB7.out.trans (HB.out.mono HB7.out.size)
          have HBW := Lib.hid hbw
          clear hbw
          rw [show (kd == 6) = decide (kd = 6) from rfl, show (kd' == 6) = decide (kd' = 6) from rfl] at hv2
          by_cases e1 : kd = 6 <;> by_cases e2 : kd' = 6 <;> cases e3 : decide (G + G' ≤ 9) <;> cases e4 : decide (G < 9)
          all_goals
            rw [e3] at hv2
            simp only [e1, e2, decide_true, decide_false, Bool.not_true, Bool.not_false, Bool.and_true, Bool.and_false, Bool.true_and, Bool.false_and] at hv2
            rw [e4] at hv1
            rw [e3] at t3
            rw [e4] at t4
            rw [hv1] at R1
            rw [hv2] at R2
            clear hv1 hv2
            have hown0 : (wr.alloc (.cells #[] 48)).ownsRow wr.heap.size 48 8 (.slice (some ⟨wr.heap.size, 0, none⟩) 0 0) 0 [] := row_lit (Slab.new _ _ _) (Nat.le_refl _) rfl (by unfold maxLen; omega)
            have hnd0 := NodesAt.cells ((HL.out.below HBW.out).below ((Below.refl w1.heap.size wr).alloc HBW.out.size (.cells #[] 48)))
            have hfl : (flatN L).length = i * 8 := by rw [flatN_length, HLN.out]
            have hfm : (flatN M).length = j * 8 := by rw [flatN_length, HMN.out]
            go_wp2_with (at_builtin; first
              | (((refine wpList_append_own _ rfl (.tmp 101) (.tmp 102) 37 rfl (wr.heap.size) 48 i0 ndZero 8 64 Try.underlying37 HI.out HZ0.out HZ1.out HZ2.out rfl (by decide) _ _ _ rfl hown0 ⟨b, off, none⟩ i _ _ rfl hfl hnd0 (flatN_cell _) (by unfold maxLen; omega) (by omega) (by first | omega | (simp; done) | (simp; omega)) ?_)); intro v4 w8 hown8 hgr8 hnil8
                 obtain ⟨A8, c8, rfl⟩ := row_shape hown8
                 rw [Nat.zero_add, List.nil_append] at hown8
                 have hb8 : Below wr.heap.size wr w8 := ((Below.refl wr.heap.size wr).alloc (Nat.le_refl _) (.cells #[] 48)).grown hgr8 (by simp) (fun k e => (hown0.lt k e).1)
                 have hs8 := hb8.size
                 have hnd1 := NodesAt.cells ((HM.out.below HBW.out).below (hb8.mono HBW.out.size))
                 clear hown0 hnd0 hfl)
              | (((refine wpList_append_own _ rfl (.tmp 103) (.tmp 104) 37 rfl (wr.heap.size) 48 i0 ndZero 8 64 Try.underlying37 HI.out HZ0.out HZ1.out HZ2.out rfl (by decide) _ _ _ rfl hown8 ⟨b', off', none⟩ j _ _ rfl hfm hnd1 (flatN_cell _) (by unfold maxLen; omega) (by omega) (by first | omega | (simp; done) | (simp; omega)) ?_)); intro v4 w9 hown9 hgr9 hnil9
                 obtain ⟨A9, c9, rfl⟩ := row_shape hown9
                 have hb9 : Below wr.heap.size wr w9 := hb8.grown hgr9 hs8 (fun k e => (hown8.lt k e).1)
                 have hs9 := hb9.size
                 clear hown8 hnd1 hfm)
              | ((go_must (refine wpList_append_elem _ rfl (.tmp 105) (.tmp 107) 37 rfl (wr.heap.size) 48 i0 ndZero 8 64 Try.underlying37 HI.out HZ0.out HZ1.out HZ2.out rfl (by decide) _ _ _ _ rfl hown9 #[.int .i64 6, .int .i64 2, .int .i64 0, .int .i64 0, .int .u64 0, .int .u64 0, .int .u64 0, .int .u64 0] _ rfl (by first | rfl | simp) rfl (by simp [Value.oneCell']) (by unfold maxLen; omega) (by omega) (by first | omega | (simp; done) | (simp; omega)) ?_)); intro A10 c10 w10 hown10 hbl10
                 have HO10 : Hid (w10.ownsRow wr.heap.size 48 8 (.slice A10 (i + j + 1) c10) (i + j + 1) (flatN (L ++ M ++ [ndAlt]))) := Lib.hid (by rw [flatN_append, flatN_append, flat_alt]; exact hown10)
                 have HB10 := Lib.hid (HB.out.trans ((hb9.trans hbl10).mono HB.out.size))
                 have m1 := HM1.out w10 HB10.out
                 have m2 := HM2.out w10 HB10.out
                 clear hown9 hown10 hb8 hs8 hb9 hs9 hgr8 hgr9 hnil8 hnil9 hbl10))
            refine (R1 _ ((HG7.out.below HB10.out).more HB10.out.size)).mono ?_
            rintro e11 w11 ⟨rfl, hb11⟩
            have HN11 := Lib.hid (((NodesAt.of_row HO10.out HLL2.out (by omega)).below hb11).more hb11.size)
            have HB11 := Lib.hid (HB10.out.trans (hb11.mono HB10.out.size))
            clear hb11 HO10 HB10 m1 m2
            go_wp2_with fail
            refine (R2 A10 c10 _ HN11.out).mono ?_
            rintro e12 w12 ⟨rfl, hb12⟩
            have HB12 := Lib.hid (HB11.out.trans (hb12.mono HB11.out.size))
            clear hb12 HN11 HB11
            go_wp2_with fail
            refine (sure6_any _).mono ?_
            rintro e13 w13 ⟨rfl, hb13⟩
            have HB13 := below_then (HB7.out.trans (HB12.out.mono HB7.out.size)) hb13
            go_wp2
            go_ret
            first
              | exact ⟨rfl, HB13⟩
              | exact ⟨ret_v (show Value.bool (kd != 6 && kd' != 6) = Value.bool true by rw [bne_iff_ne.2 e1, bne_iff_ne.2 e2]; rfl), HB13⟩
end Go.Proofs.Ytgkfdjfoakbibaa
