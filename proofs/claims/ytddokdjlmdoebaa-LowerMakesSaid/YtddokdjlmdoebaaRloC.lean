/- Walks of gimletref11: node. -/
import Derived.Test.YtddokdjlmdoebaaProg
import Derived.WalkKit
import Derived.WalkSpells
import Derived.WalkLawsBesides
import Derived.Handy
import Derived.Lib.Hide
import Derived.Test.YtddokdjlmdoebaaRloB
import Derived.Test.YtddokdjlmdoebaaMLoM
import Derived.Test.YtddokdjlmdoebaaMLoD
import Derived.Test.YtddokdjlmdoebaaMLoB
import Derived.Deep.QuietTactic
import Derived.Lib.QuietBelow
import Derived.BigQuiet
import Derived.Deep.RegionWith
set_option linter.unusedVariables false
set_option linter.unusedSimpArgs false
namespace Go.Proofs.Ytddokdjlmdoebaa
open Go.RowKit SetP AstP LowP ParP Go.Sort
theorem TreeMem.more {w : World} {B B' : Nat} {A : Option Addr} {L : List Nd} {gN : Nat} {AM : Option Addr} (h : TreeMem w B A L gN AM) (hB : B ≤ B') : TreeMem w B' A L gN AM := by
  refine ⟨h.nodes.more hB, h.null, Nat.lt_of_lt_of_le h.gN hB, ?_⟩
  obtain ⟨h1, h2⟩ := h.nums
  refine ⟨h1, ?_⟩
  rcases h2 with h2 | ⟨b, off, rfl, hb, hc⟩
  · exact .inl h2
  · exact .inr ⟨b, off, rfl, Nat.lt_of_lt_of_le hb hB, hc⟩
theorem row_apart {w : World} {b1 b2 n m s1 s2 : Nat} {e1 e2 : TypeId} {v u : Value} {xs ys : List Value} (h1 : w.ownsRow b1 e1 s1 v n xs) (h2 : w.ownsRow b2 e2 s2 u m ys) (hne : e1 ≠ e2) : Apart v u := by
  intro k hv hu
  rcases h2.2 with ⟨rfl, _⟩ | ⟨g, cap, cur, rfl, hg, hh, _⟩
  · cases hu
  · have : g = k := by injection hu
    subst this
    exact row_not h1 hh (fun e => hne e.symm) hv
set_option maxRecDepth 100000 in
theorem info_terms : (Try.prog.info? 31).map (fun i => (i.zero, i.size, i.bytes)) = some (some (.slice none 0 0), 1, 24) := by kernel_rfl
def NodeW (L : List Nd) (A : Option Addr) (c gN cN : Nat) (AM : Option Addr) (cM i : Nat) : Prop :=
  ∀ w, TreeMem w w.heap.size A L gN AM → Calls Try.prog 56 #[.slice A L.length c, .slice (some ⟨gN, 0, none⟩) L.length cN, .slice AM L.length cM, .int .i64 i] w (RetT w.heap.size (termAt L i) w)
/-- The terms of the first m kids, in memory. -/
def KidRows (wr : World) (B : Nat) (L : List Nd) (K : List Nat) (m : Nat) (Ap : Option Addr) (cp : Nat) (PV : List (Value × List Tm)) : Prop :=
  PV.length = m ∧ PV.map Prod.snd = (K.take m).map (termAt L) ∧ wr.ownsRow B 31 1 (.slice Ap m cp) m (PV.map Prod.fst) ∧ ∀ p ∈ PV, wr.ownsRow B 47 8 p.1 p.2.length (flatT p.2)
set_option maxRecDepth 100000 in
set_option maxHeartbeats 2000000 in
theorem rnode_set {A : Option Addr} {c : Nat} {L : List Nd} {gN cN : Nat} {AM : Option Addr} {cM : Nat} (hlen : L.length ≤ 100000) (hF : formedF L = true) (i : Nat) (hi : i < L.length) (x : Nd) (hx : L.getD i ndEmpty = x) (w : World) (hT : TreeMem w w.heap.size A L gN AM) (f : Nat → Bool) (hk : x.kind = 2) (hn : x.kids = 0) (hf : x.set = f) :
    Calls Try.prog 56 #[.slice A L.length c, .slice (some ⟨gN, 0, none⟩) L.length cN, .slice AM L.length cM, .int .i64 i] w (RetT w.heap.size [tmL f] w) := by
  have HT := Lib.hid hT
  obtain ⟨b, off, rfl, hb, hn8⟩ := hT.nodes.node hi
  rw [hx] at hn8
  unfold Node8 at hn8
  obtain ⟨n0, n1, n2, n3, n4, n5, n6, n7⟩ := hn8
  have CK := rkids_any (some ⟨b, off, none⟩) c L i w hT.nodes
  have hkl := kidsF_length hF hi
  rw [hx] at hkl
  have hat := formed_at hF hi
  have hstl := St_len (L := L) (k := i) (by omega)
  rw [hx] at hat
  have hkb : (kidsF L (i : Int)).length ≤ 100000 := by omega
  obtain ⟨N, hN⟩ : ∃ N, L.length = N := ⟨_, rfl⟩
  have HN := Lib.hid hN
  have hi2 := hi
  rw [hN] at CK hi2 ⊢
  obtain ⟨K, hK⟩ : ∃ K, kidsF L (i : Int) = K := ⟨_, rfl⟩
  rw [hK] at CK hkl hkb
  have HKE := Lib.hid hK
  obtain ⟨M, hM⟩ : ∃ M, K.length = M := ⟨_, rfl⟩
  rw [hM] at CK hkl hkb
  have HM := Lib.hid hM
  clear hN hK hM hstl hat hT
  obtain ⟨kd, kn, n, mm, f'⟩ := x
  simp only at hk hn hf n0 n1 n2 n3 n4 n5 n6 n7 hkl
  subst hk hn hf
  have hM0 : M = 0 := by rw [hkl]; rfl
  subst hM0
  clear hF hx hlen hi hkl
  go_enter Try.func56, Try.ntmps56
  go_wp2_with fail
  refine CK.mono ?_
  rintro e1 w1 ⟨A1, c1, rfl, hrow1, hb1⟩
  have HK := Lib.hid (row_at0 hrow1 (by omega))
  have HB1 := Lib.hid hb1
  have HT1 := Lib.hid ((HT.out.keep hb1).more hb1.size)
  have k0 := ((bcell hb1).1 b (off + i * 8) hb).trans n0
  have k3 := ((bcell hb1).1 b (off + i * 8 + 3) hb).trans n3
  have hb1w : b < w1.heap.size := Nat.lt_of_lt_of_le hb hb1.size
  clear hrow1 hb1 CK
  have k4 := ((bcell HB1.out).1 b (off + i * 8 + 4) hb).trans n4
  have k5 := ((bcell HB1.out).1 b (off + i * 8 + 5) hb).trans n5
  have k6 := ((bcell HB1.out).1 b (off + i * 8 + 6) hb).trans n6
  have k7 := ((bcell HB1.out).1 b (off + i * 8 + 7) hb).trans n7
  clear n0 n1 n2 n3 n4 n5 n6 n7
  go_wp2_with fail
  go_loopw [10, 11] (fun p j wr => p = .slice none 0 0 ∧ j = .int .i64 0 ∧ wr = w1) (fun _ _ _ => 0)
  case atStart => exact ⟨rfl, rfl, rfl⟩
  case round =>
    obtain ⟨rfl, rfl, rfl⟩ := hrel
    (go_wp2_with fail)
    go_ret
    exact ⟨_, _, rfl, row_lit (Slab.new _ _ _) HB1.out.size rfl (by unfold maxLen; simp), HB1.out.alloc HB1.out.size _⟩
set_option maxRecDepth 100000 in
set_option maxHeartbeats 2000000 in
theorem rnode_empty {A : Option Addr} {c : Nat} {L : List Nd} {gN cN : Nat} {AM : Option Addr} {cM : Nat} (hlen : L.length ≤ 100000) (hF : formedF L = true) (i : Nat) (hi : i < L.length) (x : Nd) (hx : L.getD i ndEmpty = x) (w : World) (hT : TreeMem w w.heap.size A L gN AM) (hk : x.kind = 1 ∨ (x.kind = 4 ∧ x.m = 0)) (hn : x.kind = 1 → x.kids = 0) :
    Calls Try.prog 56 #[.slice A L.length c, .slice (some ⟨gN, 0, none⟩) L.length cN, .slice AM L.length cM, .int .i64 i] w (RetT w.heap.size [tmE] w) := by
  have HT := Lib.hid hT
  obtain ⟨b, off, rfl, hb, hn8⟩ := hT.nodes.node hi
  rw [hx] at hn8
  unfold Node8 at hn8
  obtain ⟨n0, n1, n2, n3, n4, n5, n6, n7⟩ := hn8
  have CK := rkids_any (some ⟨b, off, none⟩) c L i w hT.nodes
  have hkl := kidsF_length hF hi
  rw [hx] at hkl
  have hat := formed_at hF hi
  have hstl := St_len (L := L) (k := i) (by omega)
  rw [hx] at hat
  have hkb : (kidsF L (i : Int)).length ≤ 100000 := by omega
  obtain ⟨N, hN⟩ : ∃ N, L.length = N := ⟨_, rfl⟩
  have HN := Lib.hid hN
  have hi2 := hi
  rw [hN] at CK hi2 ⊢
  obtain ⟨K, hK⟩ : ∃ K, kidsF L (i : Int) = K := ⟨_, rfl⟩
  rw [hK] at CK hkl hkb
  have HKE := Lib.hid hK
  obtain ⟨M, hM⟩ : ∃ M, K.length = M := ⟨_, rfl⟩
  rw [hM] at CK hkl hkb
  have HM := Lib.hid hM
  clear hN hK hM hstl hat hT
  obtain ⟨kd, kn, n, mm, f⟩ := x
  simp only at hk hn n0 n1 n2 n3 n4 n5 n6 n7 hkl
  have hfl : flatT [tmE] = (#[.int .i64 1, .int .i64 (-1), .int .i64 (-1), .int .i64 0, .int .u64 0, .int .u64 0, .int .u64 0, .int .u64 0] : Array Value).toList := by simp [flatT, tmE, wd_zSet]
  unfold RetT
  rw [hfl]
  rcases hk with rfl | ⟨rfl, rfl⟩
  · have hn0 := hn rfl
    subst hn0
    have hM0 : M = 0 := by rw [hkl]; rfl
    subst hM0
    clear hF hx hlen hi hkl hn hfl
    go_enter Try.func56, Try.ntmps56
    go_wp2_with fail
    refine CK.mono ?_
    rintro e1 w1 ⟨A1, c1, rfl, hrow1, hb1⟩
    have HK := Lib.hid (row_at0 hrow1 (by omega))
    have HB1 := Lib.hid hb1
    have HT1 := Lib.hid ((HT.out.keep hb1).more hb1.size)
    have k0 := ((bcell hb1).1 b (off + i * 8) hb).trans n0
    have k3 := ((bcell hb1).1 b (off + i * 8 + 3) hb).trans n3
    have hb1w : b < w1.heap.size := Nat.lt_of_lt_of_le hb hb1.size
    clear hrow1 hb1 CK
    clear n0 n1 n2 n3 n4 n5 n6 n7
    go_wp2_with fail
    go_loopw [10, 11] (fun p j wr => p = .slice none 0 0 ∧ j = .int .i64 0 ∧ wr = w1) (fun _ _ _ => 0)
    case atStart => exact ⟨rfl, rfl, rfl⟩
    case round =>
      obtain ⟨rfl, rfl, rfl⟩ := hrel
      (go_wp2_with fail)
      go_ret
      exact ⟨_, _, rfl, row_lit (Slab.new _ _ _) HB1.out.size rfl (by unfold maxLen; simp), HB1.out.alloc HB1.out.size _⟩
  · clear hF hx hlen hi hkl hn hfl
    go_enter Try.func56, Try.ntmps56
    go_wp2_with fail
    refine CK.mono ?_
    rintro e1 w1 ⟨A1, c1, rfl, hrow1, hb1⟩
    have HK := Lib.hid (row_at0 hrow1 (by omega))
    have HB1 := Lib.hid hb1
    have HT1 := Lib.hid ((HT.out.keep hb1).more hb1.size)
    have k0 := ((bcell hb1).1 b (off + i * 8) hb).trans n0
    have k3 := ((bcell hb1).1 b (off + i * 8 + 3) hb).trans n3
    have hb1w : b < w1.heap.size := Nat.lt_of_lt_of_le hb hb1.size
    clear hrow1 hb1 CK
    clear n0 n1 n2 n3 n4 n5 n6 n7
    go_wp2_with fail
    go_ret
    exact ⟨_, _, rfl, row_lit (Slab.new _ _ _) HB1.out.size rfl (by unfold maxLen; simp), HB1.out.alloc HB1.out.size _⟩
/-- What join hands back, of rows of one's own. -/
theorem JoinPost.ret {k : Int} {PV : List (Value × List Tm)} {w wr w' : World} {e : Ending} {base : Nat} (h : JoinPost k PV wr e w') (hb : base ≤ wr.heap.size) (hw : Below base w wr) (hr : ∀ p ∈ PV, wr.ownsRow base 47 8 p.1 p.2.length (flatT p.2)) : RetT base (joinT k (PV.map Prod.snd)) w e w' := by
  rcases h with ⟨V, X, rfl, rfl, hb2⟩ | ⟨_, A, c, rfl, ho, hb2⟩
  · have h1 := hr (V, X) (by simp)
    simp only at h1
    obtain ⟨A, c, rfl⟩ := row_shape h1
    exact ⟨A, c, rfl, row_call h1 hb2, hw.trans (hb2.mono hb)⟩
  · exact ⟨A, c, rfl, row_mono ho hb, hw.trans (hb2.mono hb)⟩
set_option maxRecDepth 100000 in
set_option maxHeartbeats 2000000 in
theorem rnode_join {A : Option Addr} {c : Nat} {L : List Nd} {gN cN : Nat} {AM : Option Addr} {cM : Nat} (hlen : L.length ≤ 100000) (hF : formedF L = true) (i : Nat) (hi : i < L.length) (x : Nd) (hx : L.getD i ndEmpty = x) (w : World) (hT : TreeMem w w.heap.size A L gN AM) (q : Int) (hk : (x.kind = 5 ∧ q = 3) ∨ (x.kind = 6 ∧ q = 4)) (h0 : 0 < (kidsF L (i : Int)).length) (hIH : ∀ j ∈ kidsF L (i : Int), NodeW L A c gN cN AM cM j) (hJ1 : ∀ j ∈ kidsF L (i : Int), (termAt L j).length ≤ 1000000 ∧ 0 < (termAt L j).length ∧ Bnd (termAt L j)) (hl : (joinT q ((kidsF L (i : Int)).map (termAt L))).length ≤ 1000000) :
    Calls Try.prog 56 #[.slice A L.length c, .slice (some ⟨gN, 0, none⟩) L.length cN, .slice AM L.length cM, .int .i64 i] w (RetT w.heap.size (joinT q ((kidsF L (i : Int)).map (termAt L))) w) := by
  obtain ⟨i0, hi0, hz0, hz1, hz2⟩ := info_parts info_terms
  have HI := Lib.hid hi0; clear hi0
  have HZ0 := Lib.hid hz0; clear hz0
  have HZ1 := Lib.hid hz1; clear hz1
  have HZ2 := Lib.hid hz2; clear hz2
  have HT := Lib.hid hT
  obtain ⟨b, off, rfl, hb, hn8⟩ := hT.nodes.node hi
  rw [hx] at hn8
  unfold Node8 at hn8
  obtain ⟨n0, n1, n2, n3, n4, n5, n6, n7⟩ := hn8
  have CK := rkids_any (some ⟨b, off, none⟩) c L i w hT.nodes
  have hkl := kidsF_length hF hi
  rw [hx] at hkl
  have hat := formed_at hF hi
  have hstl := St_len (L := L) (k := i) (by omega)
  rw [hx] at hat
  have hkb : (kidsF L (i : Int)).length ≤ 100000 := by omega
  obtain ⟨N, hN⟩ : ∃ N, L.length = N := ⟨_, rfl⟩
  have HN := Lib.hid hN
  have hi2 := hi
  rw [hN] at CK hi2 ⊢
  obtain ⟨K, hK⟩ : ∃ K, kidsF L (i : Int) = K := ⟨_, rfl⟩
  rw [hK] at CK hkl hkb
  have HKE := Lib.hid hK
  obtain ⟨M, hM⟩ : ∃ M, K.length = M := ⟨_, rfl⟩
  rw [hM] at CK hkl hkb
  have HM := Lib.hid hM
  clear hN hK hM hstl hat hT
  rw [HKE.out] at hIH hJ1
  have HIH := Lib.hid hIH
  have HJ1 := Lib.hid hJ1
  rw [HKE.out] at h0 hl ⊢
  rw [HM.out] at h0
  have HL1 := Lib.hid hl
  obtain ⟨kd, kn, n, mm, f⟩ := x
  simp only at hk n0 n1 n2 n3 n4 n5 n6 n7 hkl
  clear hIH hJ1 hF hx hlen hi hkl hl
  generalize hY : joinT q (K.map (termAt L)) = Y at *
  have HY := Lib.hid hY
  clear hY
  rcases hk with ⟨rfl, rfl⟩ | ⟨rfl, rfl⟩
  all_goals
    go_enter Try.func56, Try.ntmps56
    go_wp2_with fail
    refine CK.mono ?_
    rintro e1 w1 ⟨A1, c1, rfl, hrow1, hb1⟩
    have HK := Lib.hid (row_at0 hrow1 (by omega))
    have HB1 := Lib.hid hb1
    have HT1 := Lib.hid ((HT.out.keep hb1).more hb1.size)
    have k0 := ((bcell hb1).1 b (off + i * 8) hb).trans n0
    have k3 := ((bcell hb1).1 b (off + i * 8 + 3) hb).trans n3
    have hb1w : b < w1.heap.size := Nat.lt_of_lt_of_le hb hb1.size
    clear hrow1 hb1 CK
    clear n0 n1 n2 n3 n4 n5 n6 n7
    go_wp2_with fail
    go_loopw [10, 11] (fun p j wr => ∃ (m : Nat) (PV : List (Value × List Tm)) (Ap : Option Addr) (cp : Nat), m ≤ M ∧ j = .int .i64 m ∧ p = .slice Ap m cp ∧ KidRows wr w1.heap.size L K m Ap cp PV ∧ Below w1.heap.size w1 wr) (fun _ j _ => M - (intOf j).toNat)
    case atStart => exact ⟨0, [], none, 0, Nat.zero_le _, rfl, rfl, ⟨rfl, by simp, World.ownsRow_nil _ _ _ _, fun p hp => by cases hp⟩, Below.refl _ _⟩
    case round =>
      obtain ⟨m, PV, Ap, cp, hm, rfl, rfl, hKR, hX⟩ := hrel
      have HX := Lib.hid hX
      have HKR := Lib.hid hKR
      clear hX hKR
      by_cases hlt : m < M
      · have hmK : m < K.length := by rw [HM.out]; exact hlt
        obtain ⟨b3, off3, rfl, hb3, hc3⟩ := (HK.out.below HX.out).at_ (j := m) hmK
        have hmem : K.getD m 0 ∈ K := by rw [List.getD_eq_getElem?_getD, List.getElem?_eq_getElem hmK]; exact List.getElem_mem _
        have C5 := HIH.out _ hmem wr ((HT1.out.keep HX.out).more HX.out.size)
        have hj1 := (HJ1.out _ hmem).1
        have HTK : Hid (K.take (m + 1) = K.take m ++ [K.getD m 0]) := Lib.hid (take_snoc hmK)
        rw [HN.out] at C5
        generalize K.getD m 0 = j at *
        clear hmK hmem
        unfold RetT at C5
        go_wp2_with fail
        refine C5.mono ?_
        rintro e5 w5 ⟨A5, c5, rfl, hrow5, hb5⟩
        obtain ⟨hk1, hk2, hk3, hk4⟩ := HKR.out
        have hs1 : w1.heap.size ≤ wr.heap.size := HX.out.size
        have hk3 := row_call hk3 hb5
        have HK4 := Lib.hid (fun p hp => row_call (hk4 p hp) hb5)
        have HR5 := Lib.hid (row_mono hrow5 hs1)
        have HX5 := Lib.hid (below_then HX.out hb5)
        have hs5 : w1.heap.size ≤ w5.heap.size := HX5.out.size
        have HK1 := Lib.hid hk1
        have HK2 := Lib.hid hk2
        have HK3 := Lib.hid hk3
        clear C5 hb5 hrow5 hk4 HKR hk1 hk2 hc3 hb3
        go_wp2_with ((at_builtin; go_must (refine wpList_append_elem_at _ rfl (.tmp 40) (.tmp 49) 131 rfl (w1.heap.size) 31 i0 _ _ _ Try.underlying131 HI.out HZ0.out HZ1.out HZ2.out rfl (by decide) _ _ _ _ ?q1 hk3 _ _ ?q2 (by first | rfl | simp) ?q3 ?q4 (by unfold maxLen; omega) (by omega) (by first | omega | (simp; omega)) ?_); (case q1 => rfl); (case q2 => first | rfl | exact slice_at (by simp)); (case q3 => rfl); (case q4 => simp [Value.oneCell']); intro A4 q4 w4 hown4 hbl4 has4); have HAS := Lib.hid has4; have HO4 := Lib.hid hown4; have HB4 := Lib.hid (HX5.out.trans hbl4); clear has4 hown4 hbl4)
        go_roundw
        case rel =>
          have KR : KidRows w4 w1.heap.size L K (m + 1) A4 q4 (PV ++ [(.slice A5 (termAt L j).length c5, termAt L j)]) := by
            refine ⟨by rw [List.length_append, HK1.out]; rfl, by rw [List.map_append, HK2.out, HTK.out, List.map_append]; rfl, by rw [List.map_append]; exact HO4.out, fun p hp => ?_⟩
            rcases List.mem_append.1 hp with hp | hp
            · exact (row_aside (HK4.out p hp) HAS.out (row_apart HK3.out (HK4.out p hp) (by decide))).1
            · rw [List.mem_singleton.1 hp]
              exact (row_aside HR5.out HAS.out (row_apart HK3.out HR5.out (by decide))).1
          first
            | exact ⟨m + 1, _, A4, q4, by omega, by go_num, rfl, KR, HB4.out⟩
            | exact ⟨m + 1, by omega, by omega, _, A4, q4, ⟨rfl, rfl, rfl⟩, KR, HB4.out⟩
        case measure => simp [intOf]; omega
      · obtain rfl : m = M := by omega
        have htk : K.take m = K := by rw [← HM.out, List.take_length]
        clear hlt hm
        skip
        have b0 := (HX.out.cell (p := ⟨b, off + i * 8, none⟩) hb1w).trans k0
        have b3 := (HX.out.cell (p := ⟨b, off + i * 8 + 3, none⟩) hb1w).trans k3
        clear k0 k3
        obtain ⟨hk1, hk2, hk3, hk4⟩ := HKR.out
        obtain ⟨gp, rfl, hgpb, hgp, hgpc, hcell⟩ := row_cell hk3 h0
        rw [htk] at hk2
        have HB2 := HB1.out.trans (HX.out.mono HB1.out.size)
        have hw1 := HX.out.size
        have hmem : ∀ p ∈ PV, ∃ j ∈ K, p.2 = termAt L j := fun p hp => by
          have : p.2 ∈ PV.map Prod.snd := List.mem_map.2 ⟨p, hp, rfl⟩
          rw [hk2] at this
          obtain ⟨j, hj, e⟩ := List.mem_map.1 this
          exact ⟨j, hj, e.symm⟩
        have CJ := rjoin_any _ w1.heap.size wr.heap.size PV gp 0 cp wr (by intro e; rw [e] at hk1; simp at hk1; omega) ⟨hgp, fun j hj => by rw [Nat.zero_add]; exact hcell j (by omega), fun p hp => ⟨hk4 p hp, fun k hk => (own_lt (hk4 p hp) hk).2⟩⟩ (Nat.le_refl _) (by omega) (by omega) (fun p hp => by
          obtain ⟨j, hj, e⟩ := hmem p hp
          rw [e]
          exact ⟨(HJ1.out j hj).2.2, (HJ1.out j hj).2.1⟩) (by rw [hk2, HY.out]; exact HL1.out)
        have CJ2 := CJ.mono (fun e w' h => JoinPost.ret h (Nat.le_trans HB1.out.size hw1) HB2 (fun p hp => row_mono (hk4 p hp) HB1.out.size))
        rw [hk1, hk2, HY.out] at CJ2
        unfold RetT at CJ2
        clear CJ hmem hcell hk3 hk4 hk1 hk2 HKR htk
        go_wp2_with fail
        refine CJ2.mono ?_
        rintro e7 w7 ⟨A7, c7, rfl, hown7, hb7⟩
        have HB7 := Lib.hid hb7
        have H7 := Lib.hid hown7
        clear CJ2 hown7 hb7
        go_wp2_with fail
        go_ret
        exact ⟨A7, c7, rfl, H7.out, HB7.out⟩
end Go.Proofs.Ytddokdjlmdoebaa
