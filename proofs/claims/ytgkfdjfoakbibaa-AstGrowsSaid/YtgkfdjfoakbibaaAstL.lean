/- Walks of the package ast: the groups' numbers. -/
import Derived.Test.YtgkfdjfoakbibaaProg
import Derived.WalkKit
import Derived.WalkSpells
import Derived.WalkLawsBesides
import Derived.Handy
import Derived.Lib.Hide
import Derived.Test.YtgkfdjfoakbibaaAstK
import Derived.Test.YtgkfdjfoakbibaaAstE
namespace Go.Proofs.Ytgkfdjfoakbibaa
open Go.RowKit SetP AstP
/-- As it was, but for two blocks (and new blocks). -/
structure Only2 (a b : Nat) (w w' : World) : Prop where
  os : w'.os = w.os
  tape : w'.tape = w.tape
  output : w'.output = w.output
  size : w.heap.size ≤ w'.heap.size
  block : ∀ k, k < w.heap.size → k ≠ a → k ≠ b → w'.heap[k]? = w.heap[k]?
theorem Only2.refl (a b : Nat) (w : World) : Only2 a b w w := ⟨rfl, rfl, rfl, Nat.le_refl _, fun _ _ _ _ => rfl⟩
theorem Only2.trans {a b : Nat} {u v w : World} (h : Only2 a b u v) (k : Only2 a b v w) : Only2 a b u w :=
  ⟨k.os.trans h.os, k.tape.trans h.tape, k.output.trans h.output, Nat.le_trans h.size k.size, fun i hi ha hb => (k.block i (Nat.lt_of_lt_of_le hi h.size) ha hb).trans (h.block i hi ha hb)⟩
theorem Only2.of {w w' : World} (a b : Nat) (h : Below w.heap.size w w') : Only2 a b w w' := ⟨h.os, h.tape, h.output, h.size, fun k hk _ _ => h.block k hk⟩
theorem Only2.call {a b : Nat} {u w w' : World} (h : Only2 a b u w) (k : Below w.heap.size w w') : Only2 a b u w' := h.trans (.of a b k)
theorem Only2.seta {a b : Nat} {u w : World} (h : Only2 a b u w) (i : Nat) (x : Value) : Only2 a b u (w.setCell ⟨a, i, none⟩ x) :=
  h.trans ⟨rfl, rfl, rfl, by simp [World.setCell], fun k _ ha _ => Below.heap_setCell _ _ _ _ ha⟩
theorem Only2.setb {a b : Nat} {u w : World} (h : Only2 a b u w) (i : Nat) (x : Value) : Only2 a b u (w.setCell ⟨b, i, none⟩ x) :=
  h.trans ⟨rfl, rfl, rfl, by simp [World.setCell], fun k _ _ hb => Below.heap_setCell _ _ _ _ hb⟩
theorem Slab.only2 {a b k : Nat} {w w' : World} {cs : Array Value} {t : TypeId} (h : Slab w k cs t) (ho : Only2 a b w w') (ha : k ≠ a) (hb : k ≠ b) : Slab w' k cs t := (ho.block k h.lt ha hb).trans h
theorem Only2.cell {a b g i : Nat} {w w' : World} (h : Only2 a b w w') (hg : g < w.heap.size) (ha : g ≠ a) (hb : g ≠ b) : w'.cell? ⟨g, i, none⟩ = w.cell? ⟨g, i, none⟩ := by
  have := h.block g hg ha hb
  simp [World.cell?, this]
theorem NodesAt.only2 {a b B : Nat} {w w' : World} {A : Option Addr} {L : List Nd} (h : NodesAt w B A L) (ho : Only2 a b w w') (ha : B ≤ a) (hb : B ≤ b) (hB : B ≤ w.heap.size) : NodesAt w' B A L := by
  obtain ⟨h1, h2⟩ := h
  refine ⟨h1, ?_⟩
  rcases h2 with h2 | ⟨b', off, rfl, hB', hc⟩
  · exact .inl h2
  · exact .inr ⟨b', off, rfl, hB', fun j hj f hf => (ho.cell (by omega) (by omega) (by omega)).trans (hc j hj f hf)⟩
/-- The four variables that the walk holds, and the row. -/
abbrev wkV (gl gn go gw : Nat) : Value := .func (.func 43) #[] #[.pointer (some ⟨gl, 0, none⟩), .pointer (some ⟨gn, 0, none⟩), .pointer (some ⟨go, 0, none⟩), .pointer (some ⟨gw, 0, none⟩)]
structure Env (w : World) (B gl gn go gw g : Nat) (A : Option Addr) (c : Nat) (L : List Nd) (s : Nat × List Nat) : Prop where
  l : Slab w gl #[.slice A L.length c] 37
  n : Slab w gn #[.int .i64 (s.1 : Int)] 3
  o : Slab w go #[.slice (some ⟨g, 0, none⟩) L.length L.length] 40
  f : Slab w gw #[wkV gl gn go gw] 54
  row : Slab w g (intsA s.2) 3
  len : s.2.length = L.length
  nodes : NodesAt w B A L
  lo : B ≤ gl ∧ B ≤ gn ∧ B ≤ go ∧ B ≤ gw ∧ B ≤ g
  apart : gl ≠ gn ∧ gl ≠ g ∧ go ≠ gn ∧ go ≠ g ∧ gw ≠ gn ∧ gw ≠ g ∧ gn ≠ g
theorem Env.call {w w' : World} {B gl gn go gw g : Nat} {A : Option Addr} {c : Nat} {L : List Nd} {s : Nat × List Nat} (h : Env w B gl gn go gw g A c L s) (hb : Below w.heap.size w w') : Env w' B gl gn go gw g A c L s :=
  ⟨h.l.call hb, h.n.call hb, h.o.call hb, h.f.call hb, h.row.call hb, h.len, h.nodes.below (hb.mono (Nat.le_trans h.lo.1 (Nat.le_of_lt h.l.lt))), h.lo, h.apart⟩
theorem Env.next {w w' : World} {B gl gn go gw g : Nat} {A : Option Addr} {c : Nat} {L : List Nd} {s s' : Nat × List Nat} (h : Env w B gl gn go gw g A c L s) (ho : Only2 gn g w w')
    (hn : Slab w' gn #[.int .i64 (s'.1 : Int)] 3) (hr : Slab w' g (intsA s'.2) 3) (hl : s'.2.length = s.2.length) : Env w' B gl gn go gw g A c L s' := by
  obtain ⟨a1, a2, a3, a4, a5, a6, a7⟩ := h.apart
  obtain ⟨l1, l2, l3, l4, l5⟩ := h.lo
  exact ⟨h.l.only2 ho a1 a2, hn, h.o.only2 ho a3 a4, h.f.only2 ho a5 a6, hr, hl.trans h.len, h.nodes.only2 ho l2 l5 (Nat.le_trans l1 (Nat.le_of_lt h.l.lt)), h.lo, h.apart⟩
def wkArgs (gl gn go gw : Nat) (i : Int) : Array Value := #[.int .i64 i, .pointer (some ⟨gl, 0, none⟩), .pointer (some ⟨gn, 0, none⟩), .pointer (some ⟨go, 0, none⟩), .pointer (some ⟨gw, 0, none⟩)]
theorem fold_take {α : Type} (h : α → Nat → α) (K : List Nat) (s : α) {t : Nat} (ht : t < K.length) : (K.take (t + 1)).foldl h s = h ((K.take t).foldl h s) (K.getD t 0) := by
  rw [List.take_add_one, List.getElem?_eq_getElem ht, List.foldl_append, List.getD_eq_getElem?_getD, List.getElem?_eq_getElem ht]; rfl
theorem fold_final (L : List Nd) (f : Nat) (K : List Nat) (s : Nat × List Nat) (t : Nat) : ((K.take t).foldl (fun s k => walkN L f k s) s).1 ≤ (K.foldl (fun s k => walkN L f k s) s).1 := by
  conv => rhs; rw [← List.take_append_drop t K, List.foldl_append]
  exact fold_mono L f _ _
set_option maxRecDepth 100000 in
set_option maxHeartbeats 2000000 in
theorem num_any (f : Nat) : ∀ (i : Nat) (w : World) (B gl gn go gw g : Nat) (A : Option Addr) (c : Nat) (L : List Nd) (s : Nat × List Nat), Env w B gl gn go gw g A c L s → formedF L = true → i < L.length → i < f → (walkN L f i s).1 ≤ 2000000000000 →
    Calls Try.prog 43 (wkArgs gl gn go gw i) w fun e w' => e = .returned (.tuple #[]) ∧ Env w' B gl gn go gw g A c L (walkN L f i s) ∧ Only2 gn g w w' := by
  induction f with
  | zero => intro i w B gl gn go gw g A c L s _ _ _ h; omega
  | succ f ih =>
    intro i w B gl gn go gw g A c L s hE hF hi hif hbd
    have HF := Lib.hid hF; clear hF
    have IH := Lib.hid ih; clear ih
    have HBD := Lib.hid hbd; clear hbd
    obtain ⟨b, off, rfl, hb, hn8⟩ := hE.nodes.node hi
    unfold Node8 at hn8
    obtain ⟨x, hx⟩ : ∃ x, L.getD i ndEmpty = x := ⟨_, rfl⟩
    rw [hx] at hn8
    have HX := Lib.hid hx; clear hx
    obtain ⟨n0, n1, n2, n3, n4, n5, n6, n7⟩ := hn8
    obtain ⟨cl, fl⟩ := hE.l.facts
    obtain ⟨cn, fn⟩ := hE.n.facts
    obtain ⟨co, fo⟩ := hE.o.facts
    have HE := Lib.hid hE
    have hlen := hE.nodes.1
    obtain ⟨N, hN⟩ : ∃ N, L.length = N := ⟨_, rfl⟩
    rw [hN] at hlen cl co
    have hiN : i < N := by omega
    have HN := Lib.hid hN
    clear hE hN
    unfold wkArgs
    cases h3 : (x.kind == 3) with
    | false =>
      have hv : visit L i s = s := by unfold visit grp; rw [HX.out, h3]; rfl
      obtain ⟨s1, hs1⟩ : ∃ s1, visit L i s = s1 := ⟨_, rfl⟩
      have HV := Lib.hid hs1
      have HE0 : Hid (Env w B gl gn go gw g (some ⟨b, off, none⟩) c L s1) := Lib.hid (by rw [← hs1, hv]; exact HE.out)
      have HO0 := Lib.hid (Only2.refl gn g w)
      clear hv hs1
      go_enter Try.func43, Try.ntmps43
      go_wp2_with fail
      have hnd := (HE0.out.nodes).more (show B ≤ (w).heap.size from Nat.le_trans HE0.out.lo.1 (Nat.le_of_lt HE0.out.l.lt))
      have CK := kids_any (some ⟨b, off, none⟩) c L i (w) hnd
      rw [HN.out] at CK
      have hklt := fun j hj => kidsF_lt (L := L) (k := i) (j := j) HF.out hi hj
      have hwN : walkN L (f + 1) i s = (kidsF L (i : Int)).foldl (fun s k => walkN L f k s) s1 := by rw [← HV.out]; rfl
      have hkl := kidsF_length HF.out hi
      have hat := formed_at HF.out hi
      have hstl := St_len (L := L) (k := i) (by omega)
      have hKb : (kidsF L (i : Int)).length ≤ N := by omega
      have HKLT := Lib.hid hklt
      have HWN := Lib.hid hwN
      obtain ⟨K, hK⟩ : ∃ K, kidsF L (i : Int) = K := ⟨_, rfl⟩
      rw [hK] at CK hKb HKLT HWN
      obtain ⟨M, hM⟩ : ∃ M, K.length = M := ⟨_, rfl⟩
      rw [hM] at CK hKb
      have HM := Lib.hid hM
      have hgn : gn < (w).heap.size := HE0.out.n.lt
      have hgg : g < (w).heap.size := HE0.out.row.lt
      clear hnd hklt hwN hkl hat hstl hK hM n0 n1 n2 n3 n4 n5 n6 n7 cl fl cn fn co fo h3
      refine CK.mono ?_
      rintro e3 w3 ⟨A3, c3, rfl, hrow, hb3⟩
      have hsrc : M = 0 ∨ ∃ g3, A3 = some ⟨g3, 0, none⟩ ∧ (w).heap.size ≤ g3 ∧ g3 < w3.heap.size ∧ ∀ j, j < M → w3.cell? ⟨g3, j, none⟩ = some (.int .i64 ((K.getD j 0 : Nat) : Int)) := by
        rcases rowInts hrow with ⟨_, h, _⟩ | ⟨g3, rfl, h1, _, h2⟩
        · exact .inl h
        · by_cases h0 : M = 0
          · exact .inl h0
          · exact .inr ⟨g3, rfl, h1, block_lt_of_cell (h2 0 (by omega)), h2⟩
      have HSRC := Lib.hid hsrc
      have HE3 := Lib.hid (HE0.out.call hb3)
      have HO3 := Lib.hid (HO0.out.call hb3)
      clear CK hrow hb3 hsrc
      go_wp2
      go_loopw [24] (fun j wr => ∃ t : Nat, t ≤ M ∧ j = .int .i64 t ∧ Env wr B gl gn go gw g (some ⟨b, off, none⟩) c L ((K.take t).foldl (fun s k => walkN L f k s) s1) ∧ Only2 gn g w wr ∧ Only2 gn g w3 wr) (fun j _ => M - (intOf j).toNat)
      case atStart => exact ⟨0, by omega, rfl, HE3.out, HO3.out, Only2.refl _ _ _⟩
      case round =>
        obtain ⟨t, ht, rfl, hE4, hO4, hO5⟩ := hrel
        rename World => w4
        have HE4 := Lib.hid hE4
        have HO4 := Lib.hid hO4; clear hO4
        have HO5 := Lib.hid hO5; clear hO5
        by_cases hlt : t < M
        · obtain ⟨g3, rfl, g3a, g3b, hc3⟩ : ∃ g3, A3 = some ⟨g3, 0, none⟩ ∧ (w).heap.size ≤ g3 ∧ g3 < w3.heap.size ∧ ∀ j, j < M → w3.cell? ⟨g3, j, none⟩ = some (.int .i64 ((K.getD j 0 : Nat) : Int)) := by
            rcases HSRC.out with h | h
            · omega
            · exact h
          have hck := (HO5.out.cell (i := t) g3b (by omega) (by omega)).trans (hc3 t hlt)
          obtain ⟨q, hq⟩ : ∃ q, K.getD t 0 = q := ⟨_, rfl⟩
          have hqi : q < i := HKLT.out q (by rw [← hq, List.getD_eq_getElem?_getD, List.getElem?_eq_getElem (by rw [HM.out]; exact hlt)]; exact List.getElem_mem _)
          rw [hq] at hck
          have hft := fold_take (fun s k => walkN L f k s) K s1 (t := t) (by rw [HM.out]; exact hlt)
          rw [hq] at hft
          have hfin := fold_final L f K s1 (t + 1)
          rw [← HWN.out, hft] at hfin
          have C4 := IH.out q w4 B gl gn go gw g (some ⟨b, off, none⟩) c L _ hE4 HF.out (by omega) (by omega) (Nat.le_trans hfin HBD.out)
          unfold wkArgs at C4
          have HFT := Lib.hid hft
          obtain ⟨cf, ff⟩ := hE4.f.facts
          generalize (K.take t).foldl (fun s k => walkN L f k s) s1 = st at *
          clear hc3 hq hft hfin hE4
          go_wp2_with fail
          refine C4.mono ?_
          rintro e5 w5 ⟨rfl, hE5, hO6⟩
          have HE5 := Lib.hid hE5
          have HO6 := Lib.hid hO6
          clear hE5 hO6 C4 cf ff hck
          go_wp2
          go_roundw
          case rel =>
            refine ⟨t + 1, by omega, by go_num, ?_, HO4.out.trans HO6.out, HO5.out.trans HO6.out⟩
            rw [HFT.out]; exact HE5.out
          case measure => simp [intOf]; omega
        · have htM : t = M := by omega
          have e : (K.take t).foldl (fun s k => walkN L f k s) s1 = walkN L (f + 1) i s := by rw [HWN.out, List.take_of_length_le (by rw [HM.out]; omega)]
          have hE5 := HE4.out
          rw [e] at hE5
          have HE5 := Lib.hid hE5
          clear hE4 hE5 e
          go_wp2
          first | go_end0 | refine bodyPost_ret (results_none rfl _ _ _) rfl ?_
          exact ⟨rfl, HE5.out, HO4.out⟩
    | true =>
      have hv : visit L i s = (s.1 + 1, s.2.set i (s.1 + 1)) := by unfold visit grp; rw [HX.out, h3]; rfl
      have hnb : s.1 + 1 ≤ 2000000000000 := by
        have h := HBD.out
        have h2 := fold_mono L f (kidsF L (i : Int)) (visit L i s)
        rw [hv] at h2
        rw [walkN, hv] at h
        simp at h2; omega
      obtain ⟨s1, hs1⟩ : ∃ s1, visit L i s = s1 := ⟨_, rfl⟩
      have HV := Lib.hid hs1
      have ap := HE.out.apart
      have hE0 : Env ((w.setCell ⟨gn, 0, none⟩ (.int .i64 ((s.1 : Int) + 1))).setCell ⟨g, i, none⟩ (.int .i64 ((s.1 : Int) + 1))) B gl gn go gw g (some ⟨b, off, none⟩) c L s1 := by
        refine HE.out.next (((Only2.refl gn g w).seta 0 _).setb i _) ?_ ?_ (by rw [← hs1, hv]; simp)
        · have := (HE.out.n.set 0 (.int .i64 ((s.1 : Int) + 1))).far (b := g) (i := i) ap.2.2.2.2.2.2 (.int .i64 ((s.1 : Int) + 1))
          rw [← hs1, hv]
          exact this
        · have := (HE.out.row.far (b := gn) (i := 0) (fun h => ap.2.2.2.2.2.2 h.symm) (.int .i64 ((s.1 : Int) + 1))).set i (.int .i64 ((s.1 : Int) + 1))
          rw [show ((s.1 : Int) + 1) = ((s.1 + 1 : Nat) : Int) from rfl, ints_put] at this
          rw [← hs1, hv]
          exact this
      have HE0 := Lib.hid hE0
      have HO0 := Lib.hid (((Only2.refl gn g w).seta 0 (.int .i64 ((s.1 : Int) + 1))).setb i (.int .i64 ((s.1 : Int) + 1)))
      have hlr : i < s.2.length := by rw [HE.out.len]; exact hi
      have hcr := (HE.out.row.cell i).trans (ints_get _ hlr)
      obtain ⟨cr, fr⟩ := HE.out.row.facts
      obtain ⟨a1, a2, a3, a4, a5, a6, a7⟩ := ap
      have b1 : ¬ g = gn := fun h => a7 h.symm
      have b2 : ¬ gn = go := fun h => a3 h.symm
      have b3 : ¬ gn = gl := fun h => a1 h.symm
      have b4 : ¬ g = gl := fun h => a2 h.symm
      have b5 : ¬ g = go := fun h => a4 h.symm
      generalize s.2.getD i 0 = z at *
      clear hv hs1 hE0 hlr cr
      go_enter Try.func43, Try.ntmps43
      go_wp2_with fail
      have hnd := (HE0.out.nodes).more (show B ≤ ((w.setCell ⟨gn, 0, none⟩ (.int .i64 ((s.1 : Int) + 1))).setCell ⟨g, i, none⟩ (.int .i64 ((s.1 : Int) + 1))).heap.size from Nat.le_trans HE0.out.lo.1 (Nat.le_of_lt HE0.out.l.lt))
      have CK := kids_any (some ⟨b, off, none⟩) c L i ((w.setCell ⟨gn, 0, none⟩ (.int .i64 ((s.1 : Int) + 1))).setCell ⟨g, i, none⟩ (.int .i64 ((s.1 : Int) + 1))) hnd
      rw [HN.out] at CK
      have hklt := fun j hj => kidsF_lt (L := L) (k := i) (j := j) HF.out hi hj
      have hwN : walkN L (f + 1) i s = (kidsF L (i : Int)).foldl (fun s k => walkN L f k s) s1 := by rw [← HV.out]; rfl
      have hkl := kidsF_length HF.out hi
      have hat := formed_at HF.out hi
      have hstl := St_len (L := L) (k := i) (by omega)
      have hKb : (kidsF L (i : Int)).length ≤ N := by omega
      have HKLT := Lib.hid hklt
      have HWN := Lib.hid hwN
      obtain ⟨K, hK⟩ : ∃ K, kidsF L (i : Int) = K := ⟨_, rfl⟩
      rw [hK] at CK hKb HKLT HWN
      obtain ⟨M, hM⟩ : ∃ M, K.length = M := ⟨_, rfl⟩
      rw [hM] at CK hKb
      have HM := Lib.hid hM
      have hgn : gn < ((w.setCell ⟨gn, 0, none⟩ (.int .i64 ((s.1 : Int) + 1))).setCell ⟨g, i, none⟩ (.int .i64 ((s.1 : Int) + 1))).heap.size := HE0.out.n.lt
      have hgg : g < ((w.setCell ⟨gn, 0, none⟩ (.int .i64 ((s.1 : Int) + 1))).setCell ⟨g, i, none⟩ (.int .i64 ((s.1 : Int) + 1))).heap.size := HE0.out.row.lt
      clear hnd hklt hwN hkl hat hstl hK hM n0 n1 n2 n3 n4 n5 n6 n7 cl fl cn fn co fo h3
      refine CK.mono ?_
      rintro e3 w3 ⟨A3, c3, rfl, hrow, hb3⟩
      have hsrc : M = 0 ∨ ∃ g3, A3 = some ⟨g3, 0, none⟩ ∧ ((w.setCell ⟨gn, 0, none⟩ (.int .i64 ((s.1 : Int) + 1))).setCell ⟨g, i, none⟩ (.int .i64 ((s.1 : Int) + 1))).heap.size ≤ g3 ∧ g3 < w3.heap.size ∧ ∀ j, j < M → w3.cell? ⟨g3, j, none⟩ = some (.int .i64 ((K.getD j 0 : Nat) : Int)) := by
        rcases rowInts hrow with ⟨_, h, _⟩ | ⟨g3, rfl, h1, _, h2⟩
        · exact .inl h
        · by_cases h0 : M = 0
          · exact .inl h0
          · exact .inr ⟨g3, rfl, h1, block_lt_of_cell (h2 0 (by omega)), h2⟩
      have HSRC := Lib.hid hsrc
      have HE3 := Lib.hid (HE0.out.call hb3)
      have HO3 := Lib.hid (HO0.out.call hb3)
      clear CK hrow hb3 hsrc
      go_wp2
      go_loopw [24] (fun j wr => ∃ t : Nat, t ≤ M ∧ j = .int .i64 t ∧ Env wr B gl gn go gw g (some ⟨b, off, none⟩) c L ((K.take t).foldl (fun s k => walkN L f k s) s1) ∧ Only2 gn g w wr ∧ Only2 gn g w3 wr) (fun j _ => M - (intOf j).toNat)
      case atStart => exact ⟨0, by omega, rfl, HE3.out, HO3.out, Only2.refl _ _ _⟩
      case round =>
        obtain ⟨t, ht, rfl, hE4, hO4, hO5⟩ := hrel
        rename World => w4
        have HE4 := Lib.hid hE4
        have HO4 := Lib.hid hO4; clear hO4
        have HO5 := Lib.hid hO5; clear hO5
        by_cases hlt : t < M
        · obtain ⟨g3, rfl, g3a, g3b, hc3⟩ : ∃ g3, A3 = some ⟨g3, 0, none⟩ ∧ ((w.setCell ⟨gn, 0, none⟩ (.int .i64 ((s.1 : Int) + 1))).setCell ⟨g, i, none⟩ (.int .i64 ((s.1 : Int) + 1))).heap.size ≤ g3 ∧ g3 < w3.heap.size ∧ ∀ j, j < M → w3.cell? ⟨g3, j, none⟩ = some (.int .i64 ((K.getD j 0 : Nat) : Int)) := by
            rcases HSRC.out with h | h
            · omega
            · exact h
          have hck := (HO5.out.cell (i := t) g3b (by omega) (by omega)).trans (hc3 t hlt)
          obtain ⟨q, hq⟩ : ∃ q, K.getD t 0 = q := ⟨_, rfl⟩
          have hqi : q < i := HKLT.out q (by rw [← hq, List.getD_eq_getElem?_getD, List.getElem?_eq_getElem (by rw [HM.out]; exact hlt)]; exact List.getElem_mem _)
          rw [hq] at hck
          have hft := fold_take (fun s k => walkN L f k s) K s1 (t := t) (by rw [HM.out]; exact hlt)
          rw [hq] at hft
          have hfin := fold_final L f K s1 (t + 1)
          rw [← HWN.out, hft] at hfin
          have C4 := IH.out q w4 B gl gn go gw g (some ⟨b, off, none⟩) c L _ hE4 HF.out (by omega) (by omega) (Nat.le_trans hfin HBD.out)
          unfold wkArgs at C4
          have HFT := Lib.hid hft
          obtain ⟨cf, ff⟩ := hE4.f.facts
          generalize (K.take t).foldl (fun s k => walkN L f k s) s1 = st at *
          clear hc3 hq hft hfin hE4
          go_wp2_with fail
          refine C4.mono ?_
          rintro e5 w5 ⟨rfl, hE5, hO6⟩
          have HE5 := Lib.hid hE5
          have HO6 := Lib.hid hO6
          clear hE5 hO6 C4 cf ff hck
          go_wp2
          go_roundw
          case rel =>
            refine ⟨t + 1, by omega, by go_num, ?_, HO4.out.trans HO6.out, HO5.out.trans HO6.out⟩
            rw [HFT.out]; exact HE5.out
          case measure => simp [intOf]; omega
        · have htM : t = M := by omega
          have e : (K.take t).foldl (fun s k => walkN L f k s) s1 = walkN L (f + 1) i s := by rw [HWN.out, List.take_of_length_le (by rw [HM.out]; omega)]
          have hE5 := HE4.out
          rw [e] at hE5
          have HE5 := Lib.hid hE5
          clear hE4 hE5 e
          go_wp2
          first | go_end0 | refine bodyPost_ret (results_none rfl _ _ _) rfl ?_
          exact ⟨rfl, HE5.out, HO4.out⟩
end Go.Proofs.Ytgkfdjfoakbibaa
