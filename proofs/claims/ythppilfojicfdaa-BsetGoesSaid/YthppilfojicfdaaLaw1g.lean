/- BsetGoes, walked. -/
import Derived.Test.YthppilfojicfdaaProg
import Derived.WalkKit
import Derived.WalkSpells
import Derived.WalkLawsBesides
import Derived.Handy
import Derived.Lib.Hide
import Derived.RangeFuncBox
import Derived.Maps.OwnIn
import Derived.Test.YthppilfojicfdaaBsetC
import Derived.Test.YthppilfojicfdaaRefC
import Derived.Test.YthppilfojicfdaaEqA
import Derived.Test.YthppilfojicfdaaLaw1
import Derived.Test.YthppilfojicfdaaMem3
import Derived.Deep.QuietTactic
import Derived.Deep.RegionHeld3
import Derived.BigQuiet
namespace Go.Proofs.Ythppilfojicfdaa
open Go.RowKit Go.Shelf SetP
attribute [local go_sem] Oper.semAt_some run_eq2
theorem bytesF_le (f : Nat → Bool) : (bytesF f).length ≤ 256 := upto_length f 256
theorem run_eq_nilFunc {P : Program} (d : Nat) (w : World) (t : TypeId) (a b : Array TypeId) (c : Bool) (fn : Fn) (lb : Array Value) (h : P.underlying t = some (.func a b c)) : (Op.equalIn (d + 1) t (.func fn #[] lb) .nilFunc).run P w = .ok false w := by
  unfold Op.equalIn
  simp only [Sem.run_bind, run_underlying h, Result.andThen_ok]
  rfl
theorem run_func_nil {P : Program} (w : World) (t : TypeId) (a b : Array TypeId) (c : Bool) (fn : Fn) (lb : Array Value) (h : P.underlying t = some (.func a b c)) : (binOp .eql t (.func fn #[] lb) .nilFunc).run P w = .ok (.bool false) w := by
  have e := run_eq_nilFunc 9999 w t a b c fn lb h
  show ((do pure (Value.bool (← Op.equalIn (9999 + 1) t (.func fn #[] lb) .nilFunc)) : Sem Value)).run P w = _
  rw [Sem.run_bind, e]
  rfl
theorem seq_under : ∃ a b c, Try.prog.underlying 28 = some (.func a b c) := ⟨_, _, _, Try.underlying28⟩
theorem slab_keep {W W' : World} {row : Option Nat} {g : Nat} {cs : Array Value} {t : TypeId} (h : Slab W g cs t) (hg : W.grownBy W' row) (hr : ∀ r, row = some r → ∃ o : Obj, W.heap[r]? = some o ∧ o.isCells = false) : Slab W' g cs t :=
  h.grown hg (fun e => by
    obtain ⟨o, ho, hc⟩ := hr g e.symm
    unfold Slab at h; rw [h] at ho; cases ho; simp [Obj.isCells] at hc)
theorem row_keep {W W' : World} {row : Option Nat} {base : Nat} {e : TypeId} {size : Nat} {v : Value} {n : Nat} {xs : List Value} (h : W.ownsRow base e size v n xs) (hg : W.grownBy W' row) (hr : ∀ r, row = some r → ∃ o : Obj, W.heap[r]? = some o ∧ o.isCells = false) : W'.ownsRow base e size v n xs := by
  refine h.kept hg ?_
  rcases h.2 with ⟨rfl, _⟩ | ⟨g, cap, cur, rfl, _, hgb, _⟩
  · exact .inl rfl
  · refine .inr fun e' => ?_
    obtain ⟨o, ho, hc⟩ := hr g (by simpa [Value.ownBlock] using e'.symm)
    rw [hgb] at ho; cases ho; cases hc
theorem slab_off {W : World} {g : Nat} {cs : Array Value} {t e : TypeId} (h : Slab W g cs t) (hte : t ≠ e) {base size k : Nat} {v : Value} {xs : List Value} (hr : W.ownsRow base e size v k xs) : some g ≠ v.ownBlock := by
  rcases hr.2 with ⟨rfl, _⟩ | ⟨g', cap, cur, rfl, _, hgb, _⟩
  · simp [Value.ownBlock]
  · intro e'
    obtain rfl : g = g' := by simpa [Value.ownBlock] using e'
    have := (show W.heap[g]? = _ from h).symm.trans hgb
    simp at this
    exact hte this.2
/-- What stands between two rounds of the first range. -/
structure Got (w : World) (p : Nat) (f : Nat → Bool) (A1 : Option Addr) (n c1 : Nat) (pre : List Int) (W : World) : Prop where
  got : ∃ A c, Slab W (p + 1) #[.slice A pre.length c] 25 ∧ W.ownsRow w.heap.size 5 1 (.slice A pre.length c) pre.length (pre.map (Value.int .u8)) ∧ Apart (.slice A pre.length c) (.slice A1 n c1)
  set : Slab W w.heap.size (cells4 f) 24
  res : Slab W (w.heap.size + 1) #[.bool false] 4
  want : Slab W p #[.slice A1 n c1] 25
  row : W.ownsRow w.heap.size 5 1 (.slice A1 n c1) n ((bytesF f).map (Value.int .u8))
  it : Slab W (p + 1 + 1 + 1) (cells4 f) 24
  below : Below w.heap.size w W
theorem Got.keep {w : World} {p : Nat} {f : Nat → Bool} {A1 : Option Addr} {n c1 B : Nat} (hB : w.heap.size ≤ B) : OwnFrom B (Got w p f A1 n c1) := fun pre W W' row h hg hr => by
  have hr' : ∀ r, row = some r → ∃ o : Obj, W.heap[r]? = some o ∧ o.isCells = false := fun r e => (hr r e).2
  obtain ⟨A, c, h1, h2, h3⟩ := h.got
  exact ⟨⟨A, c, slab_keep h1 hg hr', row_keep h2 hg hr', h3⟩, slab_keep h.set hg hr', slab_keep h.res hg hr', slab_keep h.want hg hr', row_keep h.row hg hr', slab_keep h.it hg hr', h.below.grown hg h.below.size fun k e => Nat.le_trans hB (hr k e).1⟩
theorem Got.step {w : World} {p : Nat} {f : Nat → Bool} {A1 : Option Addr} {n c1 : Nat} {pre : List Int} {W W3 : World} {x : Int} {A A' : Option Addr} {c c' : Nat} (hpw : w.heap.size + 1 < p) (hG : Got w p f A1 n c1 pre W) (hgot : Slab W (p + 1) #[.slice A pre.length c] 25)
    (hrow : W.ownsRow w.heap.size 5 1 (.slice A pre.length c) pre.length (pre.map (Value.int .u8))) (hap : Apart (.slice A pre.length c) (.slice A1 n c1))
    (hgr : (W.alloc (.cells #[.int .u8 x] 5)).grownBy W3 (Value.slice A pre.length c).ownBlock)
    (hat : (Value.slice A' (pre.length + 1) c').ownBlock = (Value.slice A pre.length c).ownBlock ∨ (Value.slice A' (pre.length + 1) c').ownBlock = some (W.alloc (.cells #[.int .u8 x] 5)).heap.size)
    (b1 : Boxed W3 (p + 1) 25 (.slice A pre.length c)) (b2 : Boxed (W3.setCell ⟨p + 1, 0, none⟩ (.slice A' (pre.length + 1) c')) (p + 1) 25 (.slice A' (pre.length + 1) c'))
    (b3 : (W3.setCell ⟨p + 1, 0, none⟩ (.slice A' (pre.length + 1) c')).ownsRow w.heap.size 5 1 (.slice A' (pre.length + 1) c') (pre.length + 1) (pre.map (Value.int .u8) ++ [.int .u8 x]))
    (b5 : Below w.heap.size W (W3.setCell ⟨p + 1, 0, none⟩ (.slice A' (pre.length + 1) c'))) :
    KeepBlk (p + 1 + 1 + 1) W (W3.setCell ⟨p + 1, 0, none⟩ (.slice A' (pre.length + 1) c')) ∧ Got w p f A1 n c1 (pre ++ [x]) (W3.setCell ⟨p + 1, 0, none⟩ (.slice A' (pre.length + 1) c')) := by
  have keep : ∀ {g : Nat} {cs : Array Value} {t : TypeId}, Slab W g cs t → t ≠ 5 → g ≠ p + 1 → Slab (W3.setCell ⟨p + 1, 0, none⟩ (.slice A' (pre.length + 1) c')) g cs t := fun h ht hg =>
    (Slab.grown (h.alloc _) hgr (slab_off h ht hrow)).far hg _
  have hit := keep hG.it (by decide) (by omega)
  have hl : (pre ++ [x]).length = pre.length + 1 := by simp
  have hw3 : W3.ownsRow w.heap.size 5 1 (.slice A1 n c1) n ((bytesF f).map (Value.int .u8)) := by
    refine (hG.row.alloc _).kept hgr ?_
    cases h : (Value.slice A1 n c1).ownBlock with
    | none => exact .inl rfl
    | some k => exact .inr fun e => hap k e.symm h
  have hsz : ∀ k, (Value.slice A1 n c1).ownBlock = some k → k < W.heap.size := fun k hk => (hG.row.lt k hk).2
  refine ⟨hit.trans hG.it.symm, ⟨⟨A', c', ?_, ?_, ?_⟩, keep hG.set (by decide) (by omega), keep hG.res (by decide) (by omega), keep hG.want (by decide) (by omega), ?_, hit, hG.below.trans b5⟩⟩
  · rw [hl]; exact b2
  · rw [hl, List.map_append]; exact b3
  · intro k hk hk1
    rw [hl] at hk
    rcases hat with e | e
    · rw [e] at hk; exact hap k hk hk1
    · rw [e] at hk
      have := hsz k hk1
      cases hk
      simp at this
      omega
  · exact hw3.kept (grownBy_setCell' W3 (p + 1) _) (.inr (slab_off (t := 25) b1 (by decide) hw3).symm)
/-- What stands behind the first range. -/
structure Fin2 (w : World) (p : Nat) (f : Nat → Bool) (A A1 : Option Addr) (n c c1 D q : Nat) (W : World) : Prop where
  got : Slab W (p + 1) #[.slice A n c] 25
  grow : W.ownsRow w.heap.size 5 1 (.slice A n c) n ((bytesF f).map (Value.int .u8))
  set : Slab W w.heap.size (cells4 f) 24
  res : Slab W (w.heap.size + 1) #[.bool false] 4
  want : Slab W p #[.slice A1 n c1] 25
  row : W.ownsRow w.heap.size 5 1 (.slice A1 n c1) n ((bytesF f).map (Value.int .u8))
  it : Slab W q (cells4 f) 24
  mark : W.heap[D]? = some (.deferred (some []))
  below : Below w.heap.size w W
theorem Fin2.keep {w : World} {p : Nat} {f : Nat → Bool} {A A1 : Option Addr} {n c c1 D q B : Nat} {W W' : World} {row : Option Nat} (hB : w.heap.size ≤ B) (hD : D < B) (h : Fin2 w p f A A1 n c c1 D q W) (hg : W.grownBy W' row)
    (hr : ∀ r, row = some r → B ≤ r ∧ ∃ o : Obj, W.heap[r]? = some o ∧ o.isCells = false) : Fin2 w p f A A1 n c c1 D q W' := by
  have hr' : ∀ r, row = some r → ∃ o : Obj, W.heap[r]? = some o ∧ o.isCells = false := fun r e => (hr r e).2
  have hDl : D < W.heap.size := (Array.getElem?_eq_some_iff.1 h.mark).1
  exact ⟨slab_keep h.got hg hr', row_keep h.grow hg hr', slab_keep h.set hg hr', slab_keep h.res hg hr', slab_keep h.want hg hr', row_keep h.row hg hr', slab_keep h.it hg hr',
    (hg.block D hDl (fun e => by have := (hr D e.symm).1; omega)).trans h.mark, h.below.grown hg h.below.size fun k e => Nat.le_trans hB (hr k e).1⟩
theorem Fin2.call {w : World} {p : Nat} {f : Nat → Bool} {A A1 : Option Addr} {n c c1 D q : Nat} {W W' : World} (h : Fin2 w p f A A1 n c c1 D q W) (hb : Below W.heap.size W W') : Fin2 w p f A A1 n c c1 D q W' :=
  h.keep (B := W.heap.size) h.below.size (Array.getElem?_eq_some_iff.1 h.mark).1 (below_grown hb none) (fun r e => by cases e)
theorem Fin2.drewN {w : World} {p : Nat} {f : Nat → Bool} {A A1 : Option Addr} {n c c1 D q : Nat} {W : World} (h : Fin2 w p f A A1 n c c1 D q W) (k : Nat) : Fin2 w p f A A1 n c c1 D q (W.drewN k) :=
  ⟨h.got, h.grow, h.set, h.res, h.want, h.row, h.it, h.mark, below_drewN h.below k⟩
theorem mark_call {D : Nat} {W W' : World} (h : W.heap[D]? = some (.deferred (some []))) (hb : Below W.heap.size W W') : W'.heap[D]? = some (.deferred (some [])) := (hb.block D (Array.getElem?_eq_some_iff.1 h).1).trans h
/-- A row of runs, read. -/
def RunsAt (W : World) (A : Option Addr) (m : Nat) (R : List (Int × Int)) : Prop := 0 < m → ∃ q cur, A = some ⟨q, 0, none⟩ ∧ Slab W q cur 32 ∧ ∀ j, j < m * 2 → cur[j]? = (pairCells R)[j]?
theorem RunsAt.of {W : World} {base m c : Nat} {A : Option Addr} {R : List (Int × Int)} (h : W.ownsRow base 32 2 (.slice A m c) m (pairCells R)) : RunsAt W A m R := by
  intro h0
  obtain ⟨q, cur, rfl, _, _, hs, _, ht⟩ := row_at h h0
  refine ⟨q, cur, rfl, hs, fun j hj => ?_⟩
  rw [← ht, List.getElem?_take_of_lt (by omega)]; simp
theorem RunsAt.call {W W' : World} {A : Option Addr} {m : Nat} {R : List (Int × Int)} (h : RunsAt W A m R) (hb : Below W.heap.size W W') : RunsAt W' A m R := fun h0 => by
  obtain ⟨q, cur, e, hs, hc⟩ := h h0
  exact ⟨q, cur, e, hs.call hb, hc⟩
theorem RunsAt.drewN {W : World} {A : Option Addr} {m : Nat} {R : List (Int × Int)} (h : RunsAt W A m R) (k : Nat) : RunsAt (W.drewN k) A m R := h
theorem bytesF_bd (f : Nat → Bool) (z : Int) (h : z ∈ bytesF f) : 0 ≤ z ∧ z < 256 := by
  have := (mem_upto f 256 z).1 h
  omega
theorem slab_two {W : World} {g h : Nat} {cs ds : Array Value} {t u : TypeId} (a : Slab W g cs t) (b : Slab W h ds u) (hte : t ≠ u) : g ≠ h := by
  rintro rfl
  have := (show W.heap[g]? = _ from a).symm.trans b
  simp at this
  exact hte this.2
def txtB (l : List Int) : ByteArray := ⟨(l.map fun z => UInt8.ofNat z.toNat).toArray⟩
theorem conv_row {f : Nat → Bool} {n : Nat} (g c : Nat) (cur : Array Value) (hn : (bytesF f).length = n) (hcur : ∀ j, j < n → cur[j]? = ((bytesF f).map (Value.int .u8))[j]?) (w : World) (hc : ∀ i, w.cell? ⟨g, i, none⟩ = cur[i]?) :
    (convert 25 9 (.slice (some ⟨g, 0, none⟩) n c)).run Try.prog w = .ok (.string (txtB (bytesF f))) w := by
  have hl : ((bytesF f).map fun z => UInt8.ofNat z.toNat).length = n := by rw [List.length_map, hn]
  subst hn
  have h := run_convert_bytes_back (P := Try.prog) w 25 9 5 ⟨g, 0, none⟩ c ((bytesF f).map fun z => UInt8.ofNat z.toNat) Try.underlying25 Try.underlying5 Try.underlying9 (fun j hj => by
    have hj' : j < (bytesF f).length := by simpa using hj
    have e : ((⟨g, 0, none⟩ : Addr).add j) = ⟨g, j, none⟩ := by rw [Addr.add_lit, Nat.zero_add]
    rw [e, hc, hcur j hj', List.getElem?_map, List.getElem?_eq_getElem hj']
    have hb := bytesF_bd f _ (List.getElem_mem hj')
    simp only [Option.map_some, List.getElem_map]
    rw [UInt8.toNat_ofNat_of_lt' (by simp; omega)]
    congr 2
    omega)
  rw [hl] at h
  exact h
theorem conv_none (A : Option Addr) (c : Nat) (w : World) : (convert 25 9 (.slice A 0 c)).run Try.prog w = .ok (.string ⟨#[]⟩) w := by
  rw [run_convert_bytes_string w 25 9 5 _ 0 c Try.underlying25 Try.underlying5 Try.underlying9]
  cases A <;> simp [Conv.bytesToString, loadCells]
  all_goals rfl
/-- How the second range ends: by its break, or, had the byte not been the first one, by its return. -/
def Ended (f : Nat → Bool) (G : World → Prop) (c : Code) (pre : List Int) (W : World) : Prop := (c = .exit 2 ∧ 0 < (bytesF f).length ∧ G W) ∨ (c = .ret ∧ ¬ pre <+: bytesF f)
set_option maxRecDepth 100000 in
set_option maxHeartbeats 2000000 in
theorem goes_any (f : Nat → Bool) (from_ : Int) (hf0 : -9223372036854775808 ≤ from_) (hf1 : from_ ≤ 9223372036854775807) (w : World) :
    Calls Try.prog 3 #[setV f, .int .i64 from_] w fun e w' => e = .returned (.bool true) ∧ Below w.heap.size w w' := by
  obtain ⟨i0, hi, hz0, hz1, hz2⟩ := info_parts info_byte
  have HI := Lib.hid hi; clear hi
  have HZ0 := Lib.hid hz0; clear hz0
  have HZ1 := Lib.hid hz1; clear hz1
  have HZ2 := Lib.hid hz2; clear hz2
  refine (callsIn_wide (n := 6)).1 ?_
  refine callsIn_of_wp_marks Try.func3 rfl trivial ?_ rfl
  simp only [Try.ntmps3, List.size_toArray, List.length_cons, List.length_nil, Nat.reduceAdd, Nat.reduceSub, Array.replicate_succ, Array.replicate_zero, List.push_toArray, List.append_toArray, List.nil_append, List.cons_append]
  have o0 : Slab ((w.alloc (.cells (cells4 f) 24)).alloc (.cells #[.bool false] 4)) w.heap.size (cells4 f) 24 := (Slab.new _ _ _).alloc _
  have r0 : Slab ((w.alloc (.cells (cells4 f) 24)).alloc (.cells #[.bool false] 4)) (w.heap.size + 1) #[.bool false] 4 := Slab.newAt _ _ _ (by simp)
  have HB0 : Hid (Below w.heap.size w ((w.alloc (.cells (cells4 f) 24)).alloc (.cells #[.bool false] 4))) := Lib.hid (by (repeat' (first | (with_reducible exact Below.refl _ _) | (with_reducible assumption) | (with_reducible refine Below.alloc ?_ ?_ _) | (with_reducible refine Below.drew ?_) | (with_reducible refine below_set ?_ ?_ _) | (with_reducible refine below_call ?_ ?_ (by assumption)) | (with_reducible exact Below.size (by assumption)) | omega | go_size)))
  gi_wp2_with fail
  refine ⟨trivial, (callsIn_wide.2 (rall_any f _)).mono ?_⟩
  rintro e1 w1 ⟨A1, c1, rfl, hrow1, hb1⟩
  have o1 := o0.call hb1
  have r1 := r0.call hb1
  have HB1 := Lib.hid (below_then HB0.out hb1)
  obtain ⟨n, hn⟩ : ∃ n, (bytesF f).length = n := ⟨_, rfl⟩
  rw [hn] at hrow1 ⊢
  have hn256 : n ≤ 256 := by rw [← hn]; exact bytesF_le f
  have HN := Lib.hid hn
  have hrow1' := hrow1
  rw [show ((w.alloc (.cells (cells4 f) 24)).alloc (.cells #[.bool false] 4)).heap.size = w.heap.size + 1 + 1 by simp] at hrow1'
  have HR1 : Hid (w1.ownsRow w.heap.size 5 1 (.slice A1 n c1) n ((bytesF f).map (Value.int .u8))) := Lib.hid (row_mono hrow1' (by omega))
  have o2 := (o1.alloc (.cells #[.slice A1 n c1] 25)).alloc (.cells #[.slice none 0 0] 25)
  have r2 := (r1.alloc (.cells #[.slice A1 n c1] 25)).alloc (.cells #[.slice none 0 0] 25)
  have v2 : Slab ((w1.alloc (.cells #[.slice A1 n c1] 25)).alloc (.cells #[.slice none 0 0] 25)) w1.heap.size #[.slice A1 n c1] 25 := (Slab.new _ _ _).alloc _
  have g2 : Slab ((w1.alloc (.cells #[.slice A1 n c1] 25)).alloc (.cells #[.slice none 0 0] 25)) (w1.heap.size + 1) #[.slice none 0 0] 25 := Slab.newAt _ _ _ (by simp)
  have HR2 := Lib.hid ((HR1.out.alloc (.cells #[.slice A1 n c1] 25)).alloc (.cells #[.slice none 0 0] 25))
  have HB2 := Lib.hid ((HB1.out.alloc HB1.out.size (.cells #[.slice A1 n c1] 25)).alloc (HB1.out.alloc HB1.out.size (.cells #[.slice A1 n c1] 25)).size (.cells #[.slice none 0 0] 25))
  have hne : w.heap.size + 1 < w1.heap.size := r1.lt
  obtain ⟨k1, f1⟩ := o2.facts
  clear o0 r0 HB0 hb1 hrow1 hrow1' hn o1 r1 HR1 HB1
  gi_wp2_with fail
  refine ⟨trivial, (callsIn_wide.2 (all_any f _)).mono ?_⟩
  rintro e3 w3 ⟨rfl, hw3⟩
  have o3 := o2.alloc (.cells (cells4 f) 24)
  have r3 := r2.alloc (.cells (cells4 f) 24)
  have v3 := v2.alloc (.cells (cells4 f) 24)
  have g3 := g2.alloc (.cells (cells4 f) 24)
  have hr3 := HR2.out.alloc (.cells (cells4 f) 24)
  have hb3 := HB2.out.alloc HB2.out.size (.cells (cells4 f) 24)
  have hs3 : w3.heap.size = w1.heap.size + 1 + 1 + 1 := by rw [hw3]; simp
  rw [← hw3] at o3 r3 v3 g3 hr3 hb3
  have HR3 := Lib.hid hr3
  have HB3 := Lib.hid hb3
  clear hw3 o2 r2 v2 g2 HR2 HB2 k1 f1 hr3 hb3
  obtain ⟨k1, f1⟩ := o3.facts
  obtain ⟨ta, tb, tc, hfu⟩ := seq_under
  have hfn := fun (lb : Array Value) (w : World) => run_func_nil (P := Try.prog) w 28 ta tb tc (.func 53) lb hfu
  clear hfu
  gi_wp2_with fail
  refine ⟨trivial, (callsIn_wide.2 (all_any f _)).mono ?_⟩
  rintro e4 w4 ⟨rfl, hw4⟩
  have o4 := o3.alloc (.cells (cells4 f) 24)
  have r4 := r3.alloc (.cells (cells4 f) 24)
  have v4 := v3.alloc (.cells (cells4 f) 24)
  have g4 := g3.alloc (.cells (cells4 f) 24)
  have s4 : Slab (w3.alloc (.cells (cells4 f) 24)) w3.heap.size (cells4 f) 24 := Slab.new _ _ _
  have hr4 := HR3.out.alloc (.cells (cells4 f) 24)
  have hb4 := HB3.out.alloc HB3.out.size (.cells (cells4 f) 24)
  have hs4 : w4.heap.size = w3.heap.size + 1 := by rw [hw4]; simp
  rw [← hw4] at o4 r4 v4 g4 hr4 hb4 s4
  have HR4 := Lib.hid hr4
  have HB4 := Lib.hid hb4
  clear hw4 o3 r3 v3 g3 HR3 HB3 k1 f1 hr4 hb4
  obtain ⟨k1, f1⟩ := o4.facts
  gi_wp2_with fail
  have hpw : w.heap.size ≤ w1.heap.size := by omega
  obtain ⟨p, hp⟩ : ∃ p, w1.heap.size = p := ⟨_, rfl⟩
  rw [hs3, hp] at s4
  rw [hp] at v4 g4 hs3 hne hpw ⊢
  have hG0 : Got w p f A1 n c1 [] w4 := ⟨⟨none, 0, g4, World.ownsRow_nil _ _ _ _, fun k hk => by cases hk⟩, o4, r4, v4, HR4.out, s4, HB4.out⟩
  have HS4 : Hid (w4.heap.size = p + 1 + 1 + 1 + 1) := Lib.hid (by omega)
  clear o4 r4 v4 g4 s4 HR4 HB4 k1 f1 hp
  refine' wpIn_rangeFunc_ownF rfl (by omega) (gf := 53) (lb := #[.pointer (some ⟨p + 1 + 1 + 1, 0, none⟩)]) rfl trivial (enters_of Try.func53 (by kernel_rfl) rfl)
    (all_stops 5 (p + 1 + 1 + 1) (by omega) f _ hG0.it) keepBlk_t (keepBlk_b (by omega)) (Below.refl _ _) (fun _ => rfl)
    (Got w p f A1 n c1) (fun _ _ _ => False) (Got.keep (by omega)) (fun _ _ _ _ _ hs _ _ => hs) hG0 _ ?assign ?body ?done ?stop
  case assign =>
    intro l x W K hK
    gi_wp2
    exact hK
  case body =>
    rintro l pre x W hG hlen
    obtain ⟨A, c, hgot, hrow, hap⟩ := hG.got
    have HG := Lib.hid hG
    have hbase := hG.below.size
    have hplt := hgot.lt
    have d1 : decide ((256 : Int) < ((pre.length + 1 : Nat) : Int)) = false := by simp; omega
    have d2 : decide ((256 : Int) < (pre.length : Int) + 1) = false := by simp; omega
    obtain ⟨cg, fg⟩ := hgot.facts
    clear hG
    gi_wp2_with (first
      | (gi_at_builtin; refine wpListIn_append_own_at _ rfl (.tmp 20) (.tmp 22) 25 rfl w.heap.size 5 i0 (.int .u8 0) 1 1 Try.underlying25 HI.out HZ0.out HZ1.out HZ2.out rfl (by decide) _ _ _ rfl (hrow.alloc _) ⟨W.heap.size, 0, none⟩ 1 1 [.int .u8 x] rfl rfl (cell_one_new _ _ _) (by simp [Value.oneCell']) (by unfold maxLen; omega) (by omega) (by simp; omega) ?_; intro v' W3 hown' hgr' hnil' hat'
         obtain ⟨A', c', rfl⟩ := row_shape hown'
         obtain ⟨b1, b2, b3, b4, b5⟩ := Boxed.appended hgot (by decide) hrow hbase (by omega) hown' hgr'
         obtain ⟨ck, fk⟩ := Slab.facts b1)
      | gi_in)
    exact ⟨b4, Got.step hne HG.out hgot hrow hap hgr' hat' b1 b2 b3 b5⟩
  case done =>
    rintro D ys W hD rfl hG hK
    obtain ⟨A, c, hgot, hrow, hap⟩ := hG.got
    have HG := Lib.hid hG
    obtain ⟨k1, f1⟩ := hG.set.facts
    clear hG
    gi_wp2_with fail
    refine ⟨trivial, (callsIn_wide.2 (all_any f _)).mono ?_⟩
    rintro e5 w5 ⟨rfl, hw5⟩
    rw [HN.out] at hgot hrow hap
    have hDl : D < W.heap.size := (Array.getElem?_eq_some_iff.1 hK).1
    have hF0 : Fin2 w p f A A1 n c c1 D W.heap.size w5 := by
      rw [hw5]
      exact ⟨hgot.alloc _, hrow.alloc _, HG.out.set.alloc _, HG.out.res.alloc _, HG.out.want.alloc _, HG.out.row.alloc _, Slab.new _ _ _, (Below.heap_alloc _ _ D hDl).trans hK, HG.out.below.alloc HG.out.below.size _⟩
    have hs5 : w5.heap.size = W.heap.size + 1 := by rw [hw5]; simp
    have hb5 := HG.out.below.size
    clear hw5 k1 f1 hgot hrow hap HG hK
    gi_wp2_with fail
    obtain ⟨q, hq⟩ : ∃ q, W.heap.size = q := ⟨_, rfl⟩
    rw [hq] at hF0 hs5 hb5 hDl ⊢
    clear hq
    refine' wpIn_rangeFunc_ownF rfl (by omega) (gf := 53) (lb := #[.pointer (some ⟨q, 0, none⟩)]) rfl trivial (enters_of Try.func53 (by kernel_rfl) rfl)
      (all_stops 5 q (by omega) f _ hF0.it) keepBlk_t (keepBlk_b (by omega)) (Below.refl _ _) (fun _ => rfl)
      (fun pre W' => pre = [] ∧ Fin2 w p f A A1 n c c1 D q W') (Ended f (Fin2 w p f A A1 n c c1 D q)) (fun pre W1 W2 row h hg hr => ⟨h.1, h.2.keep (by omega) (by omega) hg hr⟩)
      (fun cd pre W1 W2 row h hg hr => h.elim (fun h => .inl ⟨h.1, h.2.1, h.2.2.keep (by omega) (by omega) hg hr⟩) .inr) ⟨rfl, hF0⟩ _ ?assign2 ?body2 ?done2 ?stop2
    case assign2 =>
      intro l x W K hK
      gi_wp2
      exact hK
    case body2 =>
      clear hF0
      rintro l pre x W ⟨rfl, hG⟩ hlen
      have HG := Lib.hid hG
      obtain ⟨k1, f1⟩ := hG.want.facts
      obtain ⟨k2, f2⟩ := hG.res.facts
      rcases Nat.eq_zero_or_pos n with h0 | h0
      · have hno : ¬ [x] <+: bytesF f := fun h => by have := h.length_le; rw [HN.out, h0] at this; simp at this
        have d0 : (n == 0) = true := by simpa using h0
        have d1 : ((n : Int) == 0) = true := by simp [h0]
        clear hG hlen h0
        gi_wp2
        exact ⟨KeepsOthers.setCell _ _ _, .inr ⟨rfl, hno⟩⟩
      · obtain ⟨g1, rfl, _, _, _, hc⟩ := row_cell hG.row h0
        obtain ⟨y, l', hy⟩ : ∃ y l', bytesF f = y :: l' := by
          cases h : bytesF f with
          | nil => rw [← HN.out, h] at h0; simp at h0
          | cons y l' => exact ⟨y, l', rfl⟩
        have hc0 : W.cell? ⟨g1, 0, none⟩ = some (.int .u8 y) := by rw [hc 0 (by omega), hy]; rfl
        have d0 : (n == 0) = false := beq_eq_false_iff_ne.2 (by omega)
        have d1 : ((n : Int) == 0) = false := beq_eq_false_iff_ne.2 (by omega)
        have hlb : 0 < (bytesF f).length := by rw [HN.out]; exact h0
        have HLB := Lib.hid hlb
        clear hlb
        cases hxy : (x == y) with
        | true =>
          obtain rfl : x = y := by simpa using hxy
          clear hG hlen hc hy
          gi_wp2
          exact ⟨KeepsOthers.refl _, .inl ⟨rfl, HLB.out, HG.out⟩⟩
        | false =>
          have hno : ¬ [x] <+: bytesF f := fun h => by
            rw [hy, List.cons_prefix_cons] at h
            rw [h.1] at hxy; simp at hxy
          clear hG hlen hc hy
          gi_wp2
          exact ⟨KeepsOthers.setCell _ _ _, .inr ⟨rfl, hno⟩⟩
    case done2 =>
      clear hF0
      rintro D2 ys W hD2 rfl ⟨hy, hG⟩ hK
      have h0 : n = 0 := by rw [← HN.out, hy]; rfl
      subst h0
      have HF := Lib.hid hG
      have HM := Lib.hid hK
      clear hG hK hG0 hs4 hs3 hfn
      gi_wp2_with fail
      refine wpIn_wide.2 ?_
      go_region_held3 (fun w' => (∀ i, w'.cell? ⟨w.heap.size, i, none⟩ = (cells4 f)[i]?)) (first | exact HF.out.set.cell) (first | (go_at_call 18; refine (runs_any f _).mono ?_; rintro e6 w6 ⟨A6, c6, rfl, hrow6, hb6⟩; replace HF := Lib.hid (Fin2.call (by first | exact HF.out.drewN _ | exact HF.out) hb6); replace HM := Lib.hid (mark_call (by exact HM.out) hb6); have HA := Lib.hid (RunsAt.of hrow6); clear hrow6 hb6) | (go_at_call 19; refine (rruns_any f _).mono ?_; rintro e7 w7 ⟨A7, c7, rfl, hrow7, hb7⟩; replace HF := Lib.hid (Fin2.call (by first | exact HF.out.drewN _ | exact HF.out) hb7); replace HM := Lib.hid (mark_call (by exact HM.out) hb7); replace HA := Lib.hid (RunsAt.call (by first | exact HA.out.drewN _ | exact HA.out) hb7); have HB := Lib.hid (RunsAt.of hrow7); clear hrow7 hb7))
      gi_wp2_with fail
      obtain ⟨m, hm⟩ : ∃ m, (runsF f).length = m := ⟨_, rfl⟩
      have hm256 : m ≤ 256 := by rw [← hm]; exact runsB_length f 256
      rw [hm] at HA HB ⊢
      have HMM := Lib.hid hm
      clear hm
      refine wpIn_wide.2 ?_
      go_loopw [11] (fun i wr => ∃ k : Nat, k ≤ m ∧ i = .int .i64 k ∧ Fin2 w p f A A1 0 c c1 D q wr ∧ wr.heap[D2]? = some (.deferred (some [])) ∧ RunsAt wr A6 m (runsF f) ∧ RunsAt wr A7 m (runsF f)) (fun i _ => m - (intOf i).toNat)
      case atStart => exact ⟨0, by omega, rfl, HF.out, HM.out, HA.out, HB.out⟩
      case round =>
        clear HF HM HA HB
        obtain ⟨k, hk, rfl, hF, hM, hA, hB⟩ := hrel
        have HF := Lib.hid hF
        have HM := Lib.hid hM
        have HA := Lib.hid hA
        have HB := Lib.hid hB
        clear hF hM hA hB
        by_cases hlt : k < m
        · obtain ⟨ga, ca, rfl, hsa, hca⟩ := HA.out (by omega)
          obtain ⟨gb, cb, rfl, hsb, hcb⟩ := HB.out (by omega)
          have hkl : k < (runsF f).length := by rw [HMM.out]; exact hlt
          have hpc := pairCells_at (runsF f) k hkl
          have a1 := (hsa.cell (k * 2)).trans ((hca _ (by omega)).trans hpc.1)
          have a2 := (hsa.cell (k * 2 + 1)).trans ((hca _ (by omega)).trans hpc.2)
          have a3 := (hsb.cell (k * 2)).trans ((hcb _ (by omega)).trans hpc.1)
          have a4 := (hsb.cell (k * 2 + 1)).trans ((hcb _ (by omega)).trans hpc.2)
          obtain ⟨xa, hxa⟩ : ∃ xa, ((runsF f)[k]'hkl).1 = xa := ⟨_, rfl⟩
          obtain ⟨xb, hxb⟩ : ∃ xb, ((runsF f)[k]'hkl).2 = xb := ⟨_, rfl⟩
          rw [hxa] at a1 a3
          rw [hxb] at a2 a4
          clear hsa hca hsb hcb hpc hxa hxb hkl
          go_wp2_with fail
          go_quiet (fail)
          go_wp2
          go_roundw
          case rel => exact ⟨k + 1, by omega, by go_num, HF.out.drewN _, HM.out, HA.out.drewN _, HB.out.drewN _⟩
          case measure => simp [intOf]; omega
        · have hkm : k = m := by omega
          subst hkm
          go_wp2_with fail
          gi_wp2_with fail
          refine wpIn_wide.2 ?_
          have CN := next_any f from_ hf0 hf1
          have CM := rnext_any f from_
          have CC : ∀ w : World, Calls Try.prog 20 #[setV f] w fun e w' => e = .returned (.int .i64 0) ∧ Below w.heap.size w w' := fun w => by
            have h := count_any f w
            rw [HN.out] at h
            exact h
          have cvA := conv_none A c
          have cvB := conv_none A1 c1
          go_region_held3 (fun w' => (∀ i, w'.cell? ⟨w.heap.size, i, none⟩ = (cells4 f)[i]?) ∧ (∀ i, w'.cell? ⟨p + 1, i, none⟩ = (#[Value.slice A 0 c])[i]?) ∧ (∀ i, w'.cell? ⟨p, i, none⟩ = (#[Value.slice A1 0 c1])[i]?))
            (first | exact ⟨HF.out.set.cell, HF.out.got.cell, HF.out.want.cell⟩ | exact ⟨(HF.out.set.far (by omega) _).cell, (HF.out.got.far (by omega) _).cell, (HF.out.want.far (by omega) _).cell⟩)
            (first | (go_at_call 20; refine (CC _).mono ?_; rintro e8 w8 ⟨rfl, hb8⟩; replace HF := Lib.hid (Fin2.call (by first | exact HF.out.drewN _ | exact HF.out) hb8); replace HM := Lib.hid (mark_call (by exact HM.out) hb8); clear hb8) | (go_at_call 21; refine (CN _).mono ?_; rintro e8 w8 ⟨rfl, hb8⟩; replace HF := Lib.hid (Fin2.call (by first | exact HF.out.drewN _ | exact HF.out) hb8); replace HM := Lib.hid (mark_call (by exact HM.out) hb8); clear hb8) | (go_at_call 22; refine (CM _).mono ?_; rintro e8 w8 ⟨rfl, hb8⟩; replace HF := Lib.hid (Fin2.call (by first | exact HF.out.drewN _ | exact HF.out) hb8); replace HM := Lib.hid (mark_call (by exact HM.out) hb8); clear hb8) | (go_at_call 23; refine (sure1_any _).mono ?_; rintro e8 w8 ⟨rfl, hb8⟩; replace HF := Lib.hid (Fin2.call (by first | exact HF.out.drewN _ | exact HF.out) hb8); replace HM := Lib.hid (mark_call (by exact HM.out) hb8); obtain ⟨kr, fr⟩ := HF.out.res.facts; clear hb8))
          gi_wp2_with fail
          have HR := HF.out.res
          have hres := HR.set 0 (.bool true)
          have hm2 : (w8.setCell ⟨w.heap.size + 1, 0, none⟩ (.bool true)).heap[D2]? = some (.deferred (some [])) := (Below.heap_setCell w8 ⟨w.heap.size + 1, 0, none⟩ _ D2 (by show D2 ≠ w.heap.size + 1; have := HS4.out; omega)).trans HM.out
          have hm1 : (w8.setCell ⟨w.heap.size + 1, 0, none⟩ (.bool true)).heap[D]? = some (.deferred (some [])) := (Below.heap_setCell w8 ⟨w.heap.size + 1, 0, none⟩ _ D (by show D ≠ w.heap.size + 1; have := HS4.out; omega)).trans HF.out.mark
          have hbe : Below w.heap.size w (w8.setCell ⟨w.heap.size + 1, 0, none⟩ (.bool true)) := below_set HF.out.below (by omega) _
          obtain ⟨WE, hWE⟩ : ∃ WE, w8.setCell ⟨w.heap.size + 1, 0, none⟩ (.bool true) = WE := ⟨_, rfl⟩
          rw [hWE] at hres hm2 hm1 hbe ⊢
          have hm3 : (WE.putObj D2 (.deferred none)).heap[D]? = some (.deferred (some [])) := (World.putObj_heap_other (by omega)).trans hm1
          have hb3 : Below w.heap.size w (WE.putObj D2 (.deferred none)) := hbe.trans (belowK_b (w := w) (Nat.le_refl _) WE D2 _ _ (by have := HS4.out; omega) hm2 rfl rfl)
          have hb4 : Below w.heap.size w ((WE.putObj D2 (.deferred none)).putObj D (.deferred none)) := hb3.trans (belowK_b (w := w) (Nat.le_refl _) _ D _ _ (by have := HS4.out; omega) hm3 rfl rfl)
          have hr4 : ((WE.putObj D2 (.deferred none)).putObj D (.deferred none)).cell? ⟨w.heap.size + 1, 0, none⟩ = some (.bool true) := by
            have h : Slab ((WE.putObj D2 (.deferred none)).putObj D (.deferred none)) (w.heap.size + 1) (#[Value.bool false].setIfInBounds 0 (.bool true)) 4 :=
              (World.putObj_heap_other (by have := HS4.out; omega)).trans ((World.putObj_heap_other (by have := HS4.out; omega)).trans hres)
            rw [h.cell]; rfl
          refine ⟨by simp, .inl ⟨_, _, rfl, run_takeDeferred hm2, ?_⟩⟩
          refine ⟨by simp, .inl ⟨_, _, rfl, run_takeDeferred hm3, ?_⟩⟩
          exact ⟨.bool true, by simp [results, Try.results3, go_sem, hr4], rfl, hb4⟩
    case stop2 =>
      clear hF0
      rintro D2 cd pre W hD2 hpre (⟨rfl, hlb, hG⟩ | ⟨_, h⟩) hK
      · rw [HN.out] at hlb
        have HF := Lib.hid hG
        have HM := Lib.hid hK
        clear hG hK hG0 hs4 hs3 hfn hpre
        gi_wp2_with fail
        refine wpIn_wide.2 ?_
        go_region_held3 (fun w' => (∀ i, w'.cell? ⟨w.heap.size, i, none⟩ = (cells4 f)[i]?)) (first | exact HF.out.set.cell) (first | (go_at_call 18; refine (runs_any f _).mono ?_; rintro e6 w6 ⟨A6, c6, rfl, hrow6, hb6⟩; replace HF := Lib.hid (Fin2.call (by first | exact HF.out.drewN _ | exact HF.out) hb6); replace HM := Lib.hid (mark_call (by exact HM.out) hb6); have HA := Lib.hid (RunsAt.of hrow6); clear hrow6 hb6) | (go_at_call 19; refine (rruns_any f _).mono ?_; rintro e7 w7 ⟨A7, c7, rfl, hrow7, hb7⟩; replace HF := Lib.hid (Fin2.call (by first | exact HF.out.drewN _ | exact HF.out) hb7); replace HM := Lib.hid (mark_call (by exact HM.out) hb7); replace HA := Lib.hid (RunsAt.call (by first | exact HA.out.drewN _ | exact HA.out) hb7); have HB := Lib.hid (RunsAt.of hrow7); clear hrow7 hb7))
        gi_wp2_with fail
        obtain ⟨m, hm⟩ : ∃ m, (runsF f).length = m := ⟨_, rfl⟩
        have hm256 : m ≤ 256 := by rw [← hm]; exact runsB_length f 256
        rw [hm] at HA HB ⊢
        have HMM := Lib.hid hm
        clear hm
        refine wpIn_wide.2 ?_
        go_loopw [11] (fun i wr => ∃ k : Nat, k ≤ m ∧ i = .int .i64 k ∧ Fin2 w p f A A1 n c c1 D q wr ∧ wr.heap[D2]? = some (.deferred (some [])) ∧ RunsAt wr A6 m (runsF f) ∧ RunsAt wr A7 m (runsF f)) (fun i _ => m - (intOf i).toNat)
        case atStart => exact ⟨0, by omega, rfl, HF.out, HM.out, HA.out, HB.out⟩
        case round =>
          clear HF HM HA HB
          obtain ⟨k, hk, rfl, hF, hM, hA, hB⟩ := hrel
          have HF := Lib.hid hF
          have HM := Lib.hid hM
          have HA := Lib.hid hA
          have HB := Lib.hid hB
          clear hF hM hA hB
          by_cases hlt : k < m
          · obtain ⟨ga, ca, rfl, hsa, hca⟩ := HA.out (by omega)
            obtain ⟨gb, cb, rfl, hsb, hcb⟩ := HB.out (by omega)
            have hkl : k < (runsF f).length := by rw [HMM.out]; exact hlt
            have hpc := pairCells_at (runsF f) k hkl
            have a1 := (hsa.cell (k * 2)).trans ((hca _ (by omega)).trans hpc.1)
            have a2 := (hsa.cell (k * 2 + 1)).trans ((hca _ (by omega)).trans hpc.2)
            have a3 := (hsb.cell (k * 2)).trans ((hcb _ (by omega)).trans hpc.1)
            have a4 := (hsb.cell (k * 2 + 1)).trans ((hcb _ (by omega)).trans hpc.2)
            obtain ⟨xa, hxa⟩ : ∃ xa, ((runsF f)[k]'hkl).1 = xa := ⟨_, rfl⟩
            obtain ⟨xb, hxb⟩ : ∃ xb, ((runsF f)[k]'hkl).2 = xb := ⟨_, rfl⟩
            rw [hxa] at a1 a3
            rw [hxb] at a2 a4
            clear hsa hca hsb hcb hpc hxa hxb hkl
            go_wp2_with fail
            go_quiet (fail)
            go_wp2
            go_roundw
            case rel => exact ⟨k + 1, by omega, by go_num, HF.out.drewN _, HM.out, HA.out.drewN _, HB.out.drewN _⟩
            case measure => simp [intOf]; omega
          · have hkm : k = m := by omega
            subst hkm
            go_wp2_with fail
            gi_wp2_with fail
            refine wpIn_wide.2 ?_
            have CN := next_any f from_ hf0 hf1
            have CM := rnext_any f from_
            have CC : ∀ w : World, Calls Try.prog 20 #[setV f] w fun e w' => e = .returned (.int .i64 (n : Int)) ∧ Below w.heap.size w w' := fun w => by
              have h := count_any f w
              rw [HN.out] at h
              exact h
            obtain ⟨ga, cura, rfl, _, _, hsa, _, hta⟩ := row_at HF.out.grow hlb
            obtain ⟨gb, curb, rfl, _, _, hsb, _, htb⟩ := row_at HF.out.row hlb
            have hcura : ∀ j, j < n → cura[j]? = ((bytesF f).map (Value.int .u8))[j]? := fun j hj => by
              rw [← hta, List.getElem?_take_of_lt (by omega)]; simp
            have hcurb : ∀ j, j < n → curb[j]? = ((bytesF f).map (Value.int .u8))[j]? := fun j hj => by
              rw [← htb, List.getElem?_take_of_lt (by omega)]; simp
            have cvA := conv_row ga c cura HN.out hcura
            have cvB := conv_row gb c1 curb HN.out hcurb
            have HSA := Lib.hid hsa
            have HSB := Lib.hid hsb
            clear hcura hcurb hta htb hsa hsb
            go_region_held3 (fun w' => (∀ i, w'.cell? ⟨w.heap.size, i, none⟩ = (cells4 f)[i]?) ∧ (∀ i, w'.cell? ⟨p + 1, i, none⟩ = (#[Value.slice (some ⟨ga, 0, none⟩) n c])[i]?) ∧ (∀ i, w'.cell? ⟨p, i, none⟩ = (#[Value.slice (some ⟨gb, 0, none⟩) n c1])[i]?) ∧ (∀ i, w'.cell? ⟨ga, i, none⟩ = (cura)[i]?) ∧ (∀ i, w'.cell? ⟨gb, i, none⟩ = (curb)[i]?))
              (first | exact ⟨HF.out.set.cell, HF.out.got.cell, HF.out.want.cell, HSA.out.cell, HSB.out.cell⟩ | exact ⟨(HF.out.set.far (by omega) _).cell, (HF.out.got.far (by omega) _).cell, (HF.out.want.far (by omega) _).cell, (HSA.out.far (slab_two HSA.out HF.out.res (by decide)) _).cell, (HSB.out.far (slab_two HSB.out HF.out.res (by decide)) _).cell⟩)
              (first | (go_at_call 20; refine (CC _).mono ?_; rintro e8 w8 ⟨rfl, hb8⟩; replace HF := Lib.hid (Fin2.call (by first | exact HF.out.drewN _ | exact HF.out) hb8); replace HM := Lib.hid (mark_call (by exact HM.out) hb8); replace HSA := Lib.hid (Slab.call (by exact HSA.out) hb8); replace HSB := Lib.hid (Slab.call (by exact HSB.out) hb8); clear hb8) | (go_at_call 21; refine (CN _).mono ?_; rintro e8 w8 ⟨rfl, hb8⟩; replace HF := Lib.hid (Fin2.call (by first | exact HF.out.drewN _ | exact HF.out) hb8); replace HM := Lib.hid (mark_call (by exact HM.out) hb8); replace HSA := Lib.hid (Slab.call (by exact HSA.out) hb8); replace HSB := Lib.hid (Slab.call (by exact HSB.out) hb8); clear hb8) | (go_at_call 22; refine (CM _).mono ?_; rintro e8 w8 ⟨rfl, hb8⟩; replace HF := Lib.hid (Fin2.call (by first | exact HF.out.drewN _ | exact HF.out) hb8); replace HM := Lib.hid (mark_call (by exact HM.out) hb8); replace HSA := Lib.hid (Slab.call (by exact HSA.out) hb8); replace HSB := Lib.hid (Slab.call (by exact HSB.out) hb8); clear hb8) | (go_at_call 23; refine (sure1_any _).mono ?_; rintro e8 w8 ⟨rfl, hb8⟩; replace HF := Lib.hid (Fin2.call (by first | exact HF.out.drewN _ | exact HF.out) hb8); replace HM := Lib.hid (mark_call (by exact HM.out) hb8); replace HSA := Lib.hid (Slab.call (by exact HSA.out) hb8); replace HSB := Lib.hid (Slab.call (by exact HSB.out) hb8); obtain ⟨kr, fr⟩ := HF.out.res.facts; clear hb8))
            gi_wp2_with fail
            have HR := HF.out.res
            have hres := HR.set 0 (.bool true)
            have hm2 : (w8.setCell ⟨w.heap.size + 1, 0, none⟩ (.bool true)).heap[D2]? = some (.deferred (some [])) := (Below.heap_setCell w8 ⟨w.heap.size + 1, 0, none⟩ _ D2 (by show D2 ≠ w.heap.size + 1; have := HS4.out; omega)).trans HM.out
            have hm1 : (w8.setCell ⟨w.heap.size + 1, 0, none⟩ (.bool true)).heap[D]? = some (.deferred (some [])) := (Below.heap_setCell w8 ⟨w.heap.size + 1, 0, none⟩ _ D (by show D ≠ w.heap.size + 1; have := HS4.out; omega)).trans HF.out.mark
            have hbe : Below w.heap.size w (w8.setCell ⟨w.heap.size + 1, 0, none⟩ (.bool true)) := below_set HF.out.below (by omega) _
            obtain ⟨WE, hWE⟩ : ∃ WE, w8.setCell ⟨w.heap.size + 1, 0, none⟩ (.bool true) = WE := ⟨_, rfl⟩
            rw [hWE] at hres hm2 hm1 hbe ⊢
            have hm3 : (WE.putObj D2 (.deferred none)).heap[D]? = some (.deferred (some [])) := (World.putObj_heap_other (by omega)).trans hm1
            have hb3 : Below w.heap.size w (WE.putObj D2 (.deferred none)) := hbe.trans (belowK_b (w := w) (Nat.le_refl _) WE D2 _ _ (by have := HS4.out; omega) hm2 rfl rfl)
            have hb4 : Below w.heap.size w ((WE.putObj D2 (.deferred none)).putObj D (.deferred none)) := hb3.trans (belowK_b (w := w) (Nat.le_refl _) _ D _ _ (by have := HS4.out; omega) hm3 rfl rfl)
            have hr4 : ((WE.putObj D2 (.deferred none)).putObj D (.deferred none)).cell? ⟨w.heap.size + 1, 0, none⟩ = some (.bool true) := by
              have h : Slab ((WE.putObj D2 (.deferred none)).putObj D (.deferred none)) (w.heap.size + 1) (#[Value.bool false].setIfInBounds 0 (.bool true)) 4 :=
                (World.putObj_heap_other (by have := HS4.out; omega)).trans ((World.putObj_heap_other (by have := HS4.out; omega)).trans hres)
              rw [h.cell]; rfl
            refine ⟨by simp, .inl ⟨_, _, rfl, run_takeDeferred hm2, ?_⟩⟩
            refine ⟨by simp, .inl ⟨_, _, rfl, run_takeDeferred hm3, ?_⟩⟩
            exact ⟨.bool true, by simp [results, Try.results3, go_sem, hr4], rfl, hb4⟩
      · exact absurd hpre h
  case stop =>
    rintro D c pre W _ _ h _
    exact h.elim
end Go.Proofs.Ythppilfojicfdaa
