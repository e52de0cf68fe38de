/- Words for the memory of a writer of texts; the walks of its builder. -/
import Derived.Test.YtfcgmgpcbenfpaaGreatProg
import Derived.WalkKit
import Derived.WalkSpells
import Derived.WalkLawsBesides
import Derived.Handy
import Derived.Lib.Hide
import Derived.Deep.QuietTactic
import Derived.Test.YtfcgmgpcbenfpaaGreatParA
import Derived.Lib.Builder
import Derived.Lib.AppendStr
import Derived.Lib.UnsafeStr
import Derived.Laws.Externs
import Derived.RegionTactic
import Derived.Test.YtfcgmgpcbenfpaaGreatPrtP
import Derived.Test.YtfcgmgpcbenfpaaGreatMAsk
import Derived.Test.YtfcgmgpcbenfpaaGreatLexE
import Derived.Test.YtfcgmgpcbenfpaaGreatMBrb
import Derived.Test.YtfcgmgpcbenfpaaGreatMAsi
import Derived.Test.YtfcgmgpcbenfpaaGreatMPrk
import Derived.Test.YtfcgmgpcbenfpaaGreatLaw7
set_option linter.unusedVariables false
set_option linter.unusedSimpArgs false
namespace Go.Proofs.YtfcgmgpcbenfpaaGreat
open Go.RowKit SetP BrkP LexP AstP ParP
def bsV (l : List UInt8) : List Value := Lib.byteCells l
theorem bsV_app (l m : List UInt8) : bsV (l ++ m) = bsV l ++ bsV m := Lib.byteCells_append l m
set_option maxRecDepth 100000 in
theorem info_byte7 : (Tryz.prog.info? 5).map (fun i => (i.zero, i.size, i.bytes)) = some (some (.int .u8 0), 1, 1) := by kernel_rfl
/-- A writer: the list that it writes, and the text so far. -/
structure WrAt (w : World) (B g : Nat) (V : Value) (T : List UInt8) (q : Value) (Ab : Option Addr) (cb : Nat) : Prop where
  slab : Slab w g #[V, q, .slice Ab T.length cb] 104
  row : w.ownsRow B 5 1 (.slice Ab T.length cb) T.length (bsV T)
  ne : (Value.slice Ab T.length cb).ownBlock ≠ some g
  hq : q = .pointer none ∨ q = .pointer (some ⟨g, 1, none⟩)
  hB : B ≤ g
  nil : T = [] → Ab = none ∧ cb = 0
abbrev Wr (w : World) (B g : Nat) (V : Value) (T : List UInt8) : Prop := ∃ q Ab cb, WrAt w B g V T q Ab cb
theorem row_other {w : World} {base n size g : Nat} {e t : TypeId} {v : Value} {xs : List Value} {cs : Array Value} (h : w.ownsRow base e size v n xs) (hs : Slab w g cs t) (ht : t ≠ e) : v.ownBlock ≠ some g := by
  intro hk
  rcases h.2 with ⟨rfl, _⟩ | ⟨g', cap, cur, rfl, hg, hh, _⟩
  · cases hk
  · have : g' = g := by injection hk
    subst this
    unfold Slab at hs
    rw [hs] at hh
    injection hh with hh
    injection hh with _ h2
    exact ht h2
/-- But for block g and rows of bytes, all blocks are as they were. -/
def Kept (g : Nat) (w w' : World) : Prop := ∀ k cs t, Slab w k cs t → k ≠ g → t ≠ 5 → Slab w' k cs t
theorem Kept.refl (g : Nat) (w : World) : Kept g w w := fun _ _ _ h _ _ => h
theorem Kept.trans {g : Nat} {u v w : World} (h : Kept g u v) (k : Kept g v w) : Kept g u w := fun b cs t hb hg ht => k b cs t (h b cs t hb hg ht) hg ht
theorem Kept.of {g : Nat} {w w' : World} (h : Below w.heap.size w w') : Kept g w w' := fun _ _ _ hb _ _ => hb.call h
theorem Kept.set {g : Nat} {u w : World} (h : Kept g u w) (i : Nat) (v : Value) : Kept g u (w.setCell ⟨g, i, none⟩ v) := fun b cs t hb hg ht => (h b cs t hb hg ht).far hg v
/-- What a method leaves. -/
def Wrote (B g : Nat) (V : Value) (T : List UInt8) (w : World) (e : Ending) (w' : World) : Prop := e = .returned (.tuple #[]) ∧ Below B w w' ∧ Kept g w w' ∧ Wr w' B g V T
theorem WrAt.keep {w w' : World} {B g : Nat} {V : Value} {T : List UInt8} {q : Value} {Ab : Option Addr} {cb : Nat} (h : WrAt w B g V T q Ab cb) (hb : Below w.heap.size w w') : WrAt w' B g V T q Ab cb :=
  ⟨h.slab.call hb, row_call h.row hb, h.ne, h.hq, h.hB, h.nil⟩
theorem WrAt.le {w : World} {B g : Nat} {V : Value} {T : List UInt8} {q : Value} {Ab : Option Addr} {cb : Nat} (h : WrAt w B g V T q Ab cb) : B ≤ w.heap.size := Nat.le_trans h.hB (Nat.le_of_lt h.slab.lt)
theorem Wr.keep {w w' : World} {B g : Nat} {V : Value} {T : List UInt8} (h : Wr w B g V T) (hb : Below w.heap.size w w') : Wr w' B g V T := by
  obtain ⟨q, Ab, cb, h⟩ := h; exact ⟨q, Ab, cb, h.keep hb⟩
set_option maxRecDepth 100000 in
set_option maxHeartbeats 2000000 in
theorem copy_used (B g : Nat) (V v : Value) (w : World) (h : Slab w g #[V, .pointer (some ⟨g, 1, none⟩), v] 104) :
    Calls Tryz.prog 78 #[.pointer (some ⟨g, 1, none⟩)] w fun e w' => e = .returned (.tuple #[]) ∧ w' = w := by
  obtain ⟨j, hj, _⟩ := Option.map_eq_some_iff.1 (show (Tryz.prog.info? 89).map (·.size) = some 2 by kernel_rfl)
  obtain ⟨c0, f0⟩ := h.facts
  clear h
  go_enter Tryz.func78, Tryz.ntmps78
  go_wp2
  rw [Lib.run_neq_ptr_same w _ Tryz.underlying86 hj]
  go_wp2
  go_end0
  exact ⟨rfl, rfl⟩
set_option maxRecDepth 100000 in
set_option maxHeartbeats 2000000 in
theorem copy_fresh (B g : Nat) (V v : Value) (w : World) (h : Slab w g #[V, .pointer none, v] 104) :
    Calls Tryz.prog 78 #[.pointer (some ⟨g, 1, none⟩)] w fun e w' => e = .returned (.tuple #[]) ∧ w' = w.setCell ⟨g, 1, none⟩ (.pointer (some ⟨g, 1, none⟩)) := by
  obtain ⟨j, hj, hjs⟩ := Option.map_eq_some_iff.1 (show (Tryz.prog.info? 89).map (·.size) = some 2 by kernel_rfl)
  obtain ⟨c0, f0⟩ := h.facts
  have hsh : w.shape? g = some (104, 3) := by unfold Slab at h; simp [World.shape?, h]
  have hl : liesAt Tryz.prog Tryz.prog.depth 104 (3 / Tryz.prog.cellsOf 104) 1 89 1 = true := by kernel_rfl
  clear h
  go_enter Tryz.func78, Tryz.ntmps78
  go_wp2
  rw [Lib.run_to_unsafe w ⟨g, 1, none⟩ Tryz.underlying86 Tryz.underlying144 hj (by rw [hjs]; decide) hsh (by show (1 : Nat) < 3; omega)]
  simp only [Result.andThen]
  rw [Oper.upon_value]
  go_wp2
  rw [run_callFunc_extern Tryz.func96 (by kernel_rfl) (by kernel_rfl) (by kernel_rfl) (e := Extern.AbiNoEscape.same) (by kernel_rfl)]
  rw [Lib.run_noEscape]
  simp only [Result.andThen]
  rw [Oper.upon_value]
  go_wp2
  rw [Lib.run_from_unsafe w ⟨g, 1, none⟩ Tryz.underlying144 Tryz.underlying86 hj hsh hl]
  simp only [Result.andThen]
  rw [Oper.upon_value]
  go_wp2
  go_end0
  exact ⟨rfl, rfl⟩
set_option maxRecDepth 100000 in
theorem copy_any {w : World} {B g : Nat} {V : Value} {T : List UInt8} {q : Value} {Ab : Option Addr} {cb : Nat} (h : WrAt w B g V T q Ab cb) :
    Calls Tryz.prog 78 #[.pointer (some ⟨g, 1, none⟩)] w fun e w' => e = .returned (.tuple #[]) ∧ Below B w w' ∧ Kept g w w' ∧ WrAt w' B g V T (.pointer (some ⟨g, 1, none⟩)) Ab cb := by
  obtain ⟨h1, h2, h3, h4, h5, h6⟩ := h
  rcases h4 with rfl | rfl
  · refine (copy_fresh B g V _ w h1).mono ?_
    rintro e w' ⟨rfl, rfl⟩
    exact ⟨rfl, below_set (Below.refl _ _) h5 _, (Kept.refl _ _).set _ _, h1.set 1 _, row_far h2 h3 _ _, h3, .inr rfl, h5, h6⟩
  · refine (copy_used B g V _ w h1).mono ?_
    rintro e w' ⟨rfl, rfl⟩
    exact ⟨rfl, Below.refl _ _, Kept.refl _ _, h1, h2, h3, .inr rfl, h5, h6⟩
set_option maxRecDepth 100000 in
set_option maxHeartbeats 2000000 in
theorem wstr_any {w : World} {B g : Nat} {V : Value} {T : List UInt8} (h : Wr w B g V T) (s : ByteArray) (hl : T.length + s.size ≤ 100000000000) :
    Calls Tryz.prog 49 #[.pointer (some ⟨g, 1, none⟩), .string s] w fun e w' => e = .returned (.tuple #[.int .i64 s.size, .nilIface]) ∧ Below B w w' ∧ Kept g w w' ∧ Wr w' B g V (T ++ s.data.toList) := by
  obtain ⟨i0, hi, hz0, hz1, hz2⟩ := info_parts info_byte7
  have HI := Lib.hid hi; clear hi
  have HZ0 := Lib.hid hz0; clear hz0
  have HZ1 := Lib.hid hz1; clear hz1
  have HZ2 := Lib.hid hz2; clear hz2
  obtain ⟨q, Ab, cb, h⟩ := h
  have C := copy_any h
  clear h
  go_enter Tryz.func49, Tryz.ntmps49
  go_wp2_with fail
  refine C.mono ?_
  rintro e1 w1 ⟨rfl, hb1, hk1, h1⟩
  have HK1 := Lib.hid hk1; clear hk1
  have HB1 := Lib.hid hb1
  have H1 := Lib.hid h1
  obtain ⟨c1, f1⟩ := h1.slab.facts
  have hsz := h1.le
  clear C hb1 h1
  go_wp2_with (at_builtin; refine Lib.wpList_append_own_string _ rfl _ _ 87 9 rfl B 5 i0 Tryz.underlying87 Tryz.underlying9 HI.out HZ0.out HZ1.out HZ2.out _ _ _ rfl H1.out.row s rfl ?c3 ?c4 ?c5 ?_)
  case c3 => unfold maxLen; omega
  case c4 => omega
  case c5 => exact hsz
  intro v' w2 hown' hgrow hnil
  obtain ⟨A2, q2, rfl⟩ := row_shape hown'
  have o2 := H1.out.slab.grown hgrow (fun e => H1.out.ne e.symm)
  obtain ⟨c2, f2⟩ := o2.facts
  have HB2 := Lib.hid (HB1.out.grown hgrow hsz (fun k hk => (H1.out.row.lt k hk).1))
  have HG := Lib.hid hgrow
  have HO := Lib.hid hown'
  have HN := Lib.hid hnil
  have O2 := Lib.hid o2
  clear hgrow hown' hnil c1 f1 o2
  go_wp2
  go_ret2
  have HK2 : Kept g w1 w2 := fun b cs t hb hg ht => hb.grown HG.out (fun e => row_other H1.out.row hb ht e.symm)
  refine ⟨rfl, below_set HB2.out H1.out.hB _, (HK1.out.trans HK2).set _ _, .pointer (some ⟨g, 1, none⟩), A2, q2, ?_⟩
  have e : (T ++ s.data.toList).length = T.length + s.size := by rw [List.length_append]; simp
  have hne : (Value.slice A2 (T.length + s.size) q2).ownBlock ≠ some g := row_other HO.out O2.out (by decide)
  refine ⟨?_, ?_, ?_, .inr rfl, H1.out.hB, fun hn => ?_⟩
  · rw [e]; exact O2.out.set 2 _
  · rw [e, bsV_app]; exact row_far HO.out hne _ _
  · rw [e]; exact hne
  · have hT : T = [] ∧ s.data.toList = [] := by simpa using hn
    obtain ⟨rfl, rfl⟩ := H1.out.nil hT.1
    have hs : s = ByteArray.empty := bytes_ext (by rw [hT.2]; rfl)
    have h2 := HN.out.2 ⟨⟨rfl, hT.1, rfl⟩, hs⟩
    injection h2 with a b c
    exact ⟨a, c⟩
set_option maxRecDepth 100000 in
set_option maxHeartbeats 2000000 in
theorem put9_any {w : World} {B g : Nat} {V : Value} {T : List UInt8} (h : Wr w B g V T) (s : ByteArray) (hl : T.length + s.size ≤ 100000000000) :
    Calls Tryz.prog 91 #[.pointer (some ⟨g, 0, none⟩), .string s] w (Wrote B g V (T ++ s.data.toList) w) := by
  have C := wstr_any h s hl
  clear h
  go_enter Tryz.func91, Tryz.ntmps91
  go_wp2_with fail
  refine C.mono ?_
  rintro e1 w1 ⟨rfl, hb1, hk1, h1⟩
  go_wp2
  go_end0
  exact ⟨rfl, hb1, hk1, h1⟩
set_option maxRecDepth 100000 in
set_option maxHeartbeats 2000000 in
theorem bstr_any {w : World} {B g : Nat} {V : Value} {T : List UInt8} (h : Wr w B g V T) :
    Calls Tryz.prog 51 #[.pointer (some ⟨g, 1, none⟩)] w fun e w' => e = .returned (.string ⟨T.toArray⟩) ∧ Below B w w' := by
  obtain ⟨q, Ab, cb, h⟩ := h
  cases T with
  | nil =>
    obtain ⟨rfl, rfl⟩ := h.nil rfl
    have c1 : w.drew.cell? ⟨g, 2, none⟩ = some (.slice none 0 0) := h.slab.cell 2
    have hSD : (Builtin.unsafeSliceData_ #[87] 130 #[.slice none 0 0]).run Tryz.prog w.drew = .ok (.pointer none) w.drew := rfl
    have hUS : ∀ (W : World) (q : Option Addr), (Builtin.unsafeString_ #[130, 3] 9 #[.pointer q, .int .i64 0]).run Tryz.prog W = .ok (.string .empty) W := fun W q => Lib.run_unsafeString_none W _ _ _ q
    clear h
    go_enter Tryz.func51, Tryz.ntmps51
    go_wp2
    go_region
    all_goals (go_wp2; go_ret; exact ⟨rfl, Below.drew (Below.refl B w)⟩)
  | cons x l =>
    generalize hT : x :: l = T at *
    have h0 : T ≠ [] := by rw [← hT]; simp
    have hl0 : 0 < T.length := by rw [← hT]; simp
    obtain ⟨ga, rfl, hga, hlt, hn, _⟩ := row_cell h.row hl0
    obtain ⟨cur, s1, s2, _, s4, _⟩ := row_slab h.row
    have c1 : w.drew.cell? ⟨g, 2, none⟩ = some (.slice (some ⟨ga, 0, none⟩) T.length cb) := h.slab.cell 2
    have hcm : T.length ≤ maxLen := by
      rcases h.row.2 with ⟨hv, _⟩ | ⟨g', cap, cur', hv, _, _, h1, h2, _⟩
      · cases hv
      · cases hv; omega
    have hSD : (Builtin.unsafeSliceData_ #[87] 130 #[.slice (some ⟨ga, 0, none⟩) T.length cb]).run Tryz.prog w.drew = .ok (.pointer (some ⟨ga, 0, none⟩)) w.drew :=
      Lib.run_unsafeSliceData_row _ _ _ _ _ _ (by omega)
    have hUS : (Builtin.unsafeString_ #[130, 3] 9 #[.pointer (some ⟨ga, 0, none⟩), .int .i64 T.length]).run Tryz.prog w.drew = .ok (.string ⟨T.toArray⟩) (w.drew.freeze ⟨ga, 0, none⟩ T.length) := by
      refine Lib.run_unsafeString_row w.drew 130 3 9 5 Tryz.underlying130 (by kernel_rfl) ga cur.size (by unfold Slab at s1; have s1' : w.drew.heap[ga]? = some (.cells cur 5 (0, 0)) := s1; simp [World.shape?, s1']) T h0 (by omega) (by unfold maxLen at hcm; omega) ?_
      intro j y hy
      exact h.row.cells (g := ga) rfl j (.int .u8 y.toNat) (by simp [bsV, Lib.byteCells, hy])
    clear h s1 s2 hT
    go_enter Tryz.func51, Tryz.ntmps51
    go_wp2
    go_region
    all_goals (go_wp2; go_ret; exact ⟨rfl, Lib.below_freeze (Below.drew (Below.refl B w)) (p := ⟨ga, 0, none⟩) hga _⟩)
end Go.Proofs.YtfcgmgpcbenfpaaGreat

/- Walks of the package print: the text of a node. -/
namespace Go.Proofs.YtfcgmgpcbenfpaaGreat
open Go.RowKit SetP BrkP LexP AstP ParP
theorem barsT_snoc (M : List (List UInt8)) (y : List UInt8) (h : M ≠ []) : barsT (M ++ [y]) = barsT M ++ 124 :: y := by
  induction M with
  | nil => exact absurd rfl h
  | cons p M ih =>
    cases M with
    | nil => rfl
    | cons q M =>
      rw [List.cons_append, List.cons_append, barsT, barsT, ← List.cons_append, ih (by simp)]
      simp
/-- The first t kids' texts. -/
def partT (b : Bool) (K : List (List UInt8)) (t : Nat) : List UInt8 := if b then barsT (K.take t) else (K.take t).flatten
theorem partT_zero (b : Bool) (K : List (List UInt8)) : partT b K 0 = [] := by cases b <;> rfl
theorem partT_succ {b : Bool} {K : List (List UInt8)} {t : Nat} (ht : t < K.length) : partT b K (t + 1) = partT b K t ++ ((if b && decide (0 < t) then [124] else []) ++ K.getD t []) := by
  have e : K.take (t + 1) = K.take t ++ [K.getD t []] := by
    rw [List.take_add_one, List.getElem?_eq_getElem ht, List.getD_eq_getElem?_getD, List.getElem?_eq_getElem ht]; rfl
  unfold partT
  rw [e]
  cases b with
  | false => simp
  | true =>
    simp only [if_true, Bool.true_and]
    cases t with
    | zero => rfl
    | succ t =>
      rw [barsT_snoc _ _ (by intro h; have h9 := congrArg List.length h; rw [List.length_take, List.length_nil] at h9; omega)]
      simp
theorem partT_le {b : Bool} {K : List (List UInt8)} (d : Nat) : ∀ t, t + d = K.length → (partT b K t).length ≤ (partT b K K.length).length := by
  induction d with
  | zero => intro t ht; rw [← ht, Nat.add_zero]; exact Nat.le_refl _
  | succ d ih =>
    intro t ht
    have h1 := ih (t + 1) (by omega)
    rw [partT_succ (by omega), List.length_append] at h1
    omega
theorem partT_all (b : Bool) (K : List (List UInt8)) : partT b K K.length = if b then barsT K else K.flatten := by unfold partT; rw [List.take_length]
/-- What stands ahead of a node's kids, and behind them. -/
def headT (x : Nd) : List UInt8 := if x.kind == 3 then [40] else []
def tailT (x : Nd) : List UInt8 := if x.kind == 2 then textW x.set else if x.kind == 3 then [41] else if x.kind == 4 then textF x.n x.m else []
theorem textN_parts {i : Nat} {x : Nd} {K : List (List UInt8)} (h : x.kind = 2 → K = []) : textN i x K = headT x ++ (partT (x.kind == 6) K K.length ++ tailT x) := by
  rw [partT_all]
  unfold textN headT tailT
  by_cases h2 : x.kind = 2
  · rw [h h2, h2]; simp
  by_cases h3 : x.kind = 3
  · rw [h3]; simp
  by_cases h4 : x.kind = 4
  · rw [h4]; simp
  by_cases h6 : x.kind = 6
  · rw [h6]; simp [barsT]
  · simp [h2, h3, h4, h6]
theorem text_parts {L : List Nd} (hF : formedF L = true) (hok : ∀ j, j < L.length → nodeOk L j = true) {k : Nat} (hk : k < L.length) :
    textAt L k = headT (L.getD k ndEmpty) ++ (partT ((L.getD k ndEmpty).kind == 6) ((kidsF L (k : Int)).map (textAt L)) (kidsF L (k : Int)).length ++ tailT (L.getD k ndEmpty)) := by
  have e : textAt L k = textN k (L.getD k ndEmpty) ((kidsF L (k : Int)).map (textAt L)) := val_kids textN hF hk
  rw [e, textN_parts, List.length_map]
  intro h2
  have hn : (kidsF L (k : Int)).length = 0 := by
    rw [kidsF_length hF hk]
    cases nodeIs (nodeOk_parts (hok k hk)).1 with
    | set hk1 hn1 h1 => rw [hn1]; rfl
    | empty hk1 => omega
    | group hk1 => omega
    | rep hk1 => omega
    | cat hk1 => omega
    | alt hk1 => omega
  rw [List.eq_nil_of_length_eq_zero hn]; rfl
/-- The node's walk, whatever is written so far. -/
def NodeW (L : List Nd) (k : Nat) : Prop := ∀ (w : World) (B g : Nat) (A : Option Addr) (c : Nat) (T : List UInt8), NodesAt w B A L → Wr w B g (.slice A L.length c) T → T.length + (textAt L k).length ≤ 100000000 →
  Calls Tryz.prog 60 #[.pointer (some ⟨g, 0, none⟩), .int .i64 (k : Int)] w (Wrote B g (.slice A L.length c) (T ++ textAt L k) w)
/-- A row of numbers, in a block that is no row of bytes. -/
def KidsAt (w : World) (g : Nat) (A : Option Addr) (l : List Nat) : Prop :=
  l.length = 0 ∨ ∃ b cur, A = some ⟨b, 0, none⟩ ∧ b ≠ g ∧ Slab w b cur 3 ∧ ∀ j, j < l.length → cur[j]? = some (.int .i64 ((l.getD j 0 : Nat) : Int))
theorem KidsAt.keep {w w' : World} {g : Nat} {A : Option Addr} {l : List Nat} (h : KidsAt w g A l) (hk : Kept g w w') : KidsAt w' g A l := by
  rcases h with h | ⟨b, cur, h1, h2, h3, h4⟩
  · exact .inl h
  · exact .inr ⟨b, cur, h1, h2, hk b cur _ h3 h2 (by decide), h4⟩
theorem KidsAt.at_ {w : World} {g : Nat} {A : Option Addr} {l : List Nat} (h : KidsAt w g A l) {j : Nat} (hj : j < l.length) : ∃ b, A = some ⟨b, 0, none⟩ ∧ w.cell? ⟨b, j, none⟩ = some (.int .i64 ((l.getD j 0 : Nat) : Int)) := by
  rcases h with h | ⟨b, cur, h1, h2, h3, h4⟩
  · omega
  · exact ⟨b, h1, by rw [h3.cell]; exact h4 j hj⟩
theorem KidsAt.of {w : World} {base g c : Nat} {A : Option Addr} {l : List Nat} {cs : Array Value} (h : w.ownsRow base 3 1 (.slice A l.length c) l.length (ints l)) (hs : Slab w g cs 104) : KidsAt w g A l := by
  by_cases h0 : l.length = 0
  · exact .inl h0
  · obtain ⟨b, rfl, _⟩ := row_cell h (by omega)
    obtain ⟨cur, s1, s2, _⟩ := row_slab h
    refine .inr ⟨b, cur, rfl, fun e => ?_, s1, fun j hj => ?_⟩
    · subst e
      exact row_other h hs (by decide) rfl
    · have e : cur[j]? = (cur.toList.take (l.length * 1))[j]? := by rw [List.getElem?_take_of_lt (by omega)]; simp
      rw [e, s2]
      simp [ints, hj]
theorem map_getD {ks : List Nat} {f : Nat → List UInt8} {t : Nat} (h : t < ks.length) : (ks.map f).getD t [] = f (ks.getD t 0) := by
  rw [List.getD_eq_getElem?_getD, List.getElem?_map, List.getElem?_eq_getElem h, List.getD_eq_getElem?_getD, List.getElem?_eq_getElem h]; rfl
theorem getD_mem {ks : List Nat} {t : Nat} (h : t < ks.length) : ks.getD t 0 ∈ ks := by
  rw [List.getD_eq_getElem?_getD, List.getElem?_eq_getElem h]; exact List.getElem_mem h
set_option maxRecDepth 100000 in
set_option maxHeartbeats 2000000 in
theorem node_set {L : List Nd} (hF : formedF L = true) {k : Nat} (hk : k < L.length) (hlen : L.length ≤ 1000000) {x : Nd} (hx : L.getD k ndEmpty = x) (ks : List Nat) (hks : kidsF L (k : Int) = ks) (hkn : ks.length ≤ 1000000)
    (hkind : x.kind = 2) (IH : ∀ j ∈ ks, NodeW L j) (hT : textAt L k = headT x ++ (partT (x.kind == 6) (ks.map (textAt L)) ks.length ++ tailT x)) : NodeW L k := by
  have hmf : ∀ (fn : Fn) (first cap : Array Value) (w : World), (Instr.makeFunc fn first cap).run Tryz.prog w = .ok (.func fn first cap) w := fun _ _ _ _ => rfl
  intro w B g A c T hN hW hlt
  rw [hT] at hlt ⊢
  clear hT
  obtain ⟨kd, kc, xn, xm, f⟩ := x
  simp only at hkind
  subst hkind
  have hpl := fun t (ht : t ≤ ks.length) => partT_le (b := false) (K := ks.map (textAt L)) (ks.length - t) t (by rw [List.length_map]; omega)
  rw [List.length_map] at hpl
  have HPL := Lib.hid hpl; clear hpl
  have HPS := Lib.hid (fun t (ht : t < ks.length) => partT_succ (b := false) (K := ks.map (textAt L)) (t := t) (by rw [List.length_map]; exact ht))
  have HIH := Lib.hid IH; clear IH
  have HF := Lib.hid hF; clear hF
  have e6 : ((2 : Int) == 6) = false := rfl
  simp only [e6] at hlt ⊢
  clear e6
  rw [show headT ⟨2, kc, xn, xm, f⟩ = [] from rfl, show tailT ⟨2, kc, xn, xm, f⟩ = textW f from rfl] at hlt ⊢
  obtain ⟨b, off, hA, hbB, hn8⟩ := hN.node hk
  rw [hx] at hn8
  obtain ⟨n0, n1, n2, n3, n4, n5, n6, n7⟩ := hn8
  simp only at n0 n1 n2 n3 n4 n5 n6 n7
  clear hx
  have HKS := Lib.hid hks; clear hks
  have HN := Lib.hid hN; clear hN
  obtain ⟨q, Ab, cb, hw⟩ := hW
  have hgl : g < w.heap.size := hw.slab.lt
  have hB0 : B ≤ w.heap.size := hw.le
  obtain ⟨c0, f0⟩ := hw.slab.facts
  have HW := Lib.hid hw; clear hw
  subst hA
  have hbl : b < w.heap.size := by omega
  have hal := (Below.refl w.heap.size w).alloc (Nat.le_refl _) (.cells #[.int .i64 2, .int .i64 kc, .int .i64 xn, .int .i64 xm, .int .u64 (wd f 0), .int .u64 (wd f 1), .int .u64 (wd f 2), .int .u64 (wd f 3)] 51)
  have HWA := Lib.hid (HW.out.keep hal)
  have HNA := Lib.hid (HN.out.below ((Below.refl B w).alloc hB0 (.cells #[.int .i64 2, .int .i64 kc, .int .i64 xn, .int .i64 xm, .int .u64 (wd f 0), .int .u64 (wd f 1), .int .u64 (wd f 2), .int .u64 (wd f 3)] 51)))
  have HBA := Lib.hid ((Below.refl B w).alloc hB0 (.cells #[.int .i64 2, .int .i64 kc, .int .i64 xn, .int .i64 xm, .int .u64 (wd f 0), .int .u64 (wd f 1), .int .u64 (wd f 2), .int .u64 (wd f 3)] 51))
  have HKA := Lib.hid (Kept.of (g := g) hal)
  have HSA := Lib.hid (show Slab (w.alloc (.cells #[.int .i64 2, .int .i64 kc, .int .i64 xn, .int .i64 xm, .int .u64 (wd f 0), .int .u64 (wd f 1), .int .u64 (wd f 2), .int .u64 (wd f 3)] 51)) w.heap.size #[.int .i64 2, .int .i64 kc, .int .i64 xn, .int .i64 xm, .int .u64 (wd f 0), .int .u64 (wd f 1), .int .u64 (wd f 2), .int .u64 (wd f 3)] 51 from Slab.new _ _ _)
  have hba : B ≤ (w.alloc (.cells #[.int .i64 2, .int .i64 kc, .int .i64 xn, .int .i64 xm, .int .u64 (wd f 0), .int .u64 (wd f 1), .int .u64 (wd f 2), .int .u64 (wd f 3)] 51)).heap.size := HWA.out.le
  obtain ⟨ca, fa⟩ := HWA.out.slab.facts
  obtain ⟨cs_, fs_⟩ := HSA.out.facts
  clear hal
  go_enter Tryz.func60, Tryz.ntmps60
  have CK := kids_any (some ⟨b, off, none⟩) c L (k : Int) _ (HNA.out.more hba)
  rw [HKS.out] at CK
  go_wp2_with fail
  refine CK.mono ?_
  rintro e1 w1 ⟨A1, c1, rfl, hown1, hb1⟩
  have hw1 := HWA.out.keep hb1
  have HK1 := Lib.hid (KidsAt.of hown1 hw1.slab)
  have HW1 := Lib.hid hw1
  have HB1 := Lib.hid (HBA.out.trans (hb1.mono hba))
  have HKP1 := Lib.hid (HKA.out.trans (Kept.of hb1))
  have HS1 := Lib.hid (HSA.out.call hb1)
  have HN1 := Lib.hid (HN.out.below HB1.out)
  clear CK hb1 hown1 hw1
  go_wp2_with fail
  go_loopw [29] (fun i wr => ∃ t : Nat, t ≤ ks.length ∧ i = .int .i64 (t : Int) ∧ Below B w wr ∧ Kept g w1 wr ∧ Wr wr B g (.slice (some ⟨b, off, none⟩) L.length c) (T ++ ([] ++ partT false (ks.map (textAt L)) t))) (fun i _ => ks.length - (intOf i).toNat)
  case atStart => exact ⟨0, Nat.zero_le _, rfl, HB1.out, Kept.refl _ _, by rw [partT_zero, List.append_nil]; first | exact ⟨_, _, _, HW1.out⟩ | exact HW1.out | (rw [List.append_nil]; exact ⟨_, _, _, HW1.out⟩)⟩
  case round =>
    obtain ⟨t, ht, rfl, hB, hKp, hWr⟩ := hrel
    have hs := hKp _ _ _ HS1.out (by omega) (by decide)
    have HB := Lib.hid hB
    have HKP := Lib.hid hKp
    have HWR := Lib.hid hWr
    obtain ⟨cn, fn_⟩ := hs.facts
    have HSN := Lib.hid hs
    clear hB hWr hs
    by_cases hlt' : t < ks.length
    · obtain ⟨bk, hA1, hc⟩ := (HK1.out.keep hKp).at_ hlt'
      subst hA1
      have hstep := HPS.out t hlt'
      rw [map_getD hlt'] at hstep
      have hle := HPL.out (t + 1) hlt'
      have HIJ := Lib.hid (HIH.out _ (getD_mem hlt'))
      generalize ks.getD t 0 = j at *
      simp only [List.length_append] at hlt
      rw [show (false && decide (0 < t)) = false from rfl, if_neg (by simp), List.nil_append] at hstep
      have C := HIJ.out wr B g (some ⟨b, off, none⟩) c _ (HN.out.below HB.out) HWR.out (by rw [hstep] at hle; simp only [List.length_append, List.length_nil, List.length_cons] at hle hlt ⊢; omega)
      have HST := Lib.hid hstep
      clear hstep hle hKp
      go_wp2_with fail
      all_goals
        refine C.mono ?_
        rintro e2 w2 ⟨rfl, hb2, hk2, hw2⟩
        have HB2 := Lib.hid (HB.out.trans hb2)
        have HK2 := Lib.hid (HKP.out.trans hk2)
        have HW2 := Lib.hid hw2
        clear hb2 hk2 hw2
        go_wp2
        go_roundw
        case rel => exact ⟨t + 1, by omega, by go_num, HB2.out, HK2.out, by rw [HST.out]; have := HW2.out; simpa [List.append_assoc] using this⟩
        case measure => simp [intOf]; omega
    · have hte : t = ks.length := by omega
      subst hte
      clear hKp
      go_wp2_with fail
      refine (ltext_any f _).mono ?_
      rintro e3 w3 ⟨rfl, hb3⟩
      have C9 := put9_any (HWR.out.keep hb3) (⟨(textW f).toArray⟩) (by show _ + (textW f).toArray.size ≤ _; simp only [List.length_append, List.length_nil, List.length_cons, List.size_toArray] at hlt ⊢; omega)
      have HB3 := Lib.hid (HB.out.trans (hb3.mono (Nat.le_trans hB0 (Nat.le_trans (Nat.le_of_lt (by have := HSN.out.lt; omega)) (Nat.le_refl _)))))
      have HK3 := Lib.hid (HKP.out.trans (Kept.of hb3))
      clear hb3
      go_wp2_with fail
      refine C9.mono ?_
      rintro e5 w5 ⟨rfl, hb5, hk5, hw5⟩
      go_wp2
      first | go_end0 | skip
      exact ⟨rfl, HB3.out.trans hb5, HKP1.out.trans (HK3.out.trans hk5), by simpa [List.append_assoc] using hw5⟩
set_option maxRecDepth 100000 in
set_option maxHeartbeats 2000000 in
theorem node_empty {L : List Nd} (hF : formedF L = true) {k : Nat} (hk : k < L.length) (hlen : L.length ≤ 1000000) {x : Nd} (hx : L.getD k ndEmpty = x) (ks : List Nat) (hks : kidsF L (k : Int) = ks) (hkn : ks.length ≤ 1000000)
    (hkind : x.kind = 1) (IH : ∀ j ∈ ks, NodeW L j) (hT : textAt L k = headT x ++ (partT (x.kind == 6) (ks.map (textAt L)) ks.length ++ tailT x)) : NodeW L k := by
  have hmf : ∀ (fn : Fn) (first cap : Array Value) (w : World), (Instr.makeFunc fn first cap).run Tryz.prog w = .ok (.func fn first cap) w := fun _ _ _ _ => rfl
  intro w B g A c T hN hW hlt
  rw [hT] at hlt ⊢
  clear hT
  obtain ⟨kd, kc, xn, xm, f⟩ := x
  simp only at hkind
  subst hkind
  have hpl := fun t (ht : t ≤ ks.length) => partT_le (b := false) (K := ks.map (textAt L)) (ks.length - t) t (by rw [List.length_map]; omega)
  rw [List.length_map] at hpl
  have HPL := Lib.hid hpl; clear hpl
  have HPS := Lib.hid (fun t (ht : t < ks.length) => partT_succ (b := false) (K := ks.map (textAt L)) (t := t) (by rw [List.length_map]; exact ht))
  have HIH := Lib.hid IH; clear IH
  have HF := Lib.hid hF; clear hF
  have e6 : ((1 : Int) == 6) = false := rfl
  simp only [e6] at hlt ⊢
  clear e6
  rw [show headT ⟨1, kc, xn, xm, f⟩ = [] from rfl, show tailT ⟨1, kc, xn, xm, f⟩ = [] from rfl] at hlt ⊢
  obtain ⟨b, off, hA, hbB, hn8⟩ := hN.node hk
  rw [hx] at hn8
  obtain ⟨n0, n1, n2, n3, n4, n5, n6, n7⟩ := hn8
  simp only at n0 n1 n2 n3 n4 n5 n6 n7
  clear hx
  have HKS := Lib.hid hks; clear hks
  have HN := Lib.hid hN; clear hN
  obtain ⟨q, Ab, cb, hw⟩ := hW
  have hgl : g < w.heap.size := hw.slab.lt
  have hB0 : B ≤ w.heap.size := hw.le
  obtain ⟨c0, f0⟩ := hw.slab.facts
  have HW := Lib.hid hw; clear hw
  subst hA
  have hbl : b < w.heap.size := by omega
  have hal := (Below.refl w.heap.size w).alloc (Nat.le_refl _) (.cells #[.int .i64 1, .int .i64 kc, .int .i64 xn, .int .i64 xm, .int .u64 (wd f 0), .int .u64 (wd f 1), .int .u64 (wd f 2), .int .u64 (wd f 3)] 51)
  have HWA := Lib.hid (HW.out.keep hal)
  have HNA := Lib.hid (HN.out.below ((Below.refl B w).alloc hB0 (.cells #[.int .i64 1, .int .i64 kc, .int .i64 xn, .int .i64 xm, .int .u64 (wd f 0), .int .u64 (wd f 1), .int .u64 (wd f 2), .int .u64 (wd f 3)] 51)))
  have HBA := Lib.hid ((Below.refl B w).alloc hB0 (.cells #[.int .i64 1, .int .i64 kc, .int .i64 xn, .int .i64 xm, .int .u64 (wd f 0), .int .u64 (wd f 1), .int .u64 (wd f 2), .int .u64 (wd f 3)] 51))
  have HKA := Lib.hid (Kept.of (g := g) hal)
  have HSA := Lib.hid (show Slab (w.alloc (.cells #[.int .i64 1, .int .i64 kc, .int .i64 xn, .int .i64 xm, .int .u64 (wd f 0), .int .u64 (wd f 1), .int .u64 (wd f 2), .int .u64 (wd f 3)] 51)) w.heap.size #[.int .i64 1, .int .i64 kc, .int .i64 xn, .int .i64 xm, .int .u64 (wd f 0), .int .u64 (wd f 1), .int .u64 (wd f 2), .int .u64 (wd f 3)] 51 from Slab.new _ _ _)
  have hba : B ≤ (w.alloc (.cells #[.int .i64 1, .int .i64 kc, .int .i64 xn, .int .i64 xm, .int .u64 (wd f 0), .int .u64 (wd f 1), .int .u64 (wd f 2), .int .u64 (wd f 3)] 51)).heap.size := HWA.out.le
  obtain ⟨ca, fa⟩ := HWA.out.slab.facts
  obtain ⟨cs_, fs_⟩ := HSA.out.facts
  clear hal
  go_enter Tryz.func60, Tryz.ntmps60
  have CK := kids_any (some ⟨b, off, none⟩) c L (k : Int) _ (HNA.out.more hba)
  rw [HKS.out] at CK
  go_wp2_with fail
  refine CK.mono ?_
  rintro e1 w1 ⟨A1, c1, rfl, hown1, hb1⟩
  have hw1 := HWA.out.keep hb1
  have HK1 := Lib.hid (KidsAt.of hown1 hw1.slab)
  have HW1 := Lib.hid hw1
  have HB1 := Lib.hid (HBA.out.trans (hb1.mono hba))
  have HKP1 := Lib.hid (HKA.out.trans (Kept.of hb1))
  have HS1 := Lib.hid (HSA.out.call hb1)
  have HN1 := Lib.hid (HN.out.below HB1.out)
  clear CK hb1 hown1 hw1
  go_wp2_with fail
  go_loopw [29] (fun i wr => ∃ t : Nat, t ≤ ks.length ∧ i = .int .i64 (t : Int) ∧ Below B w wr ∧ Kept g w1 wr ∧ Wr wr B g (.slice (some ⟨b, off, none⟩) L.length c) (T ++ ([] ++ partT false (ks.map (textAt L)) t))) (fun i _ => ks.length - (intOf i).toNat)
  case atStart => exact ⟨0, Nat.zero_le _, rfl, HB1.out, Kept.refl _ _, by rw [partT_zero, List.append_nil]; first | exact ⟨_, _, _, HW1.out⟩ | exact HW1.out | (rw [List.append_nil]; exact ⟨_, _, _, HW1.out⟩)⟩
  case round =>
    obtain ⟨t, ht, rfl, hB, hKp, hWr⟩ := hrel
    have hs := hKp _ _ _ HS1.out (by omega) (by decide)
    have HB := Lib.hid hB
    have HKP := Lib.hid hKp
    have HWR := Lib.hid hWr
    obtain ⟨cn, fn_⟩ := hs.facts
    have HSN := Lib.hid hs
    clear hB hWr hs
    by_cases hlt' : t < ks.length
    · obtain ⟨bk, hA1, hc⟩ := (HK1.out.keep hKp).at_ hlt'
      subst hA1
      have hstep := HPS.out t hlt'
      rw [map_getD hlt'] at hstep
      have hle := HPL.out (t + 1) hlt'
      have HIJ := Lib.hid (HIH.out _ (getD_mem hlt'))
      generalize ks.getD t 0 = j at *
      simp only [List.length_append] at hlt
      rw [show (false && decide (0 < t)) = false from rfl, if_neg (by simp), List.nil_append] at hstep
      have C := HIJ.out wr B g (some ⟨b, off, none⟩) c _ (HN.out.below HB.out) HWR.out (by rw [hstep] at hle; simp only [List.length_append, List.length_nil, List.length_cons] at hle hlt ⊢; omega)
      have HST := Lib.hid hstep
      clear hstep hle hKp
      go_wp2_with fail
      all_goals
        refine C.mono ?_
        rintro e2 w2 ⟨rfl, hb2, hk2, hw2⟩
        have HB2 := Lib.hid (HB.out.trans hb2)
        have HK2 := Lib.hid (HKP.out.trans hk2)
        have HW2 := Lib.hid hw2
        clear hb2 hk2 hw2
        go_wp2
        go_roundw
        case rel => exact ⟨t + 1, by omega, by go_num, HB2.out, HK2.out, by rw [HST.out]; have := HW2.out; simpa [List.append_assoc] using this⟩
        case measure => simp [intOf]; omega
    · have hte : t = ks.length := by omega
      subst hte
      clear hKp
      go_wp2
      first | go_end0 | skip
      exact ⟨rfl, HB.out, HKP1.out.trans HKP.out, by have h := HWR.out; simpa using h⟩
set_option maxRecDepth 100000 in
set_option maxHeartbeats 2000000 in
theorem node_cat {L : List Nd} (hF : formedF L = true) {k : Nat} (hk : k < L.length) (hlen : L.length ≤ 1000000) {x : Nd} (hx : L.getD k ndEmpty = x) (ks : List Nat) (hks : kidsF L (k : Int) = ks) (hkn : ks.length ≤ 1000000)
    (hkind : x.kind = 5) (IH : ∀ j ∈ ks, NodeW L j) (hT : textAt L k = headT x ++ (partT (x.kind == 6) (ks.map (textAt L)) ks.length ++ tailT x)) : NodeW L k := by
  have hmf : ∀ (fn : Fn) (first cap : Array Value) (w : World), (Instr.makeFunc fn first cap).run Tryz.prog w = .ok (.func fn first cap) w := fun _ _ _ _ => rfl
  intro w B g A c T hN hW hlt
  rw [hT] at hlt ⊢
  clear hT
  obtain ⟨kd, kc, xn, xm, f⟩ := x
  simp only at hkind
  subst hkind
  have hpl := fun t (ht : t ≤ ks.length) => partT_le (b := false) (K := ks.map (textAt L)) (ks.length - t) t (by rw [List.length_map]; omega)
  rw [List.length_map] at hpl
  have HPL := Lib.hid hpl; clear hpl
  have HPS := Lib.hid (fun t (ht : t < ks.length) => partT_succ (b := false) (K := ks.map (textAt L)) (t := t) (by rw [List.length_map]; exact ht))
  have HIH := Lib.hid IH; clear IH
  have HF := Lib.hid hF; clear hF
  have e6 : ((5 : Int) == 6) = false := rfl
  simp only [e6] at hlt ⊢
  clear e6
  rw [show headT ⟨5, kc, xn, xm, f⟩ = [] from rfl, show tailT ⟨5, kc, xn, xm, f⟩ = [] from rfl] at hlt ⊢
  obtain ⟨b, off, hA, hbB, hn8⟩ := hN.node hk
  rw [hx] at hn8
  obtain ⟨n0, n1, n2, n3, n4, n5, n6, n7⟩ := hn8
  simp only at n0 n1 n2 n3 n4 n5 n6 n7
  clear hx
  have HKS := Lib.hid hks; clear hks
  have HN := Lib.hid hN; clear hN
  obtain ⟨q, Ab, cb, hw⟩ := hW
  have hgl : g < w.heap.size := hw.slab.lt
  have hB0 : B ≤ w.heap.size := hw.le
  obtain ⟨c0, f0⟩ := hw.slab.facts
  have HW := Lib.hid hw; clear hw
  subst hA
  have hbl : b < w.heap.size := by omega
  have hal := (Below.refl w.heap.size w).alloc (Nat.le_refl _) (.cells #[.int .i64 5, .int .i64 kc, .int .i64 xn, .int .i64 xm, .int .u64 (wd f 0), .int .u64 (wd f 1), .int .u64 (wd f 2), .int .u64 (wd f 3)] 51)
  have HWA := Lib.hid (HW.out.keep hal)
  have HNA := Lib.hid (HN.out.below ((Below.refl B w).alloc hB0 (.cells #[.int .i64 5, .int .i64 kc, .int .i64 xn, .int .i64 xm, .int .u64 (wd f 0), .int .u64 (wd f 1), .int .u64 (wd f 2), .int .u64 (wd f 3)] 51)))
  have HBA := Lib.hid ((Below.refl B w).alloc hB0 (.cells #[.int .i64 5, .int .i64 kc, .int .i64 xn, .int .i64 xm, .int .u64 (wd f 0), .int .u64 (wd f 1), .int .u64 (wd f 2), .int .u64 (wd f 3)] 51))
  have HKA := Lib.hid (Kept.of (g := g) hal)
  have HSA := Lib.hid (show Slab (w.alloc (.cells #[.int .i64 5, .int .i64 kc, .int .i64 xn, .int .i64 xm, .int .u64 (wd f 0), .int .u64 (wd f 1), .int .u64 (wd f 2), .int .u64 (wd f 3)] 51)) w.heap.size #[.int .i64 5, .int .i64 kc, .int .i64 xn, .int .i64 xm, .int .u64 (wd f 0), .int .u64 (wd f 1), .int .u64 (wd f 2), .int .u64 (wd f 3)] 51 from Slab.new _ _ _)
  have hba : B ≤ (w.alloc (.cells #[.int .i64 5, .int .i64 kc, .int .i64 xn, .int .i64 xm, .int .u64 (wd f 0), .int .u64 (wd f 1), .int .u64 (wd f 2), .int .u64 (wd f 3)] 51)).heap.size := HWA.out.le
  obtain ⟨ca, fa⟩ := HWA.out.slab.facts
  obtain ⟨cs_, fs_⟩ := HSA.out.facts
  clear hal
  go_enter Tryz.func60, Tryz.ntmps60
  have CK := kids_any (some ⟨b, off, none⟩) c L (k : Int) _ (HNA.out.more hba)
  rw [HKS.out] at CK
  go_wp2_with fail
  refine CK.mono ?_
  rintro e1 w1 ⟨A1, c1, rfl, hown1, hb1⟩
  have hw1 := HWA.out.keep hb1
  have HK1 := Lib.hid (KidsAt.of hown1 hw1.slab)
  have HW1 := Lib.hid hw1
  have HB1 := Lib.hid (HBA.out.trans (hb1.mono hba))
  have HKP1 := Lib.hid (HKA.out.trans (Kept.of hb1))
  have HS1 := Lib.hid (HSA.out.call hb1)
  have HN1 := Lib.hid (HN.out.below HB1.out)
  clear CK hb1 hown1 hw1
  go_wp2_with fail
  go_loopw [29] (fun i wr => ∃ t : Nat, t ≤ ks.length ∧ i = .int .i64 (t : Int) ∧ Below B w wr ∧ Kept g w1 wr ∧ Wr wr B g (.slice (some ⟨b, off, none⟩) L.length c) (T ++ ([] ++ partT false (ks.map (textAt L)) t))) (fun i _ => ks.length - (intOf i).toNat)
  case atStart => exact ⟨0, Nat.zero_le _, rfl, HB1.out, Kept.refl _ _, by rw [partT_zero, List.append_nil]; first | exact ⟨_, _, _, HW1.out⟩ | exact HW1.out | (rw [List.append_nil]; exact ⟨_, _, _, HW1.out⟩)⟩
  case round =>
    obtain ⟨t, ht, rfl, hB, hKp, hWr⟩ := hrel
    have hs := hKp _ _ _ HS1.out (by omega) (by decide)
    have HB := Lib.hid hB
    have HKP := Lib.hid hKp
    have HWR := Lib.hid hWr
    obtain ⟨cn, fn_⟩ := hs.facts
    have HSN := Lib.hid hs
    clear hB hWr hs
    by_cases hlt' : t < ks.length
    · obtain ⟨bk, hA1, hc⟩ := (HK1.out.keep hKp).at_ hlt'
      subst hA1
      have hstep := HPS.out t hlt'
      rw [map_getD hlt'] at hstep
      have hle := HPL.out (t + 1) hlt'
      have HIJ := Lib.hid (HIH.out _ (getD_mem hlt'))
      generalize ks.getD t 0 = j at *
      simp only [List.length_append] at hlt
      rw [show (false && decide (0 < t)) = false from rfl, if_neg (by simp), List.nil_append] at hstep
      have C := HIJ.out wr B g (some ⟨b, off, none⟩) c _ (HN.out.below HB.out) HWR.out (by rw [hstep] at hle; simp only [List.length_append, List.length_nil, List.length_cons] at hle hlt ⊢; omega)
      have HST := Lib.hid hstep
      clear hstep hle hKp
      go_wp2_with fail
      all_goals
        refine C.mono ?_
        rintro e2 w2 ⟨rfl, hb2, hk2, hw2⟩
        have HB2 := Lib.hid (HB.out.trans hb2)
        have HK2 := Lib.hid (HKP.out.trans hk2)
        have HW2 := Lib.hid hw2
        clear hb2 hk2 hw2
        go_wp2
        go_roundw
        case rel => exact ⟨t + 1, by omega, by go_num, HB2.out, HK2.out, by rw [HST.out]; have := HW2.out; simpa [List.append_assoc] using this⟩
        case measure => simp [intOf]; omega
    · have hte : t = ks.length := by omega
      subst hte
      clear hKp
      go_wp2
      first | go_end0 | skip
      exact ⟨rfl, HB.out, HKP1.out.trans HKP.out, by have h := HWR.out; simpa using h⟩
set_option maxRecDepth 100000 in
set_option maxHeartbeats 2000000 in
theorem node_rep {L : List Nd} (hF : formedF L = true) {k : Nat} (hk : k < L.length) (hlen : L.length ≤ 1000000) {x : Nd} (hx : L.getD k ndEmpty = x) (ks : List Nat) (hks : kidsF L (k : Int) = ks) (hkn : ks.length ≤ 1000000)
    (hkind : x.kind = 4) (IH : ∀ j ∈ ks, NodeW L j) (hT : textAt L k = headT x ++ (partT (x.kind == 6) (ks.map (textAt L)) ks.length ++ tailT x)) : NodeW L k := by
  have hmf : ∀ (fn : Fn) (first cap : Array Value) (w : World), (Instr.makeFunc fn first cap).run Tryz.prog w = .ok (.func fn first cap) w := fun _ _ _ _ => rfl
  intro w B g A c T hN hW hlt
  rw [hT] at hlt ⊢
  clear hT
  obtain ⟨kd, kc, xn, xm, f⟩ := x
  simp only at hkind
  subst hkind
  have hpl := fun t (ht : t ≤ ks.length) => partT_le (b := false) (K := ks.map (textAt L)) (ks.length - t) t (by rw [List.length_map]; omega)
  rw [List.length_map] at hpl
  have HPL := Lib.hid hpl; clear hpl
  have HPS := Lib.hid (fun t (ht : t < ks.length) => partT_succ (b := false) (K := ks.map (textAt L)) (t := t) (by rw [List.length_map]; exact ht))
  have HIH := Lib.hid IH; clear IH
  have HF := Lib.hid hF; clear hF
  have e6 : ((4 : Int) == 6) = false := rfl
  simp only [e6] at hlt ⊢
  clear e6
  rw [show headT ⟨4, kc, xn, xm, f⟩ = [] from rfl, show tailT ⟨4, kc, xn, xm, f⟩ = textF xn xm from rfl] at hlt ⊢
  obtain ⟨b, off, hA, hbB, hn8⟩ := hN.node hk
  rw [hx] at hn8
  obtain ⟨n0, n1, n2, n3, n4, n5, n6, n7⟩ := hn8
  simp only at n0 n1 n2 n3 n4 n5 n6 n7
  clear hx
  have HKS := Lib.hid hks; clear hks
  have HN := Lib.hid hN; clear hN
  obtain ⟨q, Ab, cb, hw⟩ := hW
  have hgl : g < w.heap.size := hw.slab.lt
  have hB0 : B ≤ w.heap.size := hw.le
  obtain ⟨c0, f0⟩ := hw.slab.facts
  have HW := Lib.hid hw; clear hw
  subst hA
  have hbl : b < w.heap.size := by omega
  have hal := (Below.refl w.heap.size w).alloc (Nat.le_refl _) (.cells #[.int .i64 4, .int .i64 kc, .int .i64 xn, .int .i64 xm, .int .u64 (wd f 0), .int .u64 (wd f 1), .int .u64 (wd f 2), .int .u64 (wd f 3)] 51)
  have HWA := Lib.hid (HW.out.keep hal)
  have HNA := Lib.hid (HN.out.below ((Below.refl B w).alloc hB0 (.cells #[.int .i64 4, .int .i64 kc, .int .i64 xn, .int .i64 xm, .int .u64 (wd f 0), .int .u64 (wd f 1), .int .u64 (wd f 2), .int .u64 (wd f 3)] 51)))
  have HBA := Lib.hid ((Below.refl B w).alloc hB0 (.cells #[.int .i64 4, .int .i64 kc, .int .i64 xn, .int .i64 xm, .int .u64 (wd f 0), .int .u64 (wd f 1), .int .u64 (wd f 2), .int .u64 (wd f 3)] 51))
  have HKA := Lib.hid (Kept.of (g := g) hal)
  have HSA := Lib.hid (show Slab (w.alloc (.cells #[.int .i64 4, .int .i64 kc, .int .i64 xn, .int .i64 xm, .int .u64 (wd f 0), .int .u64 (wd f 1), .int .u64 (wd f 2), .int .u64 (wd f 3)] 51)) w.heap.size #[.int .i64 4, .int .i64 kc, .int .i64 xn, .int .i64 xm, .int .u64 (wd f 0), .int .u64 (wd f 1), .int .u64 (wd f 2), .int .u64 (wd f 3)] 51 from Slab.new _ _ _)
  have hba : B ≤ (w.alloc (.cells #[.int .i64 4, .int .i64 kc, .int .i64 xn, .int .i64 xm, .int .u64 (wd f 0), .int .u64 (wd f 1), .int .u64 (wd f 2), .int .u64 (wd f 3)] 51)).heap.size := HWA.out.le
  obtain ⟨ca, fa⟩ := HWA.out.slab.facts
  obtain ⟨cs_, fs_⟩ := HSA.out.facts
  clear hal
  go_enter Tryz.func60, Tryz.ntmps60
  have CK := kids_any (some ⟨b, off, none⟩) c L (k : Int) _ (HNA.out.more hba)
  rw [HKS.out] at CK
  go_wp2_with fail
  refine CK.mono ?_
  rintro e1 w1 ⟨A1, c1, rfl, hown1, hb1⟩
  have hw1 := HWA.out.keep hb1
  have HK1 := Lib.hid (KidsAt.of hown1 hw1.slab)
  have HW1 := Lib.hid hw1
  have HB1 := Lib.hid (HBA.out.trans (hb1.mono hba))
  have HKP1 := Lib.hid (HKA.out.trans (Kept.of hb1))
  have HS1 := Lib.hid (HSA.out.call hb1)
  have HN1 := Lib.hid (HN.out.below HB1.out)
  clear CK hb1 hown1 hw1
  go_wp2_with fail
  go_loopw [29] (fun i wr => ∃ t : Nat, t ≤ ks.length ∧ i = .int .i64 (t : Int) ∧ Below B w wr ∧ Kept g w1 wr ∧ Wr wr B g (.slice (some ⟨b, off, none⟩) L.length c) (T ++ ([] ++ partT false (ks.map (textAt L)) t))) (fun i _ => ks.length - (intOf i).toNat)
  case atStart => exact ⟨0, Nat.zero_le _, rfl, HB1.out, Kept.refl _ _, by rw [partT_zero, List.append_nil]; first | exact ⟨_, _, _, HW1.out⟩ | exact HW1.out | (rw [List.append_nil]; exact ⟨_, _, _, HW1.out⟩)⟩
  case round =>
    obtain ⟨t, ht, rfl, hB, hKp, hWr⟩ := hrel
    have hs := hKp _ _ _ HS1.out (by omega) (by decide)
    have HB := Lib.hid hB
    have HKP := Lib.hid hKp
    have HWR := Lib.hid hWr
    obtain ⟨cn, fn_⟩ := hs.facts
    have HSN := Lib.hid hs
    clear hB hWr hs
    by_cases hlt' : t < ks.length
    · obtain ⟨bk, hA1, hc⟩ := (HK1.out.keep hKp).at_ hlt'
      subst hA1
      have hstep := HPS.out t hlt'
      rw [map_getD hlt'] at hstep
      have hle := HPL.out (t + 1) hlt'
      have HIJ := Lib.hid (HIH.out _ (getD_mem hlt'))
      generalize ks.getD t 0 = j at *
      simp only [List.length_append] at hlt
      rw [show (false && decide (0 < t)) = false from rfl, if_neg (by simp), List.nil_append] at hstep
      have C := HIJ.out wr B g (some ⟨b, off, none⟩) c _ (HN.out.below HB.out) HWR.out (by rw [hstep] at hle; simp only [List.length_append, List.length_nil, List.length_cons] at hle hlt ⊢; omega)
      have HST := Lib.hid hstep
      clear hstep hle hKp
      go_wp2_with fail
      all_goals
        refine C.mono ?_
        rintro e2 w2 ⟨rfl, hb2, hk2, hw2⟩
        have HB2 := Lib.hid (HB.out.trans hb2)
        have HK2 := Lib.hid (HKP.out.trans hk2)
        have HW2 := Lib.hid hw2
        clear hb2 hk2 hw2
        go_wp2
        go_roundw
        case rel => exact ⟨t + 1, by omega, by go_num, HB2.out, HK2.out, by rw [HST.out]; have := HW2.out; simpa [List.append_assoc] using this⟩
        case measure => simp [intOf]; omega
    · have hte : t = ks.length := by omega
      subst hte
      clear hKp
      go_wp2_with fail
      refine (text_any xn xm _).mono ?_
      rintro e3 w3 ⟨rfl, hb3⟩
      have C9 := put9_any (HWR.out.keep hb3) (⟨(textF xn xm).toArray⟩) (by show _ + (textF xn xm).toArray.size ≤ _; simp only [List.length_append, List.length_nil, List.length_cons, List.size_toArray] at hlt ⊢; omega)
      have HB3 := Lib.hid (HB.out.trans (hb3.mono (Nat.le_trans hB0 (Nat.le_trans (Nat.le_of_lt (by have := HSN.out.lt; omega)) (Nat.le_refl _)))))
      have HK3 := Lib.hid (HKP.out.trans (Kept.of hb3))
      clear hb3
      go_wp2_with fail
      refine C9.mono ?_
      rintro e5 w5 ⟨rfl, hb5, hk5, hw5⟩
      go_wp2
      first | go_end0 | skip
      exact ⟨rfl, HB3.out.trans hb5, HKP1.out.trans (HK3.out.trans hk5), by simpa [List.append_assoc] using hw5⟩
end Go.Proofs.YtfcgmgpcbenfpaaGreat

/- Walks of the package print: the text of a node that is an Alt, or a Group; of any node. -/
namespace Go.Proofs.YtfcgmgpcbenfpaaGreat
open Go.RowKit SetP BrkP LexP AstP ParP
set_option maxRecDepth 100000 in
set_option maxHeartbeats 2000000 in
theorem node_alt {L : List Nd} (hF : formedF L = true) {k : Nat} (hk : k < L.length) (hlen : L.length ≤ 1000000) {x : Nd} (hx : L.getD k ndEmpty = x) (ks : List Nat) (hks : kidsF L (k : Int) = ks) (hkn : ks.length ≤ 1000000)
    (hkind : x.kind = 6) (IH : ∀ j ∈ ks, NodeW L j) (hT : textAt L k = headT x ++ (partT (x.kind == 6) (ks.map (textAt L)) ks.length ++ tailT x)) : NodeW L k := by
  have hmf : ∀ (fn : Fn) (first cap : Array Value) (w : World), (Instr.makeFunc fn first cap).run Tryz.prog w = .ok (.func fn first cap) w := fun _ _ _ _ => rfl
  intro w B g A c T hN hW hlt
  rw [hT] at hlt ⊢
  clear hT
  obtain ⟨kd, kc, xn, xm, f⟩ := x
  simp only at hkind
  subst hkind
  have hpl := fun t (ht : t ≤ ks.length) => partT_le (b := true) (K := ks.map (textAt L)) (ks.length - t) t (by rw [List.length_map]; omega)
  rw [List.length_map] at hpl
  have HPL := Lib.hid hpl; clear hpl
  have HPS := Lib.hid (fun t (ht : t < ks.length) => partT_succ (b := true) (K := ks.map (textAt L)) (t := t) (by rw [List.length_map]; exact ht))
  have HIH := Lib.hid IH; clear IH
  have HF := Lib.hid hF; clear hF
  have e6 : ((6 : Int) == 6) = true := rfl
  simp only [e6] at hlt ⊢
  clear e6
  rw [show headT ⟨6, kc, xn, xm, f⟩ = [] from rfl, show tailT ⟨6, kc, xn, xm, f⟩ = [] from rfl] at hlt ⊢
  obtain ⟨b, off, hA, hbB, hn8⟩ := hN.node hk
  rw [hx] at hn8
  obtain ⟨n0, n1, n2, n3, n4, n5, n6, n7⟩ := hn8
  simp only at n0 n1 n2 n3 n4 n5 n6 n7
  clear hx
  have HKS := Lib.hid hks; clear hks
  have HN := Lib.hid hN; clear hN
  obtain ⟨q, Ab, cb, hw⟩ := hW
  have hgl : g < w.heap.size := hw.slab.lt
  have hB0 : B ≤ w.heap.size := hw.le
  obtain ⟨c0, f0⟩ := hw.slab.facts
  have HW := Lib.hid hw; clear hw
  subst hA
  have hbl : b < w.heap.size := by omega
  have hal := (Below.refl w.heap.size w).alloc (Nat.le_refl _) (.cells #[.int .i64 6, .int .i64 kc, .int .i64 xn, .int .i64 xm, .int .u64 (wd f 0), .int .u64 (wd f 1), .int .u64 (wd f 2), .int .u64 (wd f 3)] 51)
  have HWA := Lib.hid (HW.out.keep hal)
  have HNA := Lib.hid (HN.out.below ((Below.refl B w).alloc hB0 (.cells #[.int .i64 6, .int .i64 kc, .int .i64 xn, .int .i64 xm, .int .u64 (wd f 0), .int .u64 (wd f 1), .int .u64 (wd f 2), .int .u64 (wd f 3)] 51)))
  have HBA := Lib.hid ((Below.refl B w).alloc hB0 (.cells #[.int .i64 6, .int .i64 kc, .int .i64 xn, .int .i64 xm, .int .u64 (wd f 0), .int .u64 (wd f 1), .int .u64 (wd f 2), .int .u64 (wd f 3)] 51))
  have HKA := Lib.hid (Kept.of (g := g) hal)
  have HSA := Lib.hid (show Slab (w.alloc (.cells #[.int .i64 6, .int .i64 kc, .int .i64 xn, .int .i64 xm, .int .u64 (wd f 0), .int .u64 (wd f 1), .int .u64 (wd f 2), .int .u64 (wd f 3)] 51)) w.heap.size #[.int .i64 6, .int .i64 kc, .int .i64 xn, .int .i64 xm, .int .u64 (wd f 0), .int .u64 (wd f 1), .int .u64 (wd f 2), .int .u64 (wd f 3)] 51 from Slab.new _ _ _)
  have hba : B ≤ (w.alloc (.cells #[.int .i64 6, .int .i64 kc, .int .i64 xn, .int .i64 xm, .int .u64 (wd f 0), .int .u64 (wd f 1), .int .u64 (wd f 2), .int .u64 (wd f 3)] 51)).heap.size := HWA.out.le
  obtain ⟨ca, fa⟩ := HWA.out.slab.facts
  obtain ⟨cs_, fs_⟩ := HSA.out.facts
  clear hal
  go_enter Tryz.func60, Tryz.ntmps60
  have CK := kids_any (some ⟨b, off, none⟩) c L (k : Int) _ (HNA.out.more hba)
  rw [HKS.out] at CK
  go_wp2_with fail
  refine CK.mono ?_
  rintro e1 w1 ⟨A1, c1, rfl, hown1, hb1⟩
  have hw1 := HWA.out.keep hb1
  have HK1 := Lib.hid (KidsAt.of hown1 hw1.slab)
  have HW1 := Lib.hid hw1
  have HB1 := Lib.hid (HBA.out.trans (hb1.mono hba))
  have HKP1 := Lib.hid (HKA.out.trans (Kept.of hb1))
  have HS1 := Lib.hid (HSA.out.call hb1)
  have HN1 := Lib.hid (HN.out.below HB1.out)
  clear CK hb1 hown1 hw1
  go_wp2_with fail
  go_loopw [29] (fun i wr => ∃ t : Nat, t ≤ ks.length ∧ i = .int .i64 (t : Int) ∧ Below B w wr ∧ Kept g w1 wr ∧ Wr wr B g (.slice (some ⟨b, off, none⟩) L.length c) (T ++ ([] ++ partT true (ks.map (textAt L)) t))) (fun i _ => ks.length - (intOf i).toNat)
  case atStart => exact ⟨0, Nat.zero_le _, rfl, HB1.out, Kept.refl _ _, by rw [partT_zero, List.append_nil]; first | exact ⟨_, _, _, HW1.out⟩ | exact HW1.out | (rw [List.append_nil]; exact ⟨_, _, _, HW1.out⟩)⟩
  case round =>
    obtain ⟨t, ht, rfl, hB, hKp, hWr⟩ := hrel
    have hs := hKp _ _ _ HS1.out (by omega) (by decide)
    have HB := Lib.hid hB
    have HKP := Lib.hid hKp
    have HWR := Lib.hid hWr
    obtain ⟨cn, fn_⟩ := hs.facts
    have HSN := Lib.hid hs
    clear hB hWr hs
    by_cases hlt' : t < ks.length
    · obtain ⟨bk, hA1, hc⟩ := (HK1.out.keep hKp).at_ hlt'
      subst hA1
      have hstep := HPS.out t hlt'
      rw [map_getD hlt'] at hstep
      have hle := HPL.out (t + 1) hlt'
      have HIJ := Lib.hid (HIH.out _ (getD_mem hlt'))
      generalize ks.getD t 0 = j at *
      simp only [List.length_append] at hlt
      by_cases h0 : t = 0
      · subst h0
        rw [show (true && decide (0 < 0)) = false from rfl, if_neg (by simp), List.nil_append] at hstep
        have C := HIJ.out wr B g (some ⟨b, off, none⟩) c _ (HN.out.below HB.out) HWR.out (by rw [hstep] at hle; simp only [List.length_append, List.length_nil, List.length_cons] at hle hlt ⊢; omega)
        have HST := Lib.hid hstep
        clear hstep hle hKp
        go_wp2_with fail
        refine C.mono ?_
        rintro e2 w2 ⟨rfl, hb2, hk2, hw2⟩
        have HB2 := Lib.hid (HB.out.trans hb2)
        have HK2 := Lib.hid (HKP.out.trans hk2)
        have HW2 := Lib.hid hw2
        clear hb2 hk2 hw2
        go_wp2
        go_roundw
        case rel => exact ⟨1, by omega, rfl, HB2.out, HK2.out, by have h := HST.out; rw [show 0 + 1 = 1 from rfl] at h; rw [h]; have := HW2.out; simpa [List.append_assoc] using this⟩
        case measure => simp [intOf]; omega
      · have h0' : 0 < t := by omega
        have h1' : decide (0 < (t : Int)) = true := decide_eq_true (by omega)
        rw [show (true && decide (0 < t)) = true by simp [h0'], if_pos rfl] at hstep
        have C9 := put9_any HWR.out (⟨#[124]⟩) (by show _ + 1 ≤ _; rw [hstep] at hle; simp only [List.length_append, List.length_nil, List.length_cons] at hle hlt ⊢; omega)
        have hb124 : (⟨#[124]⟩ : ByteArray).data.toList = [124] := rfl
        rw [hb124] at C9
        have HST := Lib.hid hstep
        have HLE := Lib.hid hle
        clear hstep hle hKp hb124
        go_wp2_with fail
        refine C9.mono ?_
        rintro e1' w1' ⟨rfl, hb1', hk1', hw1'⟩
        have hk11 := HKP.out.trans hk1'
        have HB1' := Lib.hid (HB.out.trans hb1')
        have C := HIJ.out w1' B g (some ⟨b, off, none⟩) c _ (HN.out.below HB1'.out) hw1' (by have h := HLE.out; rw [HST.out] at h; simp only [List.length_append, List.length_nil, List.length_cons] at h hlt ⊢; omega)
        have hsn := hk11 _ _ _ HS1.out (by omega) (by decide)
        have hkc := (HK1.out.keep hk11).at_ hlt'
        have HK1' := Lib.hid hk11
        clear hk1' hb1' hw1' C9 hc cn fn_ hk11
        obtain ⟨bk', hA1', hc⟩ := hkc
        cases hA1'
        go_wp2_with fail
        refine C.mono ?_
        rintro e2 w2 ⟨rfl, hb2, hk2, hw2⟩
        have HB2 := Lib.hid (HB1'.out.trans hb2)
        have HK2 := Lib.hid (HK1'.out.trans hk2)
        have HW2 := Lib.hid hw2
        clear hb2 hk2 hw2
        go_wp2
        go_roundw
        case rel => exact ⟨t + 1, by omega, by go_num, HB2.out, HK2.out, by rw [HST.out]; have := HW2.out; simpa [List.append_assoc] using this⟩
        case measure => simp [intOf]; omega
    · have hte : t = ks.length := by omega
      subst hte
      clear hKp
      go_wp2
      first | go_end0 | skip
      exact ⟨rfl, HB.out, HKP1.out.trans HKP.out, by have h := HWR.out; simpa using h⟩
set_option maxRecDepth 100000 in
set_option maxHeartbeats 2000000 in
theorem node_group {L : List Nd} (hF : formedF L = true) {k : Nat} (hk : k < L.length) (hlen : L.length ≤ 1000000) {x : Nd} (hx : L.getD k ndEmpty = x) (ks : List Nat) (hks : kidsF L (k : Int) = ks) (hkn : ks.length ≤ 1000000)
    (hkind : x.kind = 3) (IH : ∀ j ∈ ks, NodeW L j) (hT : textAt L k = headT x ++ (partT (x.kind == 6) (ks.map (textAt L)) ks.length ++ tailT x)) : NodeW L k := by
  have hmf : ∀ (fn : Fn) (first cap : Array Value) (w : World), (Instr.makeFunc fn first cap).run Tryz.prog w = .ok (.func fn first cap) w := fun _ _ _ _ => rfl
  intro w B g A c T hN hW hlt
  rw [hT] at hlt ⊢
  clear hT
  obtain ⟨kd, kc, xn, xm, f⟩ := x
  simp only at hkind
  subst hkind
  have hpl := fun t (ht : t ≤ ks.length) => partT_le (b := false) (K := ks.map (textAt L)) (ks.length - t) t (by rw [List.length_map]; omega)
  rw [List.length_map] at hpl
  have HPL := Lib.hid hpl; clear hpl
  have HPS := Lib.hid (fun t (ht : t < ks.length) => partT_succ (b := false) (K := ks.map (textAt L)) (t := t) (by rw [List.length_map]; exact ht))
  have HIH := Lib.hid IH; clear IH
  have HF := Lib.hid hF; clear hF
  have e6 : ((3 : Int) == 6) = false := rfl
  simp only [e6] at hlt ⊢
  clear e6
  rw [show headT ⟨3, kc, xn, xm, f⟩ = [40] from rfl, show tailT ⟨3, kc, xn, xm, f⟩ = [41] from rfl] at hlt ⊢
  obtain ⟨b, off, hA, hbB, hn8⟩ := hN.node hk
  rw [hx] at hn8
  obtain ⟨n0, n1, n2, n3, n4, n5, n6, n7⟩ := hn8
  simp only at n0 n1 n2 n3 n4 n5 n6 n7
  clear hx
  have HKS := Lib.hid hks; clear hks
  have HN := Lib.hid hN; clear hN
  obtain ⟨q, Ab, cb, hw⟩ := hW
  have hgl : g < w.heap.size := hw.slab.lt
  have hB0 : B ≤ w.heap.size := hw.le
  obtain ⟨c0, f0⟩ := hw.slab.facts
  have HW := Lib.hid hw; clear hw
  subst hA
  have hbl : b < w.heap.size := by omega
  have hal := (Below.refl w.heap.size w).alloc (Nat.le_refl _) (.cells #[.int .i64 3, .int .i64 kc, .int .i64 xn, .int .i64 xm, .int .u64 (wd f 0), .int .u64 (wd f 1), .int .u64 (wd f 2), .int .u64 (wd f 3)] 51)
  have HWA := Lib.hid (HW.out.keep hal)
  have HNA := Lib.hid (HN.out.below ((Below.refl B w).alloc hB0 (.cells #[.int .i64 3, .int .i64 kc, .int .i64 xn, .int .i64 xm, .int .u64 (wd f 0), .int .u64 (wd f 1), .int .u64 (wd f 2), .int .u64 (wd f 3)] 51)))
  have HBA := Lib.hid ((Below.refl B w).alloc hB0 (.cells #[.int .i64 3, .int .i64 kc, .int .i64 xn, .int .i64 xm, .int .u64 (wd f 0), .int .u64 (wd f 1), .int .u64 (wd f 2), .int .u64 (wd f 3)] 51))
  have HKA := Lib.hid (Kept.of (g := g) hal)
  have HSA := Lib.hid (show Slab (w.alloc (.cells #[.int .i64 3, .int .i64 kc, .int .i64 xn, .int .i64 xm, .int .u64 (wd f 0), .int .u64 (wd f 1), .int .u64 (wd f 2), .int .u64 (wd f 3)] 51)) w.heap.size #[.int .i64 3, .int .i64 kc, .int .i64 xn, .int .i64 xm, .int .u64 (wd f 0), .int .u64 (wd f 1), .int .u64 (wd f 2), .int .u64 (wd f 3)] 51 from Slab.new _ _ _)
  have hba : B ≤ (w.alloc (.cells #[.int .i64 3, .int .i64 kc, .int .i64 xn, .int .i64 xm, .int .u64 (wd f 0), .int .u64 (wd f 1), .int .u64 (wd f 2), .int .u64 (wd f 3)] 51)).heap.size := HWA.out.le
  obtain ⟨ca, fa⟩ := HWA.out.slab.facts
  obtain ⟨cs_, fs_⟩ := HSA.out.facts
  clear hal
  go_enter Tryz.func60, Tryz.ntmps60
  have C0 := put9_any ⟨_, _, _, HWA.out⟩ (⟨#[40]⟩) (by show _ + 1 ≤ _; simp only [List.length_append, List.length_nil, List.length_cons] at hlt ⊢; omega)
  have hb40 : (⟨#[40]⟩ : ByteArray).data.toList = [40] := rfl
  rw [hb40] at C0
  clear hb40
  go_wp2_with fail
  refine C0.mono ?_
  rintro e0 w0 ⟨rfl, hb0, hk0, q9, Ab9, cb9, hw9⟩
  have HW9 := Lib.hid hw9
  have HB9 := Lib.hid (HBA.out.trans hb0)
  have HK9 := Lib.hid (HKA.out.trans hk0)
  have HS9 := Lib.hid (hk0 _ _ _ HSA.out (by omega) (by decide))
  obtain ⟨c9, f9⟩ := hw9.slab.facts
  clear ca fa cs_ fs_ c0 f0 n0 n1 n2 n3 n4 n5 n6 n7 hb0 hk0 hw9 C0
  have CK := kids_any (some ⟨b, off, none⟩) c L (k : Int) _ ((HN.out.below HB9.out).more HW9.out.le)
  rw [HKS.out] at CK
  go_wp2_with fail
  refine CK.mono ?_
  rintro e1 w1 ⟨A1, c1, rfl, hown1, hb1⟩
  have hw1 := HW9.out.keep hb1
  have HK1 := Lib.hid (KidsAt.of hown1 hw1.slab)
  have HW1 := Lib.hid hw1
  have HB1 := Lib.hid (HB9.out.trans (hb1.mono HW9.out.le))
  have HKP1 := Lib.hid (HK9.out.trans (Kept.of hb1))
  have HS1 := Lib.hid (HS9.out.call hb1)
  have HN1 := Lib.hid (HN.out.below HB1.out)
  clear CK hb1 hown1 hw1
  go_wp2_with fail
  go_loopw [29] (fun i wr => ∃ t : Nat, t ≤ ks.length ∧ i = .int .i64 (t : Int) ∧ Below B w wr ∧ Kept g w1 wr ∧ Wr wr B g (.slice (some ⟨b, off, none⟩) L.length c) (T ++ ([40] ++ partT false (ks.map (textAt L)) t))) (fun i _ => ks.length - (intOf i).toNat)
  case atStart => exact ⟨0, Nat.zero_le _, rfl, HB1.out, Kept.refl _ _, by rw [partT_zero, List.append_nil]; first | exact ⟨_, _, _, HW1.out⟩ | exact HW1.out | (rw [List.append_nil]; exact ⟨_, _, _, HW1.out⟩)⟩
  case round =>
    obtain ⟨t, ht, rfl, hB, hKp, hWr⟩ := hrel
    have hs := hKp _ _ _ HS1.out (by omega) (by decide)
    have HB := Lib.hid hB
    have HKP := Lib.hid hKp
    have HWR := Lib.hid hWr
    obtain ⟨cn, fn_⟩ := hs.facts
    have HSN := Lib.hid hs
    clear hB hWr hs
    by_cases hlt' : t < ks.length
    · obtain ⟨bk, hA1, hc⟩ := (HK1.out.keep hKp).at_ hlt'
      subst hA1
      have hstep := HPS.out t hlt'
      rw [map_getD hlt'] at hstep
      have hle := HPL.out (t + 1) hlt'
      have HIJ := Lib.hid (HIH.out _ (getD_mem hlt'))
      generalize ks.getD t 0 = j at *
      simp only [List.length_append] at hlt
      rw [show (false && decide (0 < t)) = false from rfl, if_neg (by simp), List.nil_append] at hstep
      have C := HIJ.out wr B g (some ⟨b, off, none⟩) c _ (HN.out.below HB.out) HWR.out (by rw [hstep] at hle; simp only [List.length_append, List.length_nil, List.length_cons] at hle hlt ⊢; omega)
      have HST := Lib.hid hstep
      clear hstep hle hKp
      go_wp2_with fail
      all_goals
        refine C.mono ?_
        rintro e2 w2 ⟨rfl, hb2, hk2, hw2⟩
        have HB2 := Lib.hid (HB.out.trans hb2)
        have HK2 := Lib.hid (HKP.out.trans hk2)
        have HW2 := Lib.hid hw2
        clear hb2 hk2 hw2
        go_wp2
        go_roundw
        case rel => exact ⟨t + 1, by omega, by go_num, HB2.out, HK2.out, by rw [HST.out]; have := HW2.out; simpa [List.append_assoc] using this⟩
        case measure => simp [intOf]; omega
    · have hte : t = ks.length := by omega
      subst hte
      clear hKp
      have C9 := put9_any HWR.out (⟨#[41]⟩) (by show _ + 1 ≤ _; simp only [List.length_append, List.length_nil, List.length_cons] at hlt ⊢; omega)
      have hb41 : (⟨#[41]⟩ : ByteArray).data.toList = [41] := rfl
      rw [hb41] at C9
      clear hb41
      go_wp2_with fail
      refine C9.mono ?_
      rintro e5 w5 ⟨rfl, hb5, hk5, hw5⟩
      go_wp2
      first | go_end0 | skip
      exact ⟨rfl, HB.out.trans hb5, HKP1.out.trans (HKP.out.trans hk5), by simpa [List.append_assoc] using hw5⟩
theorem prnode_any {L : List Nd} (h : rightF L = true) (hlen : L.length ≤ 1000000) (k : Nat) (hk : k < L.length) : NodeW L k := by
  obtain ⟨hF, hok, _⟩ := right_parts h
  revert hk
  induction k using Nat.strongRecOn with
  | _ k ih =>
    intro hk
    have hT := text_parts hF hok hk
    have hkn : (kidsF L (k : Int)).length ≤ 1000000 := by
      have h1 := formed_at hF hk
      have h2 := St_len (L := L) (k := k) (by omega)
      rw [kidsF_length hF hk]; omega
    have IH : ∀ j ∈ kidsF L (k : Int), NodeW L j := fun j hj => ih j (kidsF_lt hF hk hj) (Nat.lt_trans (kidsF_lt hF hk hj) hk)
    cases nodeIs (nodeOk_parts (hok k hk)).1 with
    | empty hk1 => exact node_empty hF hk hlen rfl _ rfl hkn hk1 IH hT
    | set hk1 => exact node_set hF hk hlen rfl _ rfl hkn hk1 IH hT
    | group hk1 => exact node_group hF hk hlen rfl _ rfl hkn hk1 IH hT
    | rep hk1 => exact node_rep hF hk hlen rfl _ rfl hkn hk1 IH hT
    | cat hk1 => exact node_cat hF hk hlen rfl _ rfl hkn hk1 IH hT
    | alt hk1 => exact node_alt hF hk hlen rfl _ rfl hkn hk1 IH hT
end Go.Proofs.YtfcgmgpcbenfpaaGreat

/- Walks of the package print: the text of a tree; Print. -/
namespace Go.Proofs.YtfcgmgpcbenfpaaGreat
open Go.RowKit SetP BrkP LexP AstP ParP
theorem wr_start (w : World) (V : Value) : Wr (w.alloc (.cells #[V, .pointer none, .slice none 0 0] 104)) w.heap.size w.heap.size V [] :=
  ⟨.pointer none, none, 0, Slab.new _ _ _, World.ownsRow_nil _ _ _ _, (fun h => by cases h), .inl rfl, Nat.le_refl _, fun _ => ⟨rfl, rfl⟩⟩
set_option maxRecDepth 100000 in
set_option maxHeartbeats 2000000 in
theorem prtext_any (A : Option Addr) (c : Nat) (L : List Nd) (h : rightF L = true) (hlen : L.length ≤ 1000000) (k : Nat) (hk : k < L.length) (hl : (textAt L k).length ≤ 100000000) (w : World) (hN : NodesAt w w.heap.size A L) :
    Calls Tryz.prog 33 #[.slice A L.length c, .int .i64 (k : Int)] w fun e w' => e = .returned (.string ⟨(textAt L k).toArray⟩) ∧ Below w.heap.size w w' := by
  have hal := (Below.refl w.heap.size w).alloc (Nat.le_refl _) (.cells #[.slice A L.length c, .pointer none, .slice none 0 0] 104)
  have C := prnode_any h hlen k hk _ w.heap.size w.heap.size A c [] (hN.below hal) (wr_start w (.slice A L.length c)) (by simpa using hl)
  have HB := Lib.hid hal
  clear hN hal
  rw [List.nil_append] at C
  go_enter Tryz.func33, Tryz.ntmps33
  go_wp2_with fail
  refine C.mono ?_
  rintro e1 w1 ⟨rfl, hb1, _, hw1⟩
  have C2 := bstr_any hw1
  have HB1 := Lib.hid (HB.out.trans hb1)
  clear C hb1
  go_wp2_with fail
  refine C2.mono ?_
  rintro e2 w2 ⟨rfl, hb2⟩
  go_wp2
  go_ret
  exact ⟨rfl, HB1.out.trans hb2⟩
set_option maxRecDepth 100000 in
set_option maxHeartbeats 2000000 in
theorem prprint_any (A : Option Addr) (c : Nat) (L : List Nd) (hlen : L.length ≤ 1000000) (hl : rightF L = true → (textAt L (L.length - 1)).length ≤ 100000000) (w : World) (hN : NodesAt w w.heap.size A L) :
    Calls Tryz.prog 17 #[.slice A L.length c] w fun e w' => e = .returned (if rightF L then .tuple #[.string ⟨(textAt L (L.length - 1)).toArray⟩, .int .i64 0] else .tuple #[.string ⟨#[]⟩, .int .i64 11]) ∧ Below w.heap.size w w' := by
  have C := right_any A c L w hN
  cases hr : rightF L with
  | false =>
    rw [hr] at C
    rw [if_neg (by simp)]
    go_enter Tryz.func17, Tryz.ntmps17
    go_wp2_with fail
    refine C.mono ?_
    rintro e1 w1 ⟨rfl, hb1⟩
    go_wp2
    refine bodyPost_ret (v := .tuple #[.string ⟨#[]⟩, .int .i64 11]) (by simp [results, Tryz.results17, go_sem]) rfl ⟨rfl, hb1⟩
  | true =>
    rw [hr] at C
    rw [if_pos rfl]
    have hpos := (root_size (right_parts hr).1).1
    have C2 := fun w1 hN1 => prtext_any A c L hr hlen (L.length - 1) (by omega) (hl hr) w1 hN1
    generalize textAt L (L.length - 1) = T at *
    have hc : (((L.length - 1 : Nat)) : Int) = (L.length : Int) - 1 := by omega
    simp only [hc] at C2
    have HN := Lib.hid hN
    clear hN hl hc
    go_enter Tryz.func17, Tryz.ntmps17
    go_wp2_with fail
    refine C.mono ?_
    rintro e1 w1 ⟨rfl, hb1⟩
    have hN1 := (HN.out.below hb1).more hb1.size
    have HB1 := Lib.hid hb1
    have C3 := C2 w1 hN1
    clear hb1 hN1 C C2
    go_wp2_with fail
    refine C3.mono ?_
    rintro e2 w2 ⟨rfl, hb2⟩
    go_wp2
    refine bodyPost_ret (v := .tuple #[.string ⟨T.toArray⟩, .int .i64 0]) (by simp [results, Tryz.results17, go_sem]) rfl ⟨rfl, below_then HB1.out hb2⟩
end Go.Proofs.YtfcgmgpcbenfpaaGreat

/- Walks of the package print: Plain. -/
namespace Go.Proofs.YtfcgmgpcbenfpaaGreat
open Go.RowKit SetP BrkP LexP AstP ParP
theorem bars_le (ks : List Nat) (f : Nat → List UInt8) (g : Nat → Nat) (h : ∀ j ∈ ks, (f j).length + 1 ≤ g j) : (barsT (ks.map f)).length ≤ (ks.map g).sum ∧ ((ks.map f).flatten).length ≤ (ks.map g).sum := by
  induction ks with
  | nil => exact ⟨Nat.le_refl _, Nat.le_refl _⟩
  | cons j ks ih =>
    have h1 := h j (by simp)
    obtain ⟨i1, i2⟩ := ih fun k hk => h k (by simp [hk])
    refine ⟨?_, by simp only [List.map_cons, List.flatten_cons, List.length_append, List.sum_cons]; omega⟩
    cases ks with
    | nil => show (f j).length ≤ _; simp; omega
    | cons k ks =>
      show (f j ++ 124 :: barsT ((k :: ks).map f)).length ≤ (g j :: (k :: ks).map g).sum
      rw [List.length_append, List.length_cons, List.sum_cons]; omega
theorem sum_len (ks : List Nat) (f : Nat → List Nd) : (ks.map fun j => 1002 * (f j).length).sum = 1002 * ((ks.map f).flatten).length := by
  induction ks with
  | nil => rfl
  | cons j ks ih => simp only [List.map_cons, List.sum_cons, List.flatten_cons, List.length_append, ih]; omega
theorem text_le {L : List Nd} (hF : formedF L = true) (hok : ∀ j, j < L.length → nodeOk L j = true) (k : Nat) (hk : k < L.length) : (textAt L k).length + 1 ≤ 1002 * (nodesAt L k).length := by
  revert hk
  induction k using Nat.strongRecOn with
  | _ k ih =>
    intro hk
    rw [text_parts hF hok hk, nodes_last hF hk]
    have hb := bars_le (kidsF L (k : Int)) (textAt L) (fun j => 1002 * (nodesAt L j).length) fun j hj => ih j (kidsF_lt hF hk hj) (Nat.lt_trans (kidsF_lt hF hk hj) hk)
    rw [sum_len] at hb
    have hp : (partT ((L.getD k ndEmpty).kind == 6) ((kidsF L (k : Int)).map (textAt L)) (kidsF L (k : Int)).length).length ≤ 1002 * ((kidsF L (k : Int)).map (nodesAt L)).flatten.length := by
      have := partT_all ((L.getD k ndEmpty).kind == 6) ((kidsF L (k : Int)).map (textAt L))
      rw [List.length_map] at this
      rw [this]
      split
      · exact hb.1
      · exact hb.2
    have ht : (headT (L.getD k ndEmpty)).length + (tailT (L.getD k ndEmpty)).length ≤ 1000 := by
      generalize L.getD k ndEmpty = x
      have w1 : (textW x.set).length ≤ 1000 := printW_le (w1 x.set)
      have w5 : (textF x.n x.m).length ≤ 1000 := printW_le (wRep x.n x.m)
      unfold headT tailT
      split
      · rename_i h3
        have h2 : (x.kind == 2) = false := by rw [beq_iff_eq] at h3; rw [h3]; rfl
        rw [h2]; simp
      · split
        · simpa using w1
        · split
          · simpa using w5
          · simp
    simp only [List.length_append, List.length_cons, List.length_nil]
    omega
/-- What is parsed is a pattern's tree. -/
theorem parse_right {s : ByteArray} (h : (parseF s).2.1 = 0) : rightF (parseF s).1 = true := by
  cases outs s with
  | ok y hr h1 e => rw [e]; exact (parsed hr h1).right
  | open_ y hr h1 e => rw [e] at h; exact absurd h (by show ¬ (2 : Int) = 0; decide)
  | short b y hr hb h0 h2 e => rw [e] at h; exact absurd h (by show ¬ (2 : Int) = 0; decide)
  | bar b y hr hb h0 e => rw [e] at h; exact absurd h h0
  | bad b y hr hb h0 er p he hp hp2 h2 e => rw [e] at h; have h' : er = 0 := h; omega
/-- A pattern, plainly. -/
def plainF (s : ByteArray) : List UInt8 × Int × Int := if (parseF s).2.1 = 0 then (textAt (parseF s).1 ((parseF s).1.length - 1), 0, 0) else ([], (parseF s).2.1, (parseF s).2.2)
set_option maxRecDepth 100000 in
set_option maxHeartbeats 2000000 in
theorem pplain_any (s : ByteArray) (hs : s.size ≤ 20000) (hlen : (parseF s).1.length ≤ 90000) (w : World) : Calls Tryz.prog 21 #[.string s] w fun e w' => e = .returned (.tuple #[.string ⟨(plainF s).1.toArray⟩, .int .i64 (plainF s).2.1, .int .i64 (plainF s).2.2]) ∧ Below w.heap.size w w' := by
  have C := pparse_any s (by omega) w
  by_cases h0 : (parseF s).2.1 = 0
  · have hr := parse_right h0
    have hp : plainF s = (textAt (parseF s).1 ((parseF s).1.length - 1), 0, 0) := by unfold plainF; rw [if_pos h0]
    rw [hp]
    clear hp
    obtain ⟨⟨L, er, p⟩, hR⟩ : ∃ R, parseF s = R := ⟨_, rfl⟩
    rw [hR] at C h0 hr hlen ⊢
    simp only at h0 hr hlen ⊢
    subst h0
    clear hR
    obtain ⟨hF, hok, _⟩ := right_parts hr
    have hpos := (root_size hF).1
    have hl : (textAt L (L.length - 1)).length ≤ 100000000 := by
      have h1 := text_le hF hok (L.length - 1) (by omega)
      rw [nodes_root hF] at h1; omega
    have C2 := fun A c w1 hN1 => prtext_any A c L hr (by omega) (L.length - 1) (by omega) hl w1 hN1
    generalize textAt L (L.length - 1) = T at *
    have hc : (((L.length - 1 : Nat)) : Int) = (L.length : Int) - 1 := by omega
    simp only [hc] at C2
    clear hc hF hok hl hr
    go_enter Tryz.func21, Tryz.ntmps21
    go_wp2_with fail
    refine C.mono ?_
    rintro e1 w1 ⟨A, c, rfl, hown, hb1⟩
    have C3 := C2 A c w1 (NodesAt.of_row hown rfl (by simp only; omega))
    have HB1 := Lib.hid hb1
    clear C C2 hown hb1
    go_wp2_with fail
    refine C3.mono ?_
    rintro e2 w2 ⟨rfl, hb2⟩
    go_wp2
    refine bodyPost_ret (v := .tuple #[.string ⟨T.toArray⟩, .int .i64 0, .int .i64 0]) (by simp [results, Tryz.results21, go_sem]) rfl ⟨rfl, below_then HB1.out hb2⟩
  · have hp : plainF s = ([], (parseF s).2.1, (parseF s).2.2) := by unfold plainF; rw [if_neg h0]
    rw [hp]
    clear hp
    obtain ⟨⟨L, er, p⟩, hR⟩ : ∃ R, parseF s = R := ⟨_, rfl⟩
    rw [hR] at C h0 ⊢
    simp only at h0 ⊢
    have t0 : (er != 0) = true := bne_iff_ne.2 h0
    clear hR h0
    go_enter Tryz.func21, Tryz.ntmps21
    go_wp2_with fail
    refine C.mono ?_
    rintro e1 w1 ⟨A, c, rfl, hown, hb1⟩
    clear C hown
    go_wp2
    refine bodyPost_ret (v := .tuple #[.string ⟨#[]⟩, .int .i64 er, .int .i64 p]) (by simp [results, Tryz.results21, go_sem]) rfl ⟨rfl, hb1⟩
end Go.Proofs.YtfcgmgpcbenfpaaGreat
