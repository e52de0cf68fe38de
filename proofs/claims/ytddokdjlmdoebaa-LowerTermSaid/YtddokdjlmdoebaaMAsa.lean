/- Plain facts on lists of nodes: which are trees, how many nodes are in each, its kids. No program is in sight. -/
import Derived.Test.YtddokdjlmdoebaaMMem
import Derived.Test.YtddokdjlmdoebaaProg
import Derived.WalkKit
import Derived.WalkSpells
import Derived.WalkLawsBesides
import Derived.Handy
import Derived.Lib.Hide
import Derived.Deep.RegionHeld3
import Derived.IntWalk
import Derived.Deep.OwnRows
import Derived.Laws.OwnMore
set_option linter.unusedVariables false
set_option linter.unusedSimpArgs false
namespace Go.Proofs.Ytddokdjlmdoebaa
open SetP
namespace AstP
/-- A node. -/
structure Nd where
  kind : Int
  kids : Int
  n : Int
  m : Int
  set : Nat → Bool

/-- How many trees stand side by side behind a list, if there were t ahead of it. -/
def runF : List Nd → Int → Option Int
  | [], t => some t
  | x :: l, t => if x.kids < 0 ∨ t < x.kids then none else runF l (t + 1 - x.kids)
def formedF (l : List Nd) : Bool := runF l 0 == some 1
/-- Each node's size; st is what stands ahead, the last one first. -/
def szF : List Nd → List Nat → List Nat
  | [], _ => []
  | x :: l, st => (1 + (st.take x.kids.toNat).sum) :: szF l ((1 + (st.take x.kids.toNat).sum) :: st.drop x.kids.toNat)
/-- What stands at the end. -/
def stF : List Nd → List Nat → List Nat
  | [], st => st
  | x :: l, st => stF l ((1 + (st.take x.kids.toNat).sum) :: st.drop x.kids.toNat)
def sizesF (l : List Nd) : List Nat := if formedF l then szF l [] else []
theorem szF_length (l : List Nd) (st : List Nat) : (szF l st).length = l.length := by
  induction l generalizing st with
  | nil => rfl
  | cons x l ih => rw [szF, List.length_cons, ih, List.length_cons]
theorem szF_append (l m : List Nd) (st : List Nat) : szF (l ++ m) st = szF l st ++ szF m (stF l st) := by
  induction l generalizing st with
  | nil => rfl
  | cons x l ih => rw [List.cons_append, szF, szF, ih, stF, List.cons_append]
theorem stF_append (l m : List Nd) (st : List Nat) : stF (l ++ m) st = stF m (stF l st) := by
  induction l generalizing st with
  | nil => rfl
  | cons x l ih => rw [List.cons_append, stF, ih, stF]
theorem runF_append (l m : List Nd) (t : Int) : runF (l ++ m) t = (runF l t).bind fun u => runF m u := by
  induction l generalizing t with
  | nil => rfl
  | cons x l ih =>
    rw [List.cons_append, runF, runF]
    split
    · rfl
    · exact ih _
/-- A run that goes well: the stack is as long as is told, and all kids are there. -/
theorem runF_st (l : List Nd) (st : List Nat) (u : Int) (h : runF l st.length = some u) : ((stF l st).length : Int) = u := by
  induction l generalizing st with
  | nil => simpa [runF, stF] using h
  | cons x l ih =>
    rw [runF] at h
    split at h
    · cases h
    · rename_i hk
      rw [stF]
      apply ih
      rw [← h]
      congr 1
      simp
      omega
theorem runF_nonneg (l : List Nd) (t u : Int) (ht : 0 ≤ t) (h : runF l t = some u) : 0 ≤ u := by
  induction l generalizing t with
  | nil => simp [runF] at h; omega
  | cons x l ih =>
    rw [runF] at h
    split at h
    · cases h
    · exact ih _ (by omega) h
/-- The places of the stack's things, with the list of sizes so far: they lie side by side, from the begin. -/
def ChainF (sz : List Nat) : Nat → List Nat → Prop
  | a, [] => a = 0
  | a, s :: st => 0 < s ∧ s ≤ a ∧ sz[a - 1]? = some s ∧ ChainF sz (a - s) st
theorem ChainF.more {sz : List Nat} (more : List Nat) : ∀ {a : Nat} {st : List Nat}, a ≤ sz.length → ChainF sz a st → ChainF (sz ++ more) a st
  | _, [], _, h => h
  | a, s :: st, ha, h => by
    obtain ⟨h1, h2, h3, h4⟩ := h
    refine ⟨h1, h2, ?_, ChainF.more more (by omega) h4⟩
    rw [List.getElem?_append_left (by omega)]; exact h3
theorem ChainF.sum {sz : List Nat} : ∀ {a : Nat} {st : List Nat}, ChainF sz a st → st.sum = a
  | _, [], h => by simpa using h.symm
  | a, s :: st, h => by
    obtain ⟨h1, h2, _, h4⟩ := h
    have := h4.sum
    simp; omega
theorem ChainF.drop {sz : List Nat} (k : Nat) : ∀ {a : Nat} {st : List Nat}, ChainF sz a st → ChainF sz (a - (st.take k).sum) (st.drop k) := by
  induction k with
  | zero => intro a st h; simpa using h
  | succ k ih =>
    intro a st h
    cases st with
    | nil => simpa using h
    | cons s st =>
      obtain ⟨_, _, _, h4⟩ := h
      have := ih h4
      simpa [Nat.sub_sub] using this
theorem ChainF.take_le {sz : List Nat} (k : Nat) {a : Nat} {st : List Nat} (h : ChainF sz a st) : (st.take k).sum ≤ a := by
  have e := h.sum
  have : (st.take k).sum + (st.drop k).sum = st.sum := by rw [← List.sum_append, List.take_append_drop]
  omega
theorem chain_step (l : List Nd) (pre st : List Nat) (h : ChainF pre pre.length st) : ChainF (pre ++ szF l st) (pre.length + l.length) (stF l st) := by
  induction l generalizing pre st with
  | nil => simpa [szF, stF] using h
  | cons x l ih =>
    rw [szF, stF]
    have hle := h.take_le x.kids.toNat
    have h2 : ChainF (pre ++ [1 + (st.take x.kids.toNat).sum]) (pre ++ [1 + (st.take x.kids.toNat).sum]).length ((1 + (st.take x.kids.toNat).sum) :: st.drop x.kids.toNat) := by
      rw [List.length_append, List.length_singleton]
      refine ⟨by omega, by omega, ?_, ?_⟩
      · rw [Nat.add_sub_cancel, List.getElem?_append_right (Nat.le_refl _)]; simp
      · have := (h.drop x.kids.toNat).more [1 + (st.take x.kids.toNat).sum] (by omega)
        rwa [show pre.length + 1 - (1 + (st.take x.kids.toNat).sum) = pre.length - (st.take x.kids.toNat).sum by omega]
    have := ih _ _ h2
    rw [List.append_assoc] at this
    simpa [Nat.add_assoc, Nat.add_comm, Nat.add_left_comm] using this
def ndEmpty : Nd := ⟨0, 0, 0, 0, fun _ => false⟩
theorem take_more {L : List Nd} {k : Nat} (hk : k < L.length) : L.take (k + 1) = L.take k ++ [L.getD k ndEmpty] := by
  rw [List.getD_eq_getElem?_getD, List.getElem?_eq_getElem hk, List.take_add_one, List.getElem?_eq_getElem hk]; rfl
/-- What stands, and the sizes, behind k nodes. -/
def St (L : List Nd) (k : Nat) : List Nat := stF (L.take k) []
def Sz (L : List Nd) (k : Nat) : List Nat := szF (L.take k) []
/-- The size of node k. -/
def sizeAt (L : List Nd) (k : Nat) : Nat := 1 + ((St L k).take (L.getD k ndEmpty).kids.toNat).sum
theorem Sz_succ {L : List Nd} {k : Nat} (hk : k < L.length) : Sz L (k + 1) = Sz L k ++ [sizeAt L k] := by
  unfold Sz; rw [take_more hk, szF_append]; rfl
theorem St_succ {L : List Nd} {k : Nat} (hk : k < L.length) : St L (k + 1) = sizeAt L k :: (St L k).drop (L.getD k ndEmpty).kids.toNat := by
  unfold St; rw [take_more hk, stF_append]; rfl
theorem Sz_length {L : List Nd} {k : Nat} (hk : k ≤ L.length) : (Sz L k).length = k := by
  unfold Sz; rw [szF_length, List.length_take]; omega
theorem St_chain {L : List Nd} {k : Nat} (hk : k ≤ L.length) : ChainF (Sz L k) k (St L k) := by
  have := chain_step (L.take k) [] [] rfl
  simp only [List.nil_append, List.length_nil, List.length_take, Nat.zero_add] at this
  rwa [Nat.min_eq_left hk] at this
theorem St_sum {L : List Nd} {k : Nat} (hk : k ≤ L.length) : (St L k).sum = k := (St_chain hk).sum
theorem sizeAt_le {L : List Nd} {k : Nat} (hk : k ≤ L.length) : sizeAt L k ≤ k + 1 := by
  have := (St_chain hk).take_le (L.getD k ndEmpty).kids.toNat
  unfold sizeAt; omega
theorem formed_at {L : List Nd} {k : Nat} (h : formedF L = true) (hk : k < L.length) : 0 ≤ (L.getD k ndEmpty).kids ∧ (L.getD k ndEmpty).kids ≤ ((St L k).length : Int) := by
  have e : L = L.take k ++ (L.getD k ndEmpty :: L.drop (k + 1)) := by
    rw [List.getD_eq_getElem?_getD, List.getElem?_eq_getElem hk]
    show L = L.take k ++ (L[k] :: L.drop (k + 1))
    rw [← List.drop_eq_getElem_cons hk, List.take_append_drop]
  have h1 : runF L 0 = some 1 := by unfold formedF at h; simpa using h
  rw [e, runF_append] at h1
  cases hr : runF (L.take k) 0 with
  | none => rw [hr] at h1; cases h1
  | some u =>
    rw [hr] at h1
    have hst := runF_st (L.take k) [] u hr
    have h2 : runF (L.getD k ndEmpty :: L.drop (k + 1)) u = some 1 := h1
    rw [runF] at h2
    split at h2
    · cases h2
    · unfold St; omega
theorem chain_at {sz st : List Nat} {a m : Nat} (h : ChainF sz a st) (hm : m < st.length) : (st.take m).sum < a ∧ (st.take m).sum + st.getD m 0 ≤ a ∧ sz[a - (st.take m).sum - 1]? = some (st.getD m 0) := by
  have h1 := h.drop m
  have h2 := h.take_le m
  rw [List.drop_eq_getElem_cons hm] at h1
  obtain ⟨p1, p2, p3, _⟩ := h1
  have e : st.getD m 0 = st[m] := by rw [List.getD_eq_getElem?_getD, List.getElem?_eq_getElem hm]; rfl
  rw [e]
  exact ⟨by omega, by omega, p3⟩
theorem Sz_more {L : List Nd} {i : Nat} : ∃ more, Sz L L.length = Sz L i ++ more := by
  refine ⟨szF (L.drop i) (stF (L.take i) []), ?_⟩
  unfold Sz
  rw [← szF_append, List.take_append_drop, List.take_length]
/-- The place of the kid j of node i, the last one first. -/
def kidAt (L : List Nd) (i j : Nat) : Nat := i - ((St L i).take j).sum - 1
def kidsRev (L : List Nd) (i m : Nat) : List Nat := (List.range m).map (kidAt L i)
def kidsF (L : List Nd) (i : Int) : List Nat :=
  if i < 0 ∨ ((sizesF L).length : Int) ≤ i then [] else (kidsRev L i.toNat (L.getD i.toNat ndEmpty).kids.toNat).reverse
theorem kidsRev_succ (L : List Nd) (i m : Nat) : kidsRev L i (m + 1) = kidsRev L i m ++ [kidAt L i m] := by unfold kidsRev; rw [List.range_succ, List.map_append]; rfl
theorem kidsRev_length (L : List Nd) (i m : Nat) : (kidsRev L i m).length = m := by unfold kidsRev; simp
/-- The kid j of node i: its place, and the size that stands there. -/
theorem kid_at {L : List Nd} {i j : Nat} (hi : i < L.length) (hj : j < (St L i).length) :
    ((St L i).take j).sum + 1 ≤ i ∧ ((St L i).take (j + 1)).sum ≤ i ∧ (Sz L L.length).getD (kidAt L i j) 0 = (St L i).getD j 0 ∧ kidAt L i j < i ∧ ((St L i).take (j + 1)).sum = ((St L i).take j).sum + (St L i).getD j 0 := by
  obtain ⟨more, hm⟩ := Sz_more (L := L) (i := i)
  have hc := (St_chain (L := L) (k := i) (by omega)).more more (by rw [Sz_length (by omega)]; exact Nat.le_refl _)
  rw [← hm] at hc
  obtain ⟨h1, h2, h3⟩ := chain_at hc hj
  have e : ((St L i).take (j + 1)).sum = ((St L i).take j).sum + (St L i).getD j 0 := by
    rw [List.take_add_one, List.sum_append, List.getElem?_eq_getElem hj, List.getD_eq_getElem?_getD, List.getElem?_eq_getElem hj]; simp
  refine ⟨by omega, by omega, ?_, by unfold kidAt; omega, e⟩
  rw [List.getD_eq_getElem?_getD]
  unfold kidAt
  rw [h3]; rfl
theorem sizesF_formed {L : List Nd} (h : formedF L = true) : sizesF L = Sz L L.length := by
  unfold sizesF Sz; rw [if_pos h, List.take_length]
theorem sizesF_not {L : List Nd} (h : formedF L = false) : sizesF L = [] := by unfold sizesF; rw [if_neg (by rw [h]; simp)]
theorem chain_len {sz : List Nat} : ∀ {a : Nat} {st : List Nat}, ChainF sz a st → st.length ≤ a
  | _, [], _ => by simp
  | a, s :: st, h => by
    obtain ⟨h1, h2, _, h4⟩ := h
    have := chain_len h4
    simp; omega
theorem St_len {L : List Nd} {k : Nat} (hk : k ≤ L.length) : (St L k).length ≤ k := chain_len (St_chain hk)
/-- The kids of a node of a tree. -/
theorem kidsF_at {L : List Nd} {k : Nat} (hF : formedF L = true) (hk : k < L.length) : kidsF L (k : Int) = (kidsRev L k (L.getD k ndEmpty).kids.toNat).reverse := by
  unfold kidsF
  rw [if_neg (by rw [sizesF_formed hF, Sz_length (Nat.le_refl _)]; omega)]; rfl
theorem kidsF_lt {L : List Nd} {k j : Nat} (hF : formedF L = true) (hk : k < L.length) (hj : j ∈ kidsF L (k : Int)) : j < k := by
  rw [kidsF_at hF hk, List.mem_reverse] at hj
  unfold kidsRev at hj
  obtain ⟨m, hm, rfl⟩ := List.mem_map.1 hj
  have hat := formed_at hF hk
  exact (kid_at hk (by have := List.mem_range.1 hm; omega)).2.2.2.1
theorem kidsF_length {L : List Nd} {k : Nat} (hF : formedF L = true) (hk : k < L.length) : (kidsF L (k : Int)).length = (L.getD k ndEmpty).kids.toNat := by
  rw [kidsF_at hF hk, List.length_reverse, kidsRev_length]
/-- How many groups are among the first k nodes. -/
def groupsF (L : List Nd) : Nat → Nat
  | 0 => 0
  | k + 1 => if (L.getD k ndEmpty).kind == 3 then groupsF L k + 1 else groupsF L k
theorem groupsF_le (L : List Nd) (k : Nat) : groupsF L k ≤ k := by
  induction k with
  | zero => exact Nat.le_refl _
  | succ k ih => rw [groupsF]; split <;> omega
end AstP
end Go.Proofs.Ytddokdjlmdoebaa

/- Walks of the packages ast and gimletref06: is a list a tree? -/
namespace Go.Proofs.Ytddokdjlmdoebaa
open Go.RowKit SetP AstP
/-- A node's cells. -/
abbrev ndCells (x : Nd) : Array Value := #[.int .i64 x.kind, .int .i64 x.kids, .int .i64 x.n, .int .i64 x.m, .int .u64 (wd x.set 0), .int .u64 (wd x.set 1), .int .u64 (wd x.set 2), .int .u64 (wd x.set 3)]
/-- A list of nodes, as a slice of whatever make, in a block below B. -/
def NodesAt (w : World) (B : Nat) (A : Option Addr) (L : List Nd) : Prop :=
  L.length ≤ 1000000000000 ∧ (L.length = 0 ∨ ∃ b off, A = some ⟨b, off, none⟩ ∧ b < B ∧ ∀ j, j < L.length → ∀ f, f < 8 → w.cell? ⟨b, off + j * 8 + f, none⟩ = (ndCells (L.getD j ndEmpty))[f]?)
theorem NodesAt.below {w w' : World} {B : Nat} {A : Option Addr} {L : List Nd} (h : NodesAt w B A L) (hb : Below B w w') : NodesAt w' B A L := by
  obtain ⟨h1, h2⟩ := h
  refine ⟨h1, ?_⟩
  rcases h2 with h2 | ⟨b, off, rfl, hB, hc⟩
  · exact .inl h2
  · exact .inr ⟨b, off, rfl, hB, fun j hj f hf => (hb.cell (p := ⟨b, off + j * 8 + f, none⟩) hB).trans (hc j hj f hf)⟩
theorem NodesAt.more {w : World} {B B' : Nat} {A : Option Addr} {L : List Nd} (h : NodesAt w B A L) (hB : B ≤ B') : NodesAt w B' A L := by
  obtain ⟨h1, h2⟩ := h
  refine ⟨h1, ?_⟩
  rcases h2 with h2 | ⟨b, off, rfl, hb, hc⟩
  · exact .inl h2
  · exact .inr ⟨b, off, rfl, by omega, hc⟩
/-- The cells of one node. -/
def Node8 (w : World) (b o : Nat) (x : Nd) : Prop :=
  w.cell? ⟨b, o, none⟩ = some (.int .i64 x.kind) ∧ w.cell? ⟨b, o + 1, none⟩ = some (.int .i64 x.kids) ∧ w.cell? ⟨b, o + 2, none⟩ = some (.int .i64 x.n) ∧ w.cell? ⟨b, o + 3, none⟩ = some (.int .i64 x.m) ∧
  w.cell? ⟨b, o + 4, none⟩ = some (.int .u64 (wd x.set 0)) ∧ w.cell? ⟨b, o + 5, none⟩ = some (.int .u64 (wd x.set 1)) ∧ w.cell? ⟨b, o + 6, none⟩ = some (.int .u64 (wd x.set 2)) ∧ w.cell? ⟨b, o + 7, none⟩ = some (.int .u64 (wd x.set 3))
theorem NodesAt.node {w : World} {B : Nat} {A : Option Addr} {L : List Nd} (h : NodesAt w B A L) {k : Nat} (hk : k < L.length) : ∃ b off, A = some ⟨b, off, none⟩ ∧ b < B ∧ Node8 w b (off + k * 8) (L.getD k ndEmpty) := by
  rcases h.2 with h2 | ⟨b, off, rfl, hb, hc⟩
  · omega
  · exact ⟨b, off, rfl, hb, hc k hk 0 (by omega), hc k hk 1 (by omega), hc k hk 2 (by omega), hc k hk 3 (by omega), hc k hk 4 (by omega), hc k hk 5 (by omega), hc k hk 6 (by omega), hc k hk 7 (by omega)⟩

theorem run_at {L : List Nd} {k : Nat} {t : Int} (hk : k < L.length) (h : runF (L.take k) 0 = some t) : runF L 0 = runF (L.getD k ndEmpty :: L.drop (k + 1)) t := by
  have e : L = L.take k ++ (L.getD k ndEmpty :: L.drop (k + 1)) := by
    rw [List.getD_eq_getElem?_getD, List.getElem?_eq_getElem hk]
    show L = L.take k ++ (L[k] :: L.drop (k + 1))
    rw [← List.drop_eq_getElem_cons hk, List.take_append_drop]
  conv => lhs; rw [e]
  rw [runF_append, h]; rfl
theorem run_succ {L : List Nd} {k : Nat} {t : Int} (hk : k < L.length) (h : runF (L.take k) 0 = some t) (h0 : ¬ ((L.getD k ndEmpty).kids < 0 ∨ t < (L.getD k ndEmpty).kids)) : runF (L.take (k + 1)) 0 = some (t + 1 - (L.getD k ndEmpty).kids) := by
  have e : L.take (k + 1) = L.take k ++ [L.getD k ndEmpty] := by
    rw [List.getD_eq_getElem?_getD, List.getElem?_eq_getElem hk, List.take_add_one, List.getElem?_eq_getElem hk]; rfl
  rw [e, runF_append, h]
  show runF [L.getD k ndEmpty] t = _
  rw [runF, if_neg h0, runF]
theorem run_bad {L : List Nd} {k : Nat} {t : Int} (hk : k < L.length) (h : runF (L.take k) 0 = some t) (h0 : (L.getD k ndEmpty).kids < 0 ∨ t < (L.getD k ndEmpty).kids) : formedF L = false := by
  unfold formedF
  rw [run_at hk h, runF, if_pos h0]; rfl
theorem run_end {L : List Nd} {t : Int} (h : runF (L.take L.length) 0 = some t) : formedF L = (t == 1) := by
  rw [List.take_length] at h
  unfold formedF
  rw [h, Bool.eq_iff_iff]; simp
set_option maxRecDepth 100000 in
set_option maxHeartbeats 2000000 in
theorem formed_any (A : Option Addr) (c : Nat) (L : List Nd) (w : World) (hL : NodesAt w w.heap.size A L) :
    Calls Try.prog 82 #[.slice A L.length c] w fun e w' => e = .returned (.bool (formedF L)) ∧ Below w.heap.size w w' := by
  have hlen := hL.1
  have HL := Lib.hid hL; clear hL
  obtain ⟨N, hN⟩ : ∃ N, L.length = N := ⟨_, rfl⟩
  rw [hN] at hlen ⊢
  have HN := Lib.hid hN; clear hN
  go_enter Try.func82, Try.ntmps82
  go_wp2
  go_loopw [3, 8] (fun t i wr => ∃ (k : Nat) (u : Int), k ≤ N ∧ 0 ≤ u ∧ u ≤ k ∧ i = .int .i64 k ∧ t = .int .i64 u ∧ runF (L.take k) 0 = some u ∧ Below w.heap.size w wr) (fun _ i _ => N - (intOf i).toNat)
  case atStart => exact ⟨0, 0, by omega, by omega, by omega, rfl, rfl, by simp [runF], Below.refl _ _⟩
  case round =>
    obtain ⟨k, u, hk, hu0, hu1, rfl, rfl, hR, hB⟩ := hrel
    have HB := Lib.hid hB; clear hB
    have HR := Lib.hid hR; clear hR
    by_cases hlt : k < N
    · have hltL : k < L.length := by rw [HN.out]; exact hlt
      obtain ⟨b, off, rfl, hb, hn8⟩ := (HL.out.below HB.out).node hltL
      unfold Node8 at hn8
      obtain ⟨x, hx⟩ : ∃ x, L.getD k ndEmpty = x := ⟨_, rfl⟩
      rw [hx] at hn8
      have HX := Lib.hid hx; clear hx
      obtain ⟨n0, n1, n2, n3, n4, n5, n6, n7⟩ := hn8
      cases d1 : decide (x.kids < 0) with
      | true =>
        have hF : formedF L = false := run_bad hltL HR.out (by rw [HX.out]; exact .inl (by simpa using d1))
        have HF := Lib.hid hF; clear hF
        go_wp2
        refine bodyPost_ret (v := .bool false) (by simp [results, Try.results82, go_sem]) rfl ⟨by rw [HF.out], ?_⟩
        have hb := HB.out
        (repeat' (first | (with_reducible exact Below.refl _ _) | (with_reducible assumption) | (with_reducible refine Below.alloc ?_ ?_ _) | (with_reducible refine Below.drew ?_) | (with_reducible refine below_set ?_ ?_ _) | (with_reducible refine below_call ?_ ?_ (by assumption)) | (with_reducible exact Below.size (by assumption)) | omega | go_size))
      | false =>
      cases d2 : decide (u < x.kids) with
      | true =>
        have hF : formedF L = false := run_bad hltL HR.out (by rw [HX.out]; exact .inr (by simpa using d2))
        have HF := Lib.hid hF; clear hF
        go_wp2
        refine bodyPost_ret (v := .bool false) (by simp [results, Try.results82, go_sem]) rfl ⟨by rw [HF.out], ?_⟩
        have hb := HB.out
        (repeat' (first | (with_reducible exact Below.refl _ _) | (with_reducible assumption) | (with_reducible refine Below.alloc ?_ ?_ _) | (with_reducible refine Below.drew ?_) | (with_reducible refine below_set ?_ ?_ _) | (with_reducible refine below_call ?_ ?_ (by assumption)) | (with_reducible exact Below.size (by assumption)) | omega | go_size))
      | false =>
        have k1 : 0 ≤ x.kids := by simpa using d1
        have k2 : x.kids ≤ u := by simpa using d2
        have hF := run_succ hltL HR.out (by rw [HX.out]; omega)
        rw [HX.out] at hF
        have HF := Lib.hid hF; clear hF
        go_wp2
        go_roundw
        case rel =>
          refine ⟨k + 1, u + 1 - x.kids, by omega, by omega, by omega, by go_num, by congr 1; omega, HF.out, ?_⟩
          have hb := HB.out
          (repeat' (first | (with_reducible exact Below.refl _ _) | (with_reducible assumption) | (with_reducible refine Below.alloc ?_ ?_ _) | (with_reducible refine Below.drew ?_) | (with_reducible refine below_set ?_ ?_ _) | (with_reducible refine below_call ?_ ?_ (by assumption)) | (with_reducible exact Below.size (by assumption)) | omega | go_size))
        case measure => simp [intOf]; omega
    · obtain rfl : k = N := by omega
      have hF : formedF L = (u == 1) := run_end (by rw [HN.out]; exact HR.out)
      have HF := Lib.hid hF; clear hF
      go_wp2
      refine bodyPost_ret (v := .bool (u == 1)) (by simp [results, Try.results82, go_sem]) rfl ⟨by rw [HF.out], HB.out⟩
set_option maxRecDepth 100000 in
set_option maxHeartbeats 2000000 in
theorem rformed_any (A : Option Addr) (c : Nat) (L : List Nd) (w : World) (hL : NodesAt w w.heap.size A L) :
    Calls Try.prog 58 #[.slice A L.length c] w fun e w' => e = .returned (.bool (formedF L)) ∧ Below w.heap.size w w' := by
  have hlen := hL.1
  have HL := Lib.hid hL; clear hL
  obtain ⟨N, hN⟩ : ∃ N, L.length = N := ⟨_, rfl⟩
  rw [hN] at hlen ⊢
  have HN := Lib.hid hN; clear hN
  go_enter Try.func58, Try.ntmps58
  go_wp2
  go_loopw [3, 4] (fun t i wr => ∃ (k : Nat) (u : Int), k ≤ N ∧ 0 ≤ u ∧ u ≤ k ∧ i = .int .i64 k ∧ t = .int .i64 u ∧ runF (L.take k) 0 = some u ∧ Below w.heap.size w wr) (fun _ i _ => N - (intOf i).toNat)
  case atStart => exact ⟨0, 0, by omega, by omega, by omega, rfl, rfl, by simp [runF], Below.refl _ _⟩
  case round =>
    obtain ⟨k, u, hk, hu0, hu1, rfl, rfl, hR, hB⟩ := hrel
    have HB := Lib.hid hB; clear hB
    have HR := Lib.hid hR; clear hR
    by_cases hlt : k < N
    · have hltL : k < L.length := by rw [HN.out]; exact hlt
      obtain ⟨b, off, rfl, hb, hn8⟩ := (HL.out.below HB.out).node hltL
      unfold Node8 at hn8
      obtain ⟨x, hx⟩ : ∃ x, L.getD k ndEmpty = x := ⟨_, rfl⟩
      rw [hx] at hn8
      have HX := Lib.hid hx; clear hx
      obtain ⟨n0, n1, n2, n3, n4, n5, n6, n7⟩ := hn8
      cases d1 : decide (x.kids < 0) with
      | true =>
        have hF : formedF L = false := run_bad hltL HR.out (by rw [HX.out]; exact .inl (by simpa using d1))
        have HF := Lib.hid hF; clear hF
        go_wp2
        refine bodyPost_ret (v := .bool false) (by simp [results, Try.results58, go_sem]) rfl ⟨by rw [HF.out], ?_⟩
        have hb := HB.out
        (repeat' (first | (with_reducible exact Below.refl _ _) | (with_reducible assumption) | (with_reducible refine Below.alloc ?_ ?_ _) | (with_reducible refine Below.drew ?_) | (with_reducible refine below_set ?_ ?_ _) | (with_reducible refine below_call ?_ ?_ (by assumption)) | (with_reducible exact Below.size (by assumption)) | omega | go_size))
      | false =>
      cases d2 : decide (u < x.kids) with
      | true =>
        have hF : formedF L = false := run_bad hltL HR.out (by rw [HX.out]; exact .inr (by simpa using d2))
        have HF := Lib.hid hF; clear hF
        go_wp2
        refine bodyPost_ret (v := .bool false) (by simp [results, Try.results58, go_sem]) rfl ⟨by rw [HF.out], ?_⟩
        have hb := HB.out
        (repeat' (first | (with_reducible exact Below.refl _ _) | (with_reducible assumption) | (with_reducible refine Below.alloc ?_ ?_ _) | (with_reducible refine Below.drew ?_) | (with_reducible refine below_set ?_ ?_ _) | (with_reducible refine below_call ?_ ?_ (by assumption)) | (with_reducible exact Below.size (by assumption)) | omega | go_size))
      | false =>
        have k1 : 0 ≤ x.kids := by simpa using d1
        have k2 : x.kids ≤ u := by simpa using d2
        have hF := run_succ hltL HR.out (by rw [HX.out]; omega)
        rw [HX.out] at hF
        have HF := Lib.hid hF; clear hF
        go_wp2
        go_roundw
        case rel =>
          refine ⟨k + 1, u + 1 - x.kids, by omega, by omega, by omega, by go_num, by congr 1; omega, HF.out, ?_⟩
          have hb := HB.out
          (repeat' (first | (with_reducible exact Below.refl _ _) | (with_reducible assumption) | (with_reducible refine Below.alloc ?_ ?_ _) | (with_reducible refine Below.drew ?_) | (with_reducible refine below_set ?_ ?_ _) | (with_reducible refine below_call ?_ ?_ (by assumption)) | (with_reducible exact Below.size (by assumption)) | omega | go_size))
        case measure => simp [intOf]; omega
    · obtain rfl : k = N := by omega
      have hF : formedF L = (u == 1) := run_end (by rw [HN.out]; exact HR.out)
      have HF := Lib.hid hF; clear hF
      go_wp2
      refine bodyPost_ret (v := .bool (u == 1)) (by simp [results, Try.results58, go_sem]) rfl ⟨by rw [HF.out], HB.out⟩
end Go.Proofs.Ytddokdjlmdoebaa

/- Walks of the packages ast and gimletref06: each node's size. -/
namespace Go.Proofs.Ytddokdjlmdoebaa
open Go.RowKit SetP AstP
abbrev ints (l : List Nat) : List Value := l.map fun x : Nat => Value.int .i64 (x : Int)
set_option maxRecDepth 100000 in
theorem info_int : (Try.prog.info? 3).map (fun i => (i.zero, i.size, i.bytes)) = some (some (.int .i64 0), 1, 8) := by kernel_rfl
theorem rowInts {w : World} {base n c : Nat} {A : Option Addr} {l : List Nat} (h : w.ownsRow base 3 1 (.slice A n c) n (ints l)) :
    (A = none ∧ n = 0 ∧ c = 0) ∨ ∃ g, A = some ⟨g, 0, none⟩ ∧ base ≤ g ∧ n ≤ c ∧ ∀ j, j < n → w.cell? ⟨g, j, none⟩ = some (.int .i64 ((l.getD j 0 : Nat) : Int)) := by
  have hl : l.length = n := by have := h.1; simpa using this
  rcases h.2 with ⟨hv, rfl⟩ | ⟨g, cap, cur, hv, hg, hh, hc, hx, hs, ht⟩
  · cases hv; exact .inl ⟨rfl, rfl, rfl⟩
  · cases hv
    refine .inr ⟨g, rfl, hg, hc, fun j hj => ?_⟩
    have hS : Slab w g cur 3 := hh
    rw [hS.cell]
    have e : cur.toList[j]? = (ints l)[j]? := by rw [← ht, List.getElem?_take_of_lt (by omega)]
    rw [← Array.getElem?_toList, e, List.getElem?_map, List.getD_eq_getElem?_getD, List.getElem?_eq_getElem (by omega)]
    rfl
theorem row_len {w : World} {base n c : Nat} {A : Option Addr} {l : List Nat} (h : w.ownsRow base 3 1 (.slice A n c) n (ints l)) : l.length = n := by
  have := h.1; simpa using this
/-- The last ones of what stands, the deepest first. -/
def lastF (st : List Nat) (kn : Nat) : List Nat := (st.take kn).reverse
theorem lastF_getD {st : List Nat} {kn cut j : Nat} (h : st.length = cut + kn) (hj : j < kn) : st.reverse.getD (cut + j) 0 = (lastF st kn).getD j 0 := by
  have e : st.reverse = (st.drop kn).reverse ++ lastF st kn := by unfold lastF; rw [← List.reverse_append, List.take_append_drop]
  have hl : (st.drop kn).reverse.length = cut := by simp; omega
  rw [List.getD_eq_getElem?_getD, List.getD_eq_getElem?_getD, e, List.getElem?_append_right (by omega), hl]
  congr 2; omega
theorem lastF_sum (st : List Nat) (kn : Nat) : (lastF st kn).sum = (st.take kn).sum := by unfold lastF; rw [List.sum_reverse]
theorem sum_take_succ {l : List Nat} {j : Nat} (h : j < l.length) : (l.take (j + 1)).sum = (l.take j).sum + l.getD j 0 := by
  rw [List.take_add_one, List.sum_append, List.getElem?_eq_getElem h, List.getD_eq_getElem?_getD, List.getElem?_eq_getElem h]
  simp
theorem sum_take_le {l : List Nat} (j : Nat) : (l.take j).sum ≤ l.sum := by
  have : (l.take j).sum + (l.drop j).sum = l.sum := by rw [← List.sum_append, List.take_append_drop]
  omega
theorem ints_take (l : List Nat) (n : Nat) : (ints l).take (n * 1) = ints (l.take n) := by rw [Nat.mul_one]; simp
theorem rev_take {st : List Nat} {cut kn : Nat} (h : st.length = cut + kn) : st.reverse.take cut = (st.drop kn).reverse := by
  have e : st.reverse = (st.drop kn).reverse ++ lastF st kn := by unfold lastF; rw [← List.reverse_append, List.take_append_drop]
  rw [e, List.take_append_of_le_length (by simp; omega), List.take_of_length_le (by simp; omega)]
set_option maxRecDepth 100000 in
set_option maxHeartbeats 2000000 in
theorem sizes_any (A : Option Addr) (c : Nat) (L : List Nd) (w : World) (hL : NodesAt w w.heap.size A L) :
    Calls Try.prog 85 #[.slice A L.length c] w (RetRow 3 1 (sizesF L).length (ints (sizesF L)) w) := by
  obtain ⟨i0, hi, hz0, hz1, hz2⟩ := info_parts info_int
  have HI := Lib.hid hi; clear hi
  have HZ0 := Lib.hid hz0; clear hz0
  have HZ1 := Lib.hid hz1; clear hz1
  have HZ2 := Lib.hid hz2; clear hz2
  have hlen := hL.1
  have CF := formed_any A c L w hL
  have HL := Lib.hid hL; clear hL
  cases hF : formedF L with
  | false =>
    rw [hF] at CF
    rw [sizesF_not hF]
    go_enter Try.func85, Try.ntmps85
    go_wp2_with fail
    refine CF.mono ?_
    rintro e1 w1 ⟨rfl, hb1⟩
    go_wp2
    go_ret
    exact ⟨none, 0, rfl, World.ownsRow_nil _ _ _ _, hb1⟩
  | true =>
  rw [hF] at CF
  rw [sizesF_formed hF]
  have HF := Lib.hid hF; clear hF
  obtain ⟨N, hN⟩ : ∃ N, L.length = N := ⟨_, rfl⟩
  rw [hN] at hlen CF
  have HN := Lib.hid hN
  rw [Sz_length (Nat.le_refl _), hN]
  clear hN
  go_enter Try.func85, Try.ntmps85
  go_wp2_with fail
  refine CF.mono ?_
  rintro e1 w1 ⟨rfl, hb1⟩
  have HB1 := Lib.hid hb1; clear hb1
  clear CF
  go_wp2
  go_loopw [3, 4, 16] (fun o s i wr => ∃ (k : Nat) (A3 A4 : Option Addr) (c3 c4 : Nat), k ≤ N ∧ i = .int .i64 k ∧ o = .slice A3 k c3 ∧ s = .slice A4 (St L k).length c4 ∧
      wr.ownsRow w.heap.size 3 1 (.slice A3 k c3) k (ints (Sz L k)) ∧ wr.ownsRow w.heap.size 3 1 (.slice A4 (St L k).length c4) (St L k).length (ints (St L k).reverse) ∧ Apart (.slice A4 (St L k).length c4) (.slice A3 k c3) ∧ Below w.heap.size w wr)
    (fun _ _ i _ => N - (intOf i).toNat)
  case atStart => exact ⟨0, none, none, 0, 0, by omega, rfl, rfl, rfl, World.ownsRow_nil w1 _ _ _, World.ownsRow_nil w1 _ _ _, (fun k hk => by cases hk), HB1.out⟩
  case round =>
    clear HB1
    obtain ⟨k, A3, A4, c3, c4, hk, rfl, rfl, rfl, hown3, hown4, hap, hB⟩ := hrel
    have HB := Lib.hid hB; clear hB
    by_cases hlt : k < N
    · have hltL : k < L.length := by rw [HN.out]; exact hlt
      obtain ⟨b, off, rfl, hb, hn8⟩ := (HL.out.below HB.out).node hltL
      unfold Node8 at hn8
      obtain ⟨x, hx⟩ : ∃ x, L.getD k ndEmpty = x := ⟨_, rfl⟩
      rw [hx] at hn8
      have HX := Lib.hid hx; clear hx
      obtain ⟨n0, n1, n2, n3, n4, n5, n6, n7⟩ := hn8
      have hat := formed_at HF.out hltL
      rw [HX.out] at hat
      obtain ⟨kn, hkn⟩ := Int.eq_ofNat_of_zero_le hat.1
      have HK : Hid (x.kids.toNat = kn) := Lib.hid (by omega)
      have hkl : kn ≤ (St L k).length := by omega
      have hsize := sizeAt_le (L := L) (k := k) (by omega)
      unfold sizeAt at hsize
      rw [HX.out, HK.out] at hsize
      have hsA : sizeAt L k = 1 + ((St L k).take kn).sum := by unfold sizeAt; rw [HX.out, HK.out]
      have HSA := Lib.hid hsA; clear hsA
      obtain ⟨M, hM⟩ : ∃ M, (St L k).length = M := ⟨_, rfl⟩
      rw [hM] at hown4 hap hkl hat ⊢
      have hMk : M ≤ k := by
        have h1 := St_chain (L := L) (k := k) (by omega)
        have : ∀ (st : List Nat) (a : Nat), ChainF (Sz L k) a st → st.length ≤ a := by
          intro st
          induction st with
          | nil => intro a _; simp
          | cons s st ih => intro a h; obtain ⟨p1, p2, _, p4⟩ := h; have := ih _ p4; simp; omega
        have := this _ _ h1; omega
      have HM := Lib.hid hM; clear hM
      obtain ⟨cut, hcut⟩ : ∃ cut, M = cut + kn := ⟨M - kn, by omega⟩
      have x0 : wrap64 ((M : Int) - (kn : Int)) = (cut : Int) := by unfold wrap64; omega
      have x1 : M - cut = kn := by omega
      have x2 : cut ≤ M := by omega
      have hcap : M ≤ c4 := by
        rcases rowInts hown4 with ⟨_, h, h'⟩ | ⟨_, _, _, h, _⟩ <;> omega
      have x3 : cut ≤ c4 := by omega
      have hcut4 : (wr.alloc (.cells #[.int .i64 x.kind, .int .i64 (kn : Int), .int .i64 x.n, .int .i64 x.m, .int .u64 (wd x.set 0), .int .u64 (wd x.set 1), .int .u64 (wd x.set 2), .int .u64 (wd x.set 3)] 43)).ownsRow w.heap.size 3 1 (.slice A4 cut c4) cut (ints ((St L k).drop kn).reverse) := by
        have h := (row_cut hown4 (m := cut) (by omega)).alloc (.cells #[.int .i64 x.kind, .int .i64 (kn : Int), .int .i64 x.n, .int .i64 x.m, .int .u64 (wd x.set 0), .int .u64 (wd x.set 1), .int .u64 (wd x.set 2), .int .u64 (wd x.set 3)] 43)
        rwa [ints_take, rev_take (by rw [HM.out]; exact hcut)] at h
      have hown3' := hown3.alloc (.cells #[.int .i64 x.kind, .int .i64 (kn : Int), .int .i64 x.n, .int .i64 x.m, .int .u64 (wd x.set 0), .int .u64 (wd x.set 1), .int .u64 (wd x.set 2), .int .u64 (wd x.set 3)] 43)
      have hapc : Apart (.slice A4 cut c4) (.slice A3 k c3) := fun q hq => hap q (by cases A4 with | none => cases hq | some a => exact hq)
      have hrow := rowInts hown4
      have HCU := Lib.hid hcut
      have HKB : Hid (kn ≤ N) := Lib.hid (by omega)
      have HCB : Hid (cut ≤ N) := Lib.hid (by omega)
      clear hown3 hown4 hap hat hcut hcap hkl hMk
      have HYL : Hid ((lastF (St L k) kn).length = kn) := Lib.hid (by unfold lastF; simp [HM.out]; have := HCU.out; omega)
      have HYS := Lib.hid (lastF_sum (St L k) kn)
      by_cases hc4 : c4 = cut
      · have H0 : Hid (kn = 0) := Lib.hid (by have := HCU.out; have : M ≤ c4 := by { rcases hrow with ⟨_, h, h'⟩ | ⟨_, _, _, h, _⟩ <;> omega }; omega)
        clear hrow hsize
        go_wp2
        clear hc4
        have hkb := HKB.out
        go_loopw [7, 29] (fun s j wr2 => ∃ m : Nat, m ≤ kn ∧ j = .int .i64 m ∧ s = .int .i64 ((1 + ((lastF (St L k) kn).take m).sum : Nat) : Int) ∧ wr2 = wr.alloc (.cells #[.int .i64 x.kind, .int .i64 (kn : Int), .int .i64 x.n, .int .i64 x.m, .int .u64 (wd x.set 0), .int .u64 (wd x.set 1), .int .u64 (wd x.set 2), .int .u64 (wd x.set 3)] 43)) (fun _ j _ => kn - (intOf j).toNat)
        case atStart => exact ⟨0, by omega, rfl, by simp, rfl⟩
        case round =>
          obtain ⟨m, hm, rfl, rfl, rfl⟩ := hrel
          by_cases hlt2 : m < kn
          · exfalso; have := H0.out; omega
          · obtain hmk : m = kn := by omega
            have hz : Value.int .i64 ((1 + ((lastF (St L k) kn).take m).sum : Nat) : Int) = Value.int .i64 ((1 + ((St L k).take kn).sum : Nat) : Int) := by rw [hmk, List.take_of_length_le (by rw [HYL.out]; exact Nat.le_refl _), HYS.out]
            rw [hz, hmk]
            clear hz hlt2 hmk
            have H4 : Hid ((Value.int .i64 ((1 + ((St L k).take kn).sum : Nat) : Int)) = .int .i64 ((sizeAt L k : Nat) : Int)) := Lib.hid (by rw [HSA.out])
            generalize ((1 + ((St L k).take kn).sum : Nat) : Int) = y at *
            have hsz := HB.out.size
            have hcb := HCB.out
            go_wp2_with (at_builtin; first
              | ((refine wpList_append_elem_at _ rfl (.tmp 39) (.tmp 41) 76 rfl (w.heap.size) 3 i0 _ _ _ Try.underlying76 HI.out HZ0.out HZ1.out HZ2.out rfl (by decide) _ _ _ _ ?q1 hcut4 _ _ ?q2 (by first | rfl | simp) ?q3 ?q4 (by unfold maxLen; omega) (by omega) (by first | omega | (simp; omega)) ?_; (case q1 => rfl); (case q2 => first | rfl | exact slice_at (by simp)); (case q3 => rfl); (case q4 => simp [Value.oneCell']); intro A5 q5 w5 hown5 hbl5 has5); obtain ⟨hown6, hap6⟩ := row_aside hown3' has5 hapc; have HB5 := Lib.hid ((HB.out.alloc hsz (.cells #[.int .i64 x.kind, .int .i64 (kn : Int), .int .i64 x.n, .int .i64 x.m, .int .u64 (wd x.set 0), .int .u64 (wd x.set 1), .int .u64 (wd x.set 2), .int .u64 (wd x.set 3)] 43)).trans hbl5); have hsz5 := HB5.out.size; clear hown3' has5 hapc hbl5 hcut4 HB)
              | ((refine wpList_append_elem_at _ rfl (.tmp 43) (.tmp 45) 76 rfl (w.heap.size) 3 i0 _ _ _ Try.underlying76 HI.out HZ0.out HZ1.out HZ2.out rfl (by decide) _ _ _ _ ?q1 hown6 _ _ ?q2 (by first | rfl | simp) ?q3 ?q4 (by unfold maxLen; omega) (by omega) (by first | omega | (simp; omega)) ?_; (case q1 => rfl); (case q2 => first | rfl | exact slice_at (by simp)); (case q3 => rfl); (case q4 => simp [Value.oneCell']); intro A7 q7 w7 hown7 hbl7 has7); obtain ⟨hown8, hap8⟩ := row_aside hown5 has7 hap6.symm))
            have HB7 := HB5.out.trans hbl7
            clear hown5 has7 hap6 hbl7 HB5 hown6
            go_wp2
            go_roundw
            case rel =>
              have e1 := Sz_succ hltL
              have e2 := St_succ hltL
              rw [HX.out] at e2
              have e3 : (St L (k + 1)).length = cut + 1 := by rw [e2, HK.out]; simp [HM.out]; have := HCU.out; omega
              have e4 : (Value.int .i64 y) = .int .i64 ((sizeAt L k : Nat) : Int) := H4.out
              have e5 : ints (Sz L k) ++ [Value.int .i64 y] = ints (Sz L (k + 1)) := by rw [e1, e4]; simp
              have e6 : ints (((St L k).drop kn).reverse) ++ [Value.int .i64 y] = ints (St L (k + 1)).reverse := by rw [e2, HK.out, e4]; simp
              have g7 : w7.ownsRow w.heap.size 3 1 (.slice A7 (k + 1) q7) (k + 1) (ints (Sz L (k + 1))) := e5 ▸ hown7
              have g8 : w7.ownsRow w.heap.size 3 1 (.slice A5 (cut + 1) q5) (cut + 1) (ints (St L (k + 1)).reverse) := e6 ▸ hown8
              have g9 : Apart (.slice A5 (cut + 1) q5) (.slice A7 (k + 1) q7) := hap8.symm
              refine ⟨k + 1, A7, A5, q7, q5, by omega, by go_num, rfl, ?_, g7, ?_, ?_, HB7⟩
              · rw [e3]
              · rw [e3]; exact g8
              · rw [e3]; exact g9
            case measure => simp [intOf]; omega
      · rcases hrow with ⟨_, h, h'⟩ | ⟨g, rfl, hgb, _, hcell⟩
        · omega
        have hcell' : ∀ j, j < kn → (wr.alloc (.cells #[.int .i64 x.kind, .int .i64 (kn : Int), .int .i64 x.n, .int .i64 x.m, .int .u64 (wd x.set 0), .int .u64 (wd x.set 1), .int .u64 (wd x.set 2), .int .u64 (wd x.set 3)] 43)).cell? ⟨g, cut + j, none⟩ = some (.int .i64 (((lastF (St L k) kn).getD j 0 : Nat) : Int)) := by
          intro j hj
          rw [← lastF_getD (by rw [HM.out]; exact HCU.out) hj]
          have h1 := hcell (cut + j) (by have := HCU.out; omega)
          have hlt : g < wr.heap.size := by
            rcases hcut4.2 with ⟨hv, _⟩ | ⟨g', _, _, hv, _, _⟩
            · cases hv
            · exact block_lt_of_cell h1
          rw [← h1]
          exact ((Below.refl wr.heap.size wr).alloc (Nat.le_refl _) _).cell (p := ⟨g, cut + j, none⟩) hlt
        have HC := Lib.hid hcell'; clear hcell' hcell
        clear hsize
        go_wp2
        have hkb := HKB.out
        go_loopw [7, 29] (fun s j wr2 => ∃ m : Nat, m ≤ kn ∧ j = .int .i64 m ∧ s = .int .i64 ((1 + ((lastF (St L k) kn).take m).sum : Nat) : Int) ∧ wr2 = wr.alloc (.cells #[.int .i64 x.kind, .int .i64 (kn : Int), .int .i64 x.n, .int .i64 x.m, .int .u64 (wd x.set 0), .int .u64 (wd x.set 1), .int .u64 (wd x.set 2), .int .u64 (wd x.set 3)] 43)) (fun _ j _ => kn - (intOf j).toNat)
        case atStart => exact ⟨0, by omega, rfl, by simp, rfl⟩
        case round =>
          obtain ⟨m, hm, rfl, rfl, rfl⟩ := hrel
          by_cases hlt2 : m < kn
          · have hc1 := HC.out m hlt2
            have hs1 := sum_take_succ (l := lastF (St L k) kn) (j := m) (by rw [HYL.out]; exact hlt2)
            have hs2 := sum_take_le (l := lastF (St L k) kn) (m + 1)
            rw [HYS.out] at hs2
            have hs3 := sizeAt_le (L := L) (k := k) (by omega)
            rw [HSA.out] at hs3
            have HS1 := Lib.hid hs1
            generalize (lastF (St L k) kn).getD m 0 = y at *
            generalize hsm : ((lastF (St L k) kn).take m).sum = z at *
            have HSM := Lib.hid hsm
            have hbd : 1 + z + y ≤ k + 1 := by omega
            clear hs1 hs2 hs3 hsm
            go_wp2
            go_roundw
            case rel => exact ⟨m + 1, by omega, by go_num, by rw [HS1.out]; congr 1; omega, by trivial⟩
            case measure => simp [intOf]; omega
          · obtain hmk : m = kn := by omega
            have hz : Value.int .i64 ((1 + ((lastF (St L k) kn).take m).sum : Nat) : Int) = Value.int .i64 ((1 + ((St L k).take kn).sum : Nat) : Int) := by rw [hmk, List.take_of_length_le (by rw [HYL.out]; exact Nat.le_refl _), HYS.out]
            rw [hz, hmk]
            clear hz hlt2 hmk
            have H4 : Hid ((Value.int .i64 ((1 + ((St L k).take kn).sum : Nat) : Int)) = .int .i64 ((sizeAt L k : Nat) : Int)) := Lib.hid (by rw [HSA.out])
            generalize ((1 + ((St L k).take kn).sum : Nat) : Int) = y at *
            have hsz := HB.out.size
            have hcb := HCB.out
            go_wp2_with (at_builtin; first
              | ((refine wpList_append_elem_at _ rfl (.tmp 39) (.tmp 41) 76 rfl (w.heap.size) 3 i0 _ _ _ Try.underlying76 HI.out HZ0.out HZ1.out HZ2.out rfl (by decide) _ _ _ _ ?q1 hcut4 _ _ ?q2 (by first | rfl | simp) ?q3 ?q4 (by unfold maxLen; omega) (by omega) (by first | omega | (simp; omega)) ?_; (case q1 => rfl); (case q2 => first | rfl | exact slice_at (by simp)); (case q3 => rfl); (case q4 => simp [Value.oneCell']); intro A5 q5 w5 hown5 hbl5 has5); obtain ⟨hown6, hap6⟩ := row_aside hown3' has5 hapc; have HB5 := Lib.hid ((HB.out.alloc hsz (.cells #[.int .i64 x.kind, .int .i64 (kn : Int), .int .i64 x.n, .int .i64 x.m, .int .u64 (wd x.set 0), .int .u64 (wd x.set 1), .int .u64 (wd x.set 2), .int .u64 (wd x.set 3)] 43)).trans hbl5); have hsz5 := HB5.out.size; clear hown3' has5 hapc hbl5 hcut4 HB)
              | ((refine wpList_append_elem_at _ rfl (.tmp 43) (.tmp 45) 76 rfl (w.heap.size) 3 i0 _ _ _ Try.underlying76 HI.out HZ0.out HZ1.out HZ2.out rfl (by decide) _ _ _ _ ?q1 hown6 _ _ ?q2 (by first | rfl | simp) ?q3 ?q4 (by unfold maxLen; omega) (by omega) (by first | omega | (simp; omega)) ?_; (case q1 => rfl); (case q2 => first | rfl | exact slice_at (by simp)); (case q3 => rfl); (case q4 => simp [Value.oneCell']); intro A7 q7 w7 hown7 hbl7 has7); obtain ⟨hown8, hap8⟩ := row_aside hown5 has7 hap6.symm))
            have HB7 := HB5.out.trans hbl7
            clear hown5 has7 hap6 hbl7 HB5 hown6
            go_wp2
            go_roundw
            case rel =>
              have e1 := Sz_succ hltL
              have e2 := St_succ hltL
              rw [HX.out] at e2
              have e3 : (St L (k + 1)).length = cut + 1 := by rw [e2, HK.out]; simp [HM.out]; have := HCU.out; omega
              have e4 : (Value.int .i64 y) = .int .i64 ((sizeAt L k : Nat) : Int) := H4.out
              have e5 : ints (Sz L k) ++ [Value.int .i64 y] = ints (Sz L (k + 1)) := by rw [e1, e4]; simp
              have e6 : ints (((St L k).drop kn).reverse) ++ [Value.int .i64 y] = ints (St L (k + 1)).reverse := by rw [e2, HK.out, e4]; simp
              have g7 : w7.ownsRow w.heap.size 3 1 (.slice A7 (k + 1) q7) (k + 1) (ints (Sz L (k + 1))) := e5 ▸ hown7
              have g8 : w7.ownsRow w.heap.size 3 1 (.slice A5 (cut + 1) q5) (cut + 1) (ints (St L (k + 1)).reverse) := e6 ▸ hown8
              have g9 : Apart (.slice A5 (cut + 1) q5) (.slice A7 (k + 1) q7) := hap8.symm
              refine ⟨k + 1, A7, A5, q7, q5, by omega, by go_num, rfl, ?_, g7, ?_, ?_, HB7⟩
              · rw [e3]
              · rw [e3]; exact g8
              · rw [e3]; exact g9
            case measure => simp [intOf]; omega
    · obtain rfl : k = N := by omega
      go_wp2
      go_ret
      exact ⟨A3, c3, rfl, hown3, HB.out⟩
end Go.Proofs.Ytddokdjlmdoebaa

/- Walks of the package gimletref06: each node's size; kids. -/
namespace Go.Proofs.Ytddokdjlmdoebaa
open Go.RowKit SetP AstP
abbrev intsA (l : List Nat) : Array Value := (ints l).toArray
theorem made_ints (n : Nat) : madeCells #[Value.int .i64 0] n = intsA (List.replicate n 0) := by
  apply Array.toList_inj.1
  rw [toList_madeCells_one]; simp
set_option maxRecDepth 100000 in
theorem make_int (n : Nat) (h : n ≤ 1000000000000) (w : World) : (Instr.makeSlice 76 (.int .i64 (n : Int)) (.int .i64 (n : Int))).run Try.prog w = .ok (.slice (some ⟨w.heap.size, 0, none⟩) n n) (w.alloc (.cells (intsA (List.replicate n 0)) 3)) := by
  have := run_make_row' (P := Try.prog) 76 3 (.int .i64 0) 8 Try.underlying76 info_int rfl .i64 .i64 n (by omega) (by omega) w
  rwa [made_ints] at this
theorem ints_get (l : List Nat) {j : Nat} (h : j < l.length) : (intsA l)[j]? = some (.int .i64 ((l.getD j 0 : Nat) : Int)) := by
  rw [List.getD_eq_getElem?_getD, List.getElem?_eq_getElem h]
  simp [h]
theorem ints_put (l : List Nat) (j v : Nat) : (intsA l).setIfInBounds j (.int .i64 (v : Int)) = intsA (l.set j v) := by
  apply Array.toList_inj.1
  simp [List.map_set]
theorem fill_put (a : List Nat) (n v : Nat) (h : 0 < n) : (a ++ List.replicate n 0).set a.length v = (a ++ [v]) ++ List.replicate (n - 1) 0 := by
  obtain ⟨m, rfl⟩ : ∃ m, n = m + 1 := ⟨n - 1, by omega⟩
  rw [List.set_append_right _ _ (Nat.le_refl _), Nat.sub_self, List.replicate_succ]
  simp
/-- A row of numbers in a block of its own, whole. -/
theorem row_ints {w : World} {base g n : Nat} {l : List Nat} (h : Slab w g (intsA l) 3) (hb : base ≤ g) (hl : l.length = n) (hn : n ≤ 1000000000000) : w.ownsRow base 3 1 (.slice (some ⟨g, 0, none⟩) n n) n (ints l) := by
  have := row_lit (base := base) (size := 1) (n := n) h hb (by simp [hl]) (by unfold maxLen; omega)
  simpa using this
set_option maxRecDepth 100000 in
set_option maxHeartbeats 2000000 in
theorem rsizes_any (A : Option Addr) (c : Nat) (L : List Nd) (w : World) (hL : NodesAt w w.heap.size A L) :
    Calls Try.prog 87 #[.slice A L.length c] w (RetRow 3 1 (sizesF L).length (ints (sizesF L)) w) := by
  obtain ⟨i0, hi, hz0, hz1, hz2⟩ := info_parts info_int
  have HI := Lib.hid hi; clear hi
  have HZ0 := Lib.hid hz0; clear hz0
  have HZ1 := Lib.hid hz1; clear hz1
  have HZ2 := Lib.hid hz2; clear hz2
  have hlen := hL.1
  have CF := rformed_any A c L w hL
  have HL := Lib.hid hL; clear hL
  cases hF : formedF L with
  | false =>
    rw [hF] at CF
    rw [sizesF_not hF]
    go_enter Try.func87, Try.ntmps87
    go_wp2_with fail
    refine CF.mono ?_
    rintro e1 w1 ⟨rfl, hb1⟩
    go_wp2
    go_ret
    exact ⟨none, 0, rfl, World.ownsRow_nil _ _ _ _, hb1⟩
  | true =>
  rw [hF] at CF
  rw [sizesF_formed hF]
  have HF := Lib.hid hF; clear hF
  obtain ⟨N, hN⟩ : ∃ N, L.length = N := ⟨_, rfl⟩
  rw [hN] at hlen CF
  have HN := Lib.hid hN
  rw [Sz_length (Nat.le_refl _), hN]
  clear hN
  go_enter Try.func87, Try.ntmps87
  go_wp2_with fail
  refine CF.mono ?_
  rintro e1 w1 ⟨rfl, hb1⟩
  have HB1 := Lib.hid hb1; clear hb1
  clear CF
  have hmake := make_int N hlen
  go_wp2
  have o1 : Slab (w1.alloc (.cells (intsA (List.replicate N 0)) 3)) w1.heap.size (intsA (Sz L 0 ++ List.replicate (N - 0) 0)) 3 := Slab.new _ _ _
  have HB2 := Lib.hid (HB1.out.alloc HB1.out.size (.cells (intsA (List.replicate N 0)) 3))
  have hg : w.heap.size ≤ w1.heap.size := HB1.out.size
  clear HB1 hmake
  go_loopw [4] (fun i wr => ∃ k : Nat, k ≤ N ∧ i = .int .i64 k ∧ Slab wr w1.heap.size (intsA (Sz L k ++ List.replicate (N - k) 0)) 3 ∧ Below w.heap.size w wr) (fun i _ => N - (intOf i).toNat)
  case atStart => exact ⟨0, by omega, rfl, o1, HB2.out⟩
  case round =>
    clear o1 HB2
    obtain ⟨k, hk, rfl, o, hB⟩ := hrel
    have HB := Lib.hid hB; clear hB
    by_cases hlt : k < N
    · have hltL : k < L.length := by rw [HN.out]; exact hlt
      obtain ⟨b, off, rfl, hb, hn8⟩ := (HL.out.below HB.out).node hltL
      unfold Node8 at hn8
      obtain ⟨x, hx⟩ : ∃ x, L.getD k ndEmpty = x := ⟨_, rfl⟩
      rw [hx] at hn8
      have HX := Lib.hid hx; clear hx
      obtain ⟨n0, n1, n2, n3, n4, n5, n6, n7⟩ := hn8
      have hat := formed_at HF.out hltL
      rw [HX.out] at hat
      obtain ⟨kn, hkn⟩ := Int.eq_ofNat_of_zero_le hat.1
      have HK : Hid (x.kids.toNat = kn) := Lib.hid (by omega)
      have HKL : Hid (kn ≤ (St L k).length) := Lib.hid (by omega)
      have hsA : sizeAt L k = 1 + ((St L k).take kn).sum := by unfold sizeAt; rw [HX.out, HK.out]
      have HSA := Lib.hid hsA; clear hsA hat
      have HCH := Lib.hid (St_chain (L := L) (k := k) (by omega))
      have HSL := Lib.hid (Sz_length (L := L) (k := k) (by omega))
      have hkb : kn ≤ N := by have := St_len (L := L) (k := k) (by omega); have := HKL.out; omega
      go_wp2
      go_loopw [5, 6] (fun a j wr2 => ∃ (m : Nat) (p : Int), m ≤ kn ∧ j = .int .i64 m ∧ a = .int .i64 p ∧ p = (k : Int) - 1 - ((St L k).take m).sum ∧ wr2 = wr) (fun _ j _ => kn - (intOf j).toNat)
      case atStart => exact ⟨0, _, by omega, rfl, rfl, by simp, rfl⟩
      case round =>
        obtain ⟨m, p, hm, rfl, rfl, hp, rfl⟩ := hrel
        by_cases hlt2 : m < kn
        · obtain ⟨q1, q2, q3⟩ := chain_at HCH.out (m := m) (by have := HKL.out; omega)
          obtain ⟨q, hq⟩ := Int.eq_ofNat_of_zero_le (show 0 ≤ p by omega)
          subst hq
          have hq' : q = k - ((St L k).take m).sum - 1 := by omega
          have hqk : q < k := by omega
          have hl := HSL.out
          have hcell := (o.cell q).trans (ints_get _ (by rw [List.length_append, hl]; omega))
          have hgd : (Sz L k ++ List.replicate (N - k) 0).getD q 0 = (St L k).getD m 0 := by
            rw [List.getD_eq_getElem?_getD, List.getElem?_append_left (by omega), hq', q3]; rfl
          rw [hgd] at hcell
          have hs1 := sum_take_succ (l := St L k) (j := m) (by have := HKL.out; omega)
          have HS1 := Lib.hid hs1
          have HP := Lib.hid hp
          generalize hy : (St L k).getD m 0 = y at *
          have hyb : y ≤ q + 1 := by omega
          clear hs1 hp q1 q2 q3 hgd hq' hl hy
          go_wp2
          go_roundw
          case rel => exact ⟨m + 1, _, by omega, by go_num, rfl, by have := HS1.out; have := HP.out; omega, by trivial⟩
          case measure => simp [intOf]; omega
        · have hmk : m = kn := by omega
          rw [hmk] at hp
          have hsz := sizeAt_le (L := L) (k := k) (by omega)
          have e1 : (Value.int .i64 ((k : Int) - p)) = .int .i64 ((sizeAt L k : Nat) : Int) := by rw [HSA.out, hp]; congr 1; omega
          have E1 := Lib.hid e1
          have hpb : -1 ≤ p ∧ p ≤ k := by rw [HSA.out] at hsz; omega
          obtain ⟨c1, f1⟩ := o.facts
          have hsize : k < (intsA (Sz L k ++ List.replicate (N - k) 0)).size := by have := HSL.out; simp; omega
          have hck := (o.cell k).trans (ints_get _ (by have := HSL.out; simp; omega))
          obtain ⟨z, hz⟩ : ∃ z, (Sz L k ++ List.replicate (N - k) 0).getD k 0 = z := ⟨_, rfl⟩
          rw [hz] at hck
          clear hp hsz e1 c1 hsize hz
          go_wp2
          go_roundw
          case rel =>
            refine ⟨k + 1, by omega, by go_num, ?_, by have := HB.out; (repeat' (first | (with_reducible exact Below.refl _ _) | (with_reducible assumption) | (with_reducible refine Below.alloc ?_ ?_ _) | (with_reducible refine Below.drew ?_) | (with_reducible refine below_set ?_ ?_ _) | (with_reducible refine below_call ?_ ?_ (by assumption)) | (with_reducible exact Below.size (by assumption)) | omega | go_size))⟩
            have o2 := o.set k (.int .i64 ((k : Int) - p))
            rw [E1.out, ints_put] at o2
            rw [E1.out]
            have e : (Sz L k ++ List.replicate (N - k) 0).set k (sizeAt L k) = Sz L (k + 1) ++ List.replicate (N - (k + 1)) 0 := by
              have h := fill_put (Sz L k) (N - k) (sizeAt L k) (by omega)
              rw [HSL.out] at h
              rw [h, Sz_succ hltL]; congr 2
            rw [e] at o2
            exact o2
          case measure => simp [intOf]; omega
    · obtain rfl : k = N := by omega
      have hrow := row_ints (base := w.heap.size) (n := k) o hg (by have := Sz_length (L := L) (k := k) (by rw [HN.out]; exact Nat.le_refl _); simp [this]) hlen
      rw [Nat.sub_self, List.replicate_zero, List.append_nil] at hrow
      go_wp2
      go_ret
      exact ⟨_, _, rfl, hrow, HB.out⟩
end Go.Proofs.Ytddokdjlmdoebaa
