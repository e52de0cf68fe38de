/- Plain facts on lists of nodes: which are trees, how many nodes are in each, its kids. No program is in sight. -/
import Derived.Test.YtfcgmgpcbenfpaaMMem
import Derived.Test.YtfcgmgpcbenfpaaProg
import Derived.WalkKit
import Derived.WalkSpells
import Derived.WalkLawsBesides
import Derived.Handy
import Derived.Lib.Hide
import Derived.Deep.RegionHeld3
import Derived.IntWalk
import Derived.Deep.OwnRows
import Derived.Laws.OwnMore
set_option linter.unusedVariables false
set_option linter.unusedSimpArgs false
namespace Go.Proofs.Ytfcgmgpcbenfpaa
open SetP
namespace AstP
/-- A node. -/
structure Nd where
  kind : Int
  kids : Int
  n : Int
  m : Int
  set : Nat → Bool

/-- How many trees stand side by side behind a list, if there were t ahead of it. -/
def runF : List Nd → Int → Option Int
  | [], t => some t
  | x :: l, t => if x.kids < 0 ∨ t < x.kids then none else runF l (t + 1 - x.kids)
def formedF (l : List Nd) : Bool := runF l 0 == some 1
/-- Each node's size; st is what stands ahead, the last one first. -/
def szF : List Nd → List Nat → List Nat
  | [], _ => []
  | x :: l, st => (1 + (st.take x.kids.toNat).sum) :: szF l ((1 + (st.take x.kids.toNat).sum) :: st.drop x.kids.toNat)
/-- What stands at the end. -/
def stF : List Nd → List Nat → List Nat
  | [], st => st
  | x :: l, st => stF l ((1 + (st.take x.kids.toNat).sum) :: st.drop x.kids.toNat)
def sizesF (l : List Nd) : List Nat := if formedF l then szF l [] else []
theorem szF_length (l : List Nd) (st : List Nat) : (szF l st).length = l.length := by
  induction l generalizing st with
  | nil => rfl
  | cons x l ih => rw [szF, List.length_cons, ih, List.length_cons]
theorem szF_append (l m : List Nd) (st : List Nat) : szF (l ++ m) st = szF l st ++ szF m (stF l st) := by
  induction l generalizing st with
  | nil => rfl
  | cons x l ih => rw [List.cons_append, szF, szF, ih, stF, List.cons_append]
theorem stF_append (l m : List Nd) (st : List Nat) : stF (l ++ m) st = stF m (stF l st) := by
  induction l generalizing st with
  | nil => rfl
  | cons x l ih => rw [List.cons_append, stF, ih, stF]
theorem runF_append (l m : List Nd) (t : Int) : runF (l ++ m) t = (runF l t).bind fun u => runF m u := by
  induction l generalizing t with
  | nil => rfl
  | cons x l ih =>
    rw [List.cons_append, runF, runF]
    split
    · rfl
    · exact ih _
/-- A run that goes well: the stack is as long as is told, and all kids are there. -/
theorem runF_st (l : List Nd) (st : List Nat) (u : Int) (h : runF l st.length = some u) : ((stF l st).length : Int) = u := by
  induction l generalizing st with
  | nil => simpa [runF, stF] using h
  | cons x l ih =>
    rw [runF] at h
    split at h
    · cases h
    · rename_i hk
      rw [stF]
      apply ih
      rw [← h]
      congr 1
      simp
      omega
theorem runF_nonneg (l : List Nd) (t u : Int) (ht : 0 ≤ t) (h : runF l t = some u) : 0 ≤ u := by
  induction l generalizing t with
  | nil => simp [runF] at h; omega
  | cons x l ih =>
    rw [runF] at h
    split at h
    · cases h
    · exact ih _ (by omega) h
/-- The places of the stack's things, with the list of sizes so far: they lie side by side, from the begin. -/
def ChainF (sz : List Nat) : Nat → List Nat → Prop
  | a, [] => a = 0
  | a, s :: st => 0 < s ∧ s ≤ a ∧ sz[a - 1]? = some s ∧ ChainF sz (a - s) st
theorem ChainF.more {sz : List Nat} (more : List Nat) : ∀ {a : Nat} {st : List Nat}, a ≤ sz.length → ChainF sz a st → ChainF (sz ++ more) a st
  | _, [], _, h => h
  | a, s :: st, ha, h => by
    obtain ⟨h1, h2, h3, h4⟩ := h
    refine ⟨h1, h2, ?_, ChainF.more more (by omega) h4⟩
    rw [List.getElem?_append_left (by omega)]; exact h3
theorem ChainF.sum {sz : List Nat} : ∀ {a : Nat} {st : List Nat}, ChainF sz a st → st.sum = a
  | _, [], h => by simpa using h.symm
  | a, s :: st, h => by
    obtain ⟨h1, h2, _, h4⟩ := h
    have := h4.sum
    simp; omega
theorem ChainF.drop {sz : List Nat} (k : Nat) : ∀ {a : Nat} {st : List Nat}, ChainF sz a st → ChainF sz (a - (st.take k).sum) (st.drop k) := by
  induction k with
  | zero => intro a st h; simpa using h
  | succ k ih =>
    intro a st h
    cases st with
    | nil => simpa using h
    | cons s st =>
      obtain ⟨_, _, _, h4⟩ := h
      have := ih h4
      simpa [Nat.sub_sub] using this
theorem ChainF.take_le {sz : List Nat} (k : Nat) {a : Nat} {st : List Nat} (h : ChainF sz a st) : (st.take k).sum ≤ a := by
  have e := h.sum
  have : (st.take k).sum + (st.drop k).sum = st.sum := by rw [← List.sum_append, List.take_append_drop]
  omega
theorem chain_step (l : List Nd) (pre st : List Nat) (h : ChainF pre pre.length st) : ChainF (pre ++ szF l st) (pre.length + l.length) (stF l st) := by
  induction l generalizing pre st with
  | nil => simpa [szF, stF] using h
  | cons x l ih =>
    rw [szF, stF]
    have hle := h.take_le x.kids.toNat
    have h2 : ChainF (pre ++ [1 + (st.take x.kids.toNat).sum]) (pre ++ [1 + (st.take x.kids.toNat).sum]).length ((1 + (st.take x.kids.toNat).sum) :: st.drop x.kids.toNat) := by
      rw [List.length_append, List.length_singleton]
      refine ⟨by omega, by omega, ?_, ?_⟩
      · rw [Nat.add_sub_cancel, List.getElem?_append_right (Nat.le_refl _)]; simp
      · have := (h.drop x.kids.toNat).more [1 + (st.take x.kids.toNat).sum] (by omega)
        rwa [show pre.length + 1 - (1 + (st.take x.kids.toNat).sum) = pre.length - (st.take x.kids.toNat).sum by omega]
    have := ih _ _ h2
    rw [List.append_assoc] at this
    simpa [Nat.add_assoc, Nat.add_comm, Nat.add_left_comm] using this
def ndEmpty : Nd := ⟨0, 0, 0, 0, fun _ => false⟩
theorem take_more {L : List Nd} {k : Nat} (hk : k < L.length) : L.take (k + 1) = L.take k ++ [L.getD k ndEmpty] := by
  rw [List.getD_eq_getElem?_getD, List.getElem?_eq_getElem hk, List.take_add_one, List.getElem?_eq_getElem hk]; rfl
/-- What stands, and the sizes, behind k nodes. -/
def St (L : List Nd) (k : Nat) : List Nat := stF (L.take k) []
def Sz (L : List Nd) (k : Nat) : List Nat := szF (L.take k) []
/-- The size of node k. -/
def sizeAt (L : List Nd) (k : Nat) : Nat := 1 + ((St L k).take (L.getD k ndEmpty).kids.toNat).sum
theorem Sz_succ {L : List Nd} {k : Nat} (hk : k < L.length) : Sz L (k + 1) = Sz L k ++ [sizeAt L k] := by
  unfold Sz; rw [take_more hk, szF_append]; rfl
theorem St_succ {L : List Nd} {k : Nat} (hk : k < L.length) : St L (k + 1) = sizeAt L k :: (St L k).drop (L.getD k ndEmpty).kids.toNat := by
  unfold St; rw [take_more hk, stF_append]; rfl
theorem Sz_length {L : List Nd} {k : Nat} (hk : k ≤ L.length) : (Sz L k).length = k := by
  unfold Sz; rw [szF_length, List.length_take]; omega
theorem St_chain {L : List Nd} {k : Nat} (hk : k ≤ L.length) : ChainF (Sz L k) k (St L k) := by
  have := chain_step (L.take k) [] [] rfl
  simp only [List.nil_append, List.length_nil, List.length_take, Nat.zero_add] at this
  rwa [Nat.min_eq_left hk] at this
theorem St_sum {L : List Nd} {k : Nat} (hk : k ≤ L.length) : (St L k).sum = k := (St_chain hk).sum
theorem sizeAt_le {L : List Nd} {k : Nat} (hk : k ≤ L.length) : sizeAt L k ≤ k + 1 := by
  have := (St_chain hk).take_le (L.getD k ndEmpty).kids.toNat
  unfold sizeAt; omega
theorem formed_at {L : List Nd} {k : Nat} (h : formedF L = true) (hk : k < L.length) : 0 ≤ (L.getD k ndEmpty).kids ∧ (L.getD k ndEmpty).kids ≤ ((St L k).length : Int) := by
  have e : L = L.take k ++ (L.getD k ndEmpty :: L.drop (k + 1)) := by
    rw [List.getD_eq_getElem?_getD, List.getElem?_eq_getElem hk]
    show L = L.take k ++ (L[k] :: L.drop (k + 1))
    rw [← List.drop_eq_getElem_cons hk, List.take_append_drop]
  have h1 : runF L 0 = some 1 := by unfold formedF at h; simpa using h
  rw [e, runF_append] at h1
  cases hr : runF (L.take k) 0 with
  | none => rw [hr] at h1; cases h1
  | some u =>
    rw [hr] at h1
    have hst := runF_st (L.take k) [] u hr
    have h2 : runF (L.getD k ndEmpty :: L.drop (k + 1)) u = some 1 := h1
    rw [runF] at h2
    split at h2
    · cases h2
    · unfold St; omega
theorem chain_at {sz st : List Nat} {a m : Nat} (h : ChainF sz a st) (hm : m < st.length) : (st.take m).sum < a ∧ (st.take m).sum + st.getD m 0 ≤ a ∧ sz[a - (st.take m).sum - 1]? = some (st.getD m 0) := by
  have h1 := h.drop m
  have h2 := h.take_le m
  rw [List.drop_eq_getElem_cons hm] at h1
  obtain ⟨p1, p2, p3, _⟩ := h1
  have e : st.getD m 0 = st[m] := by rw [List.getD_eq_getElem?_getD, List.getElem?_eq_getElem hm]; rfl
  rw [e]
  exact ⟨by omega, by omega, p3⟩
theorem Sz_more {L : List Nd} {i : Nat} : ∃ more, Sz L L.length = Sz L i ++ more := by
  refine ⟨szF (L.drop i) (stF (L.take i) []), ?_⟩
  unfold Sz
  rw [← szF_append, List.take_append_drop, List.take_length]
/-- The place of the kid j of node i, the last one first. -/
def kidAt (L : List Nd) (i j : Nat) : Nat := i - ((St L i).take j).sum - 1
def kidsRev (L : List Nd) (i m : Nat) : List Nat := (List.range m).map (kidAt L i)
def kidsF (L : List Nd) (i : Int) : List Nat :=
  if i < 0 ∨ ((sizesF L).length : Int) ≤ i then [] else (kidsRev L i.toNat (L.getD i.toNat ndEmpty).kids.toNat).reverse
theorem kidsRev_succ (L : List Nd) (i m : Nat) : kidsRev L i (m + 1) = kidsRev L i m ++ [kidAt L i m] := by unfold kidsRev; rw [List.range_succ, List.map_append]; rfl
theorem kidsRev_length (L : List Nd) (i m : Nat) : (kidsRev L i m).length = m := by unfold kidsRev; simp
/-- The kid j of node i: its place, and the size that stands there. -/
theorem kid_at {L : List Nd} {i j : Nat} (hi : i < L.length) (hj : j < (St L i).length) :
    ((St L i).take j).sum + 1 ≤ i ∧ ((St L i).take (j + 1)).sum ≤ i ∧ (Sz L L.length).getD (kidAt L i j) 0 = (St L i).getD j 0 ∧ kidAt L i j < i ∧ ((St L i).take (j + 1)).sum = ((St L i).take j).sum + (St L i).getD j 0 := by
  obtain ⟨more, hm⟩ := Sz_more (L := L) (i := i)
  have hc := (St_chain (L := L) (k := i) (by omega)).more more (by rw [Sz_length (by omega)]; exact Nat.le_refl _)
  rw [← hm] at hc
  obtain ⟨h1, h2, h3⟩ := chain_at hc hj
  have e : ((St L i).take (j + 1)).sum = ((St L i).take j).sum + (St L i).getD j 0 := by
    rw [List.take_add_one, List.sum_append, List.getElem?_eq_getElem hj, List.getD_eq_getElem?_getD, List.getElem?_eq_getElem hj]; simp
  refine ⟨by omega, by omega, ?_, by unfold kidAt; omega, e⟩
  rw [List.getD_eq_getElem?_getD]
  unfold kidAt
  rw [h3]; rfl
theorem sizesF_formed {L : List Nd} (h : formedF L = true) : sizesF L = Sz L L.length := by
  unfold sizesF Sz; rw [if_pos h, List.take_length]
theorem sizesF_not {L : List Nd} (h : formedF L = false) : sizesF L = [] := by unfold sizesF; rw [if_neg (by rw [h]; simp)]
theorem chain_len {sz : List Nat} : ∀ {a : Nat} {st : List Nat}, ChainF sz a st → st.length ≤ a
  | _, [], _ => by simp
  | a, s :: st, h => by
    obtain ⟨h1, h2, _, h4⟩ := h
    have := chain_len h4
    simp; omega
theorem St_len {L : List Nd} {k : Nat} (hk : k ≤ L.length) : (St L k).length ≤ k := chain_len (St_chain hk)
/-- The kids of a node of a tree. -/
theorem kidsF_at {L : List Nd} {k : Nat} (hF : formedF L = true) (hk : k < L.length) : kidsF L (k : Int) = (kidsRev L k (L.getD k ndEmpty).kids.toNat).reverse := by
  unfold kidsF
  rw [if_neg (by rw [sizesF_formed hF, Sz_length (Nat.le_refl _)]; omega)]; rfl
theorem kidsF_lt {L : List Nd} {k j : Nat} (hF : formedF L = true) (hk : k < L.length) (hj : j ∈ kidsF L (k : Int)) : j < k := by
  rw [kidsF_at hF hk, List.mem_reverse] at hj
  unfold kidsRev at hj
  obtain ⟨m, hm, rfl⟩ := List.mem_map.1 hj
  have hat := formed_at hF hk
  exact (kid_at hk (by have := List.mem_range.1 hm; omega)).2.2.2.1
theorem kidsF_length {L : List Nd} {k : Nat} (hF : formedF L = true) (hk : k < L.length) : (kidsF L (k : Int)).length = (L.getD k ndEmpty).kids.toNat := by
  rw [kidsF_at hF hk, List.length_reverse, kidsRev_length]
/-- How many groups are among the first k nodes. -/
def groupsF (L : List Nd) : Nat → Nat
  | 0 => 0
  | k + 1 => if (L.getD k ndEmpty).kind == 3 then groupsF L k + 1 else groupsF L k
theorem groupsF_le (L : List Nd) (k : Nat) : groupsF L k ≤ k := by
  induction k with
  | zero => exact Nat.le_refl _
  | succ k ih => rw [groupsF]; split <;> omega
end AstP
end Go.Proofs.Ytfcgmgpcbenfpaa

/- Walks of the packages ast and gimletref06: is a list a tree? -/
namespace Go.Proofs.Ytfcgmgpcbenfpaa
open Go.RowKit SetP AstP
/-- A node's cells. -/
abbrev ndCells (x : Nd) : Array Value := #[.int .i64 x.kind, .int .i64 x.kids, .int .i64 x.n, .int .i64 x.m, .int .u64 (wd x.set 0), .int .u64 (wd x.set 1), .int .u64 (wd x.set 2), .int .u64 (wd x.set 3)]
/-- A list of nodes, as a slice of whatever make, in a block below B. -/
def NodesAt (w : World) (B : Nat) (A : Option Addr) (L : List Nd) : Prop :=
  L.length ≤ 1000000000000 ∧ (L.length = 0 ∨ ∃ b off, A = some ⟨b, off, none⟩ ∧ b < B ∧ ∀ j, j < L.length → ∀ f, f < 8 → w.cell? ⟨b, off + j * 8 + f, none⟩ = (ndCells (L.getD j ndEmpty))[f]?)
theorem NodesAt.below {w w' : World} {B : Nat} {A : Option Addr} {L : List Nd} (h : NodesAt w B A L) (hb : Below B w w') : NodesAt w' B A L := by
  obtain ⟨h1, h2⟩ := h
  refine ⟨h1, ?_⟩
  rcases h2 with h2 | ⟨b, off, rfl, hB, hc⟩
  · exact .inl h2
  · exact .inr ⟨b, off, rfl, hB, fun j hj f hf => (hb.cell (p := ⟨b, off + j * 8 + f, none⟩) hB).trans (hc j hj f hf)⟩
theorem NodesAt.more {w : World} {B B' : Nat} {A : Option Addr} {L : List Nd} (h : NodesAt w B A L) (hB : B ≤ B') : NodesAt w B' A L := by
  obtain ⟨h1, h2⟩ := h
  refine ⟨h1, ?_⟩
  rcases h2 with h2 | ⟨b, off, rfl, hb, hc⟩
  · exact .inl h2
  · exact .inr ⟨b, off, rfl, by omega, hc⟩
/-- The cells of one node. -/
def Node8 (w : World) (b o : Nat) (x : Nd) : Prop :=
  w.cell? ⟨b, o, none⟩ = some (.int .i64 x.kind) ∧ w.cell? ⟨b, o + 1, none⟩ = some (.int .i64 x.kids) ∧ w.cell? ⟨b, o + 2, none⟩ = some (.int .i64 x.n) ∧ w.cell? ⟨b, o + 3, none⟩ = some (.int .i64 x.m) ∧
  w.cell? ⟨b, o + 4, none⟩ = some (.int .u64 (wd x.set 0)) ∧ w.cell? ⟨b, o + 5, none⟩ = some (.int .u64 (wd x.set 1)) ∧ w.cell? ⟨b, o + 6, none⟩ = some (.int .u64 (wd x.set 2)) ∧ w.cell? ⟨b, o + 7, none⟩ = some (.int .u64 (wd x.set 3))
theorem NodesAt.node {w : World} {B : Nat} {A : Option Addr} {L : List Nd} (h : NodesAt w B A L) {k : Nat} (hk : k < L.length) : ∃ b off, A = some ⟨b, off, none⟩ ∧ b < B ∧ Node8 w b (off + k * 8) (L.getD k ndEmpty) := by
  rcases h.2 with h2 | ⟨b, off, rfl, hb, hc⟩
  · omega
  · exact ⟨b, off, rfl, hb, hc k hk 0 (by omega), hc k hk 1 (by omega), hc k hk 2 (by omega), hc k hk 3 (by omega), hc k hk 4 (by omega), hc k hk 5 (by omega), hc k hk 6 (by omega), hc k hk 7 (by omega)⟩

theorem run_at {L : List Nd} {k : Nat} {t : Int} (hk : k < L.length) (h : runF (L.take k) 0 = some t) : runF L 0 = runF (L.getD k ndEmpty :: L.drop (k + 1)) t := by
  have e : L = L.take k ++ (L.getD k ndEmpty :: L.drop (k + 1)) := by
    rw [List.getD_eq_getElem?_getD, List.getElem?_eq_getElem hk]
    show L = L.take k ++ (L[k] :: L.drop (k + 1))
    rw [← List.drop_eq_getElem_cons hk, List.take_append_drop]
  conv => lhs; rw [e]
  rw [runF_append, h]; rfl
theorem run_succ {L : List Nd} {k : Nat} {t : Int} (hk : k < L.length) (h : runF (L.take k) 0 = some t) (h0 : ¬ ((L.getD k ndEmpty).kids < 0 ∨ t < (L.getD k ndEmpty).kids)) : runF (L.take (k + 1)) 0 = some (t + 1 - (L.getD k ndEmpty).kids) := by
  have e : L.take (k + 1) = L.take k ++ [L.getD k ndEmpty] := by
    rw [List.getD_eq_getElem?_getD, List.getElem?_eq_getElem hk, List.take_add_one, List.getElem?_eq_getElem hk]; rfl
  rw [e, runF_append, h]
  show runF [L.getD k ndEmpty] t = _
  rw [runF, if_neg h0, runF]
theorem run_bad {L : List Nd} {k : Nat} {t : Int} (hk : k < L.length) (h : runF (L.take k) 0 = some t) (h0 : (L.getD k ndEmpty).kids < 0 ∨ t < (L.getD k ndEmpty).kids) : formedF L = false := by
  unfold formedF
  rw [run_at hk h, runF, if_pos h0]; rfl
theorem run_end {L : List Nd} {t : Int} (h : runF (L.take L.length) 0 = some t) : formedF L = (t == 1) := by
  rw [List.take_length] at h
  unfold formedF
  rw [h, Bool.eq_iff_iff]; simp
end Go.Proofs.Ytfcgmgpcbenfpaa

/- Walks of the packages ast and gimletref06: each node's size. -/
namespace Go.Proofs.Ytfcgmgpcbenfpaa
open Go.RowKit SetP AstP
abbrev ints (l : List Nat) : List Value := l.map fun x : Nat => Value.int .i64 (x : Int)
set_option maxRecDepth 100000 in
theorem info_int : (Try.prog.info? 3).map (fun i => (i.zero, i.size, i.bytes)) = some (some (.int .i64 0), 1, 8) := by kernel_rfl
theorem rowInts {w : World} {base n c : Nat} {A : Option Addr} {l : List Nat} (h : w.ownsRow base 3 1 (.slice A n c) n (ints l)) :
    (A = none ∧ n = 0 ∧ c = 0) ∨ ∃ g, A = some ⟨g, 0, none⟩ ∧ base ≤ g ∧ n ≤ c ∧ ∀ j, j < n → w.cell? ⟨g, j, none⟩ = some (.int .i64 ((l.getD j 0 : Nat) : Int)) := by
  have hl : l.length = n := by have := h.1; simpa using this
  rcases h.2 with ⟨hv, rfl⟩ | ⟨g, cap, cur, hv, hg, hh, hc, hx, hs, ht⟩
  · cases hv; exact .inl ⟨rfl, rfl, rfl⟩
  · cases hv
    refine .inr ⟨g, rfl, hg, hc, fun j hj => ?_⟩
    have hS : Slab w g cur 3 := hh
    rw [hS.cell]
    have e : cur.toList[j]? = (ints l)[j]? := by rw [← ht, List.getElem?_take_of_lt (by omega)]
    rw [← Array.getElem?_toList, e, List.getElem?_map, List.getD_eq_getElem?_getD, List.getElem?_eq_getElem (by omega)]
    rfl
theorem row_len {w : World} {base n c : Nat} {A : Option Addr} {l : List Nat} (h : w.ownsRow base 3 1 (.slice A n c) n (ints l)) : l.length = n := by
  have := h.1; simpa using this
/-- The last ones of what stands, the deepest first. -/
def lastF (st : List Nat) (kn : Nat) : List Nat := (st.take kn).reverse
theorem lastF_getD {st : List Nat} {kn cut j : Nat} (h : st.length = cut + kn) (hj : j < kn) : st.reverse.getD (cut + j) 0 = (lastF st kn).getD j 0 := by
  have e : st.reverse = (st.drop kn).reverse ++ lastF st kn := by unfold lastF; rw [← List.reverse_append, List.take_append_drop]
  have hl : (st.drop kn).reverse.length = cut := by simp; omega
  rw [List.getD_eq_getElem?_getD, List.getD_eq_getElem?_getD, e, List.getElem?_append_right (by omega), hl]
  congr 2; omega
theorem lastF_sum (st : List Nat) (kn : Nat) : (lastF st kn).sum = (st.take kn).sum := by unfold lastF; rw [List.sum_reverse]
theorem sum_take_succ {l : List Nat} {j : Nat} (h : j < l.length) : (l.take (j + 1)).sum = (l.take j).sum + l.getD j 0 := by
  rw [List.take_add_one, List.sum_append, List.getElem?_eq_getElem h, List.getD_eq_getElem?_getD, List.getElem?_eq_getElem h]
  simp
theorem sum_take_le {l : List Nat} (j : Nat) : (l.take j).sum ≤ l.sum := by
  have : (l.take j).sum + (l.drop j).sum = l.sum := by rw [← List.sum_append, List.take_append_drop]
  omega
theorem ints_take (l : List Nat) (n : Nat) : (ints l).take (n * 1) = ints (l.take n) := by rw [Nat.mul_one]; simp
theorem rev_take {st : List Nat} {cut kn : Nat} (h : st.length = cut + kn) : st.reverse.take cut = (st.drop kn).reverse := by
  have e : st.reverse = (st.drop kn).reverse ++ lastF st kn := by unfold lastF; rw [← List.reverse_append, List.take_append_drop]
  rw [e, List.take_append_of_le_length (by simp; omega), List.take_of_length_le (by simp; omega)]
end Go.Proofs.Ytfcgmgpcbenfpaa

/- Walks of the package gimletref06: each node's size; kids. -/
namespace Go.Proofs.Ytfcgmgpcbenfpaa
open Go.RowKit SetP AstP
abbrev intsA (l : List Nat) : Array Value := (ints l).toArray
theorem made_ints (n : Nat) : madeCells #[Value.int .i64 0] n = intsA (List.replicate n 0) := by
  apply Array.toList_inj.1
  rw [toList_madeCells_one]; simp
theorem ints_get (l : List Nat) {j : Nat} (h : j < l.length) : (intsA l)[j]? = some (.int .i64 ((l.getD j 0 : Nat) : Int)) := by
  rw [List.getD_eq_getElem?_getD, List.getElem?_eq_getElem h]
  simp [h]
theorem ints_put (l : List Nat) (j v : Nat) : (intsA l).setIfInBounds j (.int .i64 (v : Int)) = intsA (l.set j v) := by
  apply Array.toList_inj.1
  simp [List.map_set]
theorem fill_put (a : List Nat) (n v : Nat) (h : 0 < n) : (a ++ List.replicate n 0).set a.length v = (a ++ [v]) ++ List.replicate (n - 1) 0 := by
  obtain ⟨m, rfl⟩ : ∃ m, n = m + 1 := ⟨n - 1, by omega⟩
  rw [List.set_append_right _ _ (Nat.le_refl _), Nat.sub_self, List.replicate_succ]
  simp
/-- A row of numbers in a block of its own, whole. -/
theorem row_ints {w : World} {base g n : Nat} {l : List Nat} (h : Slab w g (intsA l) 3) (hb : base ≤ g) (hl : l.length = n) (hn : n ≤ 1000000000000) : w.ownsRow base 3 1 (.slice (some ⟨g, 0, none⟩) n n) n (ints l) := by
  have := row_lit (base := base) (size := 1) (n := n) h hb (by simp [hl]) (by unfold maxLen; omega)
  simpa using this
end Go.Proofs.Ytfcgmgpcbenfpaa
