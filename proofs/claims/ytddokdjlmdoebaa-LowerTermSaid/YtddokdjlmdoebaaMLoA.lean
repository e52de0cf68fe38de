/- Plain facts on terms of trees: which nodes may be nothing, how great a term is, the term. No program is in sight. -/
import Derived.Test.YtddokdjlmdoebaaAstT
import Derived.Test.YtddokdjlmdoebaaMAsi
import Derived.Test.YtddokdjlmdoebaaMAsk
import Derived.Test.YtddokdjlmdoebaaProg
import Derived.WalkKit
import Derived.WalkSpells
import Derived.WalkLawsBesides
import Derived.Handy
import Derived.Lib.Hide
import Derived.Test.YtddokdjlmdoebaaPrtN
import Derived.Deep.OwnRows
import Derived.Laws.OwnMore
set_option linter.unusedVariables false
set_option linter.unusedSimpArgs false
namespace Go.Proofs.Ytddokdjlmdoebaa
open SetP AstP
namespace LowP
/-- May a node be nothing, by its kids. -/
def nullN (_ : Nat) (x : Nd) (K : List Bool) : Bool :=
  if x.kind == 1 then true else if x.kind == 3 || x.kind == 5 then K.all id else if x.kind == 4 then K.all id || x.n == 0 else if x.kind == 6 then K.any id else false
def nullAt (L : List Nd) (k : Nat) : Bool := val nullN L k
def nullL (L : List Nd) (k : Nat) : List Bool := (List.range k).map (nullAt L)
def nullF (L : List Nd) : List Bool := if rightF L then nullL L L.length else []
theorem nullL_succ (L : List Nd) (k : Nat) : nullL L (k + 1) = nullL L k ++ [nullAt L k] := by simp [nullL, List.range_succ]
theorem nullL_length (L : List Nd) (k : Nat) : (nullL L k).length = k := by simp [nullL]
theorem nullL_get (L : List Nd) {j k : Nat} (h : j < k) : (nullL L k)[j]? = some (nullAt L j) := by simp [nullL, h]
theorem nullAt_eq {L : List Nd} {k : Nat} (hF : formedF L = true) (hk : k < L.length) : nullAt L k = nullN k (L.getD k ndEmpty) ((kidsF L (k : Int)).map (nullAt L)) := val_kids nullN hF hk
/-- What is told of more. -/
def capI (x : Int) : Int := if x ≤ 1000000 then x else 1000000
theorem capI_le (x : Int) : capI x ≤ 1000000 := by unfold capI; split <;> omega
theorem capI_nonneg {x : Int} (h : 0 ≤ x) : 0 ≤ capI x := by unfold capI; split <;> omega
abbrev Sz := Int × Int
def addS (s k : Sz) : Sz := (capI (s.1 + k.1), capI (s.2 + k.2))
def sumS (K : List Sz) : Sz := K.foldl addS (0, 0)
/-- How many copies of a Rep's kid there must be. -/
def mustN (n : Int) (nl : Bool) : Int := if nl && n == 0 then 1 else n
def mayN (n m : Int) (nl : Bool) : Int := if m < 0 then 0 else if mustN n nl < m then m - mustN n nl else 0
def copN (n m : Int) (nl : Bool) : Int := if m < 0 then mustN n nl + 1 else mustN n nl + mayN n m nl
def repS (s : Sz) (n m : Int) (nl : Bool) : Sz :=
  if m == 0 then (1, 0) else (copN n m nl * (s.1 + 1) + copN n m nl - 1 + mayN n m nl + if m < 0 then 1 else 0, copN n m nl * s.2)
def rawS (x : Nd) (K : List Sz) (nl : Bool) : Sz :=
  if x.kind == 1 then (1, 0) else if x.kind == 2 then (1, 1) else if x.kind == 3 then ((sumS K).1 + 1, (sumS K).2)
  else if x.kind == 5 || x.kind == 6 then ((sumS K).1 + (K.length - 1 : Int), (sumS K).2) else if x.kind == 4 then repS (sumS K) x.n x.m nl else sumS K
def sizeN (_ : Nat) (x : Nd) (K : List (Sz × Bool)) : Sz × Bool :=
  let r := rawS x (K.map Prod.fst) ((K.map Prod.snd).getLastD false)
  ((capI r.1, capI r.2), nullN 0 x (K.map Prod.snd))
def szAt (L : List Nd) (k : Nat) : Sz := (val sizeN L k).1
def lastNull (L : List Nd) (k : Nat) : Bool := ((kidsF L (k : Int)).map (nullAt L)).getLastD false
theorem szAt_null {L : List Nd} (hF : formedF L = true) (k : Nat) (hk : k < L.length) : (val sizeN L k).2 = nullAt L k := by
  revert hk
  induction k using Nat.strongRecOn with
  | _ k ih =>
    intro hk
    rw [val_kids sizeN hF hk, nullAt_eq hF hk]
    show nullN 0 _ _ = nullN k _ _
    have : ((kidsF L (k : Int)).map (val sizeN L)).map Prod.snd = (kidsF L (k : Int)).map (nullAt L) := by
      rw [List.map_map]
      exact List.map_congr_left fun j hj => ih j (kidsF_lt hF hk hj) (by have := kidsF_lt hF hk hj; omega)
    rw [this]; rfl
theorem szAt_eq {L : List Nd} {k : Nat} (hF : formedF L = true) (hk : k < L.length) :
    szAt L k = (capI (rawS (L.getD k ndEmpty) ((kidsF L (k : Int)).map (szAt L)) (lastNull L k)).1, capI (rawS (L.getD k ndEmpty) ((kidsF L (k : Int)).map (szAt L)) (lastNull L k)).2) := by
  unfold szAt lastNull
  rw [val_kids sizeN hF hk]
  have e : ((kidsF L (k : Int)).map (val sizeN L)).map Prod.snd = (kidsF L (k : Int)).map (nullAt L) := by
    rw [List.map_map]
    exact List.map_congr_left fun j hj => szAt_null hF j (by have := kidsF_lt hF hk hj; omega)
  simp only [sizeN]
  rw [e, List.map_map]; rfl
def szL (L : List Nd) (k : Nat) : List Sz := (List.range k).map (szAt L)
/-- How many nodes and Leafs a tree's term has, as far as it is told. -/
def sizeF (L : List Nd) : Sz := if rightF L then szAt L (L.length - 1) else (0, 0)
theorem foldl_nonneg (K : List Sz) (h : ∀ s ∈ K, 0 ≤ s.1 ∧ 0 ≤ s.2) (a : Sz) (ha : 0 ≤ a.1 ∧ 0 ≤ a.2 ∧ a.1 ≤ 1000000 ∧ a.2 ≤ 1000000) :
    0 ≤ (K.foldl addS a).1 ∧ 0 ≤ (K.foldl addS a).2 ∧ (K.foldl addS a).1 ≤ 1000000 ∧ (K.foldl addS a).2 ≤ 1000000 := by
  induction K generalizing a with
  | nil => exact ha
  | cons s K ih =>
    have h1 := h s (by simp)
    exact ih (fun x hx => h x (by simp [hx])) _ ⟨capI_nonneg (by omega), capI_nonneg (by omega), capI_le _, capI_le _⟩
theorem sumS_bd (K : List Sz) (h : ∀ s ∈ K, 0 ≤ s.1 ∧ 0 ≤ s.2) : 0 ≤ (sumS K).1 ∧ 0 ≤ (sumS K).2 ∧ (sumS K).1 ≤ 1000000 ∧ (sumS K).2 ≤ 1000000 :=
  foldl_nonneg K h _ ⟨Int.le_refl _, Int.le_refl _, by decide, by decide⟩
theorem cop_bd {n m : Int} (h : rightB n m = true) (nl : Bool) : 0 ≤ mustN n nl ∧ mustN n nl ≤ 99 ∧ 0 ≤ mayN n m nl ∧ mayN n m nl ≤ 99 ∧ 0 ≤ copN n m nl ∧ copN n m nl ≤ 198 := by
  obtain ⟨h0, h1, h2⟩ := (right_iff n m).1 h
  unfold copN mayN mustN
  cases nl
  · simp only [Bool.false_and, Bool.false_eq_true, if_false]
    split <;> (try split) <;> omega
  · simp only [Bool.true_and, beq_iff_eq]
    split <;> (split <;> (try split)) <;> omega
end LowP
end Go.Proofs.Ytddokdjlmdoebaa

/- Plain facts on terms of trees: the term. No program is in sight. -/
namespace Go.Proofs.Ytddokdjlmdoebaa
open SetP AstP
namespace LowP
/-- A node of a term. -/
structure Tm where
  kind : Int
  a : Int
  b : Int
  n : Int
  set : Nat → Bool
def zSet : Nat → Bool := fun _ => false
def shI (d : Nat) (x : Int) : Int := if 0 ≤ x then x + d else x
def shT (d : Nat) (x : Tm) : Tm := ⟨x.kind, shI d x.a, shI d x.b, x.n, x.set⟩
/-- A term's nodes behind d others. -/
def shL (d : Nat) (l : List Tm) : List Tm := l.map (shT d)
def tmU (k a n : Int) : Tm := ⟨k, a, -1, n, zSet⟩
def tmB (k a b : Int) : Tm := ⟨k, a, b, 0, zSet⟩
def tmE : Tm := ⟨1, -1, -1, 0, zSet⟩
def tmL (f : Nat → Bool) : Tm := ⟨2, -1, -1, 0, f⟩
def unaT (l : List Tm) (k n : Int) : List Tm := l ++ [tmU k ((l.length : Int) - 1) n]
def twoT (k : Int) (p r : List Tm) : List Tm := p ++ shL p.length r ++ [tmB k ((p.length : Int) - 1) ((p.length : Int) + r.length - 1)]
def joinT (k : Int) : List (List Tm) → List Tm
  | [] => []
  | [p] => p
  | p :: q :: ps => twoT k p (joinT k (q :: ps))
/-- So many copies that may lack, and one more. -/
def lacksT (one : List Tm) : Nat → List Tm
  | 0 => unaT one 6 0
  | n + 1 => unaT (twoT 3 one (lacksT one n)) 6 0
def partsT (one : List Tm) (n m : Int) (nl : Bool) : List (List Tm) :=
  List.replicate (mustN n nl).toNat one ++ if m < 0 then [unaT one 5 0] else if 0 < mayN n m nl then [lacksT one ((mayN n m nl).toNat - 1)] else []
def repT (X : List Tm) (n m : Int) (nl : Bool) : List Tm := if m == 0 then [tmE] else joinT 3 (partsT (unaT X 8 0) n m nl)
def termN (L : List Nd) (i : Nat) (x : Nd) (K : List (List Tm × Bool)) : List Tm × Bool :=
  (if x.kind == 1 then [tmE] else if x.kind == 2 then [tmL x.set] else if x.kind == 3 then unaT ((K.map Prod.fst).headD []) 7 (numAt L i)
  else if x.kind == 4 then repT ((K.map Prod.fst).headD []) x.n x.m ((K.map Prod.snd).headD false)
  else if x.kind == 6 then joinT 4 (K.map Prod.fst) else joinT 3 (K.map Prod.fst), nullN 0 x (K.map Prod.snd))
def termAt (L : List Nd) (k : Nat) : List Tm := (val (termN L) L k).1
theorem termAt_null {L : List Nd} (hF : formedF L = true) (k : Nat) (hk : k < L.length) : (val (termN L) L k).2 = nullAt L k := by
  revert hk
  induction k using Nat.strongRecOn with
  | _ k ih =>
    intro hk
    rw [val_kids (termN L) hF hk, nullAt_eq hF hk]
    show nullN 0 _ _ = nullN k _ _
    have : ((kidsF L (k : Int)).map (val (termN L) L)).map Prod.snd = (kidsF L (k : Int)).map (nullAt L) := by
      rw [List.map_map]
      exact List.map_congr_left fun j hj => ih j (kidsF_lt hF hk hj) (by have := kidsF_lt hF hk hj; omega)
    rw [this]; rfl
theorem termAt_eq {L : List Nd} {k : Nat} (hF : formedF L = true) (hk : k < L.length) :
    termAt L k = (let x := L.getD k ndEmpty; let K := (kidsF L (k : Int)).map (termAt L)
      if x.kind == 1 then [tmE] else if x.kind == 2 then [tmL x.set] else if x.kind == 3 then unaT (K.headD []) 7 (numAt L k)
      else if x.kind == 4 then repT (K.headD []) x.n x.m (((kidsF L (k : Int)).map (nullAt L)).headD false) else if x.kind == 6 then joinT 4 K else joinT 3 K) := by
  unfold termAt
  rw [val_kids (termN L) hF hk]
  have e : ((kidsF L (k : Int)).map (val (termN L) L)).map Prod.snd = (kidsF L (k : Int)).map (nullAt L) := by
    rw [List.map_map]
    exact List.map_congr_left fun j hj => termAt_null hF j (by have := kidsF_lt hF hk hj; omega)
  simp only [termN]
  rw [e, List.map_map]; rfl
theorem shI_shI (a b : Nat) (x : Int) : shI a (shI b x) = shI (a + b) x := by
  unfold shI
  by_cases h : 0 ≤ x
  · rw [if_pos h, if_pos (by omega), if_pos h]; omega
  · rw [if_neg h, if_neg h, if_neg h]
theorem shL_shL (a b : Nat) (l : List Tm) : shL a (shL b l) = shL (a + b) l := by
  unfold shL
  rw [List.map_map]
  congr 1
  funext x
  simp only [Function.comp, shT, shI_shI]
theorem shL_length (d : Nat) (l : List Tm) : (shL d l).length = l.length := by simp [shL]
theorem shL_append (d : Nat) (l m : List Tm) : shL d (l ++ m) = shL d l ++ shL d m := by simp [shL]
theorem shL_zero (l : List Tm) : shL 0 l = l := by
  unfold shL
  have : ∀ x : Tm, shT 0 x = x := fun x => by
    unfold shT shI
    simp
  rw [List.map_congr_left (fun x _ => this x)]; simp
theorem unaT_length (l : List Tm) (k n : Int) : (unaT l k n).length = l.length + 1 := by simp [unaT]
theorem twoT_length (k : Int) (p r : List Tm) : (twoT k p r).length = p.length + r.length + 1 := by simp [twoT, shL_length]; omega
/-- A node of one part, behind others. -/
theorem una_sh (O : List Tm) (l : List Tm) (k n : Int) (hl : 0 < l.length) : O ++ shL O.length (unaT l k n) = (O ++ shL O.length l) ++ [tmU k (((O ++ shL O.length l).length : Int) - 1) n] := by
  unfold unaT
  rw [shL_append, List.append_assoc]
  congr 2
  unfold shL
  simp only [List.map_cons, List.map_nil, shT, tmU, shI, List.length_append, List.length_map]
  rw [if_pos (by omega), if_neg (by omega)]
  congr 2
  simp; omega
theorem two_sh (O : List Tm) (p r : List Tm) (k : Int) (hp : 0 < p.length) (hr : 0 < r.length) :
    O ++ shL O.length (twoT k p r) = ((O ++ shL O.length p) ++ shL (O ++ shL O.length p).length r) ++ [tmB k (((O ++ shL O.length p).length : Int) - 1) ((((O ++ shL O.length p) ++ shL (O ++ shL O.length p).length r).length : Int) - 1)] := by
  unfold twoT
  rw [shL_append, shL_append, shL_shL, List.length_append, shL_length]
  rw [List.append_assoc, List.append_assoc, List.append_assoc]
  congr 3
  unfold shL
  simp only [List.map_cons, List.map_nil, shT, tmB, shI, List.length_append, List.length_map]
  rw [if_pos (by omega), if_pos (by omega)]
  congr 2 <;> (simp; omega)
theorem joinT_pos (k : Int) (P : List (List Tm)) (hP : P ≠ []) (h : ∀ p ∈ P, 0 < p.length) : 0 < (joinT k P).length := by
  cases P with
  | nil => exact absurd rfl hP
  | cons p P =>
    cases P with
    | nil => exact h p (by simp)
    | cons q P => rw [joinT, twoT_length]; omega
theorem lacksT_pos (one : List Tm) (n : Nat) : 0 < (lacksT one n).length := by
  cases n <;> (rw [lacksT, unaT_length]; omega)
theorem partsT_ne {X : List Tm} {n m : Int} {nl : Bool} (h : rightB n m = true) (hm : m ≠ 0) : partsT X n m nl ≠ [] := by
  obtain ⟨h0, h1, h2⟩ := (right_iff n m).1 h
  unfold partsT
  intro he
  rw [List.append_eq_nil_iff] at he
  obtain ⟨e1, e2⟩ := he
  have hz : (mustN n nl).toNat = 0 := by simpa using e1
  have hn : mustN n nl ≤ 0 := by omega
  split at e2
  · cases e2
  · rename_i hneg
    split at e2
    · cases e2
    · rename_i hmay
      unfold mayN at hmay
      rw [if_neg hneg] at hmay
      have : mustN n nl < m := by omega
      rw [if_pos this] at hmay
      omega
theorem partsT_pos {X : List Tm} {n m : Int} {nl : Bool} : ∀ p ∈ partsT (unaT X 8 0) n m nl, 0 < p.length := by
  intro p hp
  unfold partsT at hp
  rw [List.mem_append] at hp
  rcases hp with hp | hp
  · rw [(List.mem_replicate.1 hp).2, unaT_length]; omega
  · split at hp
    · rw [List.mem_singleton.1 hp, unaT_length]; omega
    · split at hp
      · rw [List.mem_singleton.1 hp]; exact lacksT_pos _ _
      · cases hp
end LowP
end Go.Proofs.Ytddokdjlmdoebaa

/- Walks of the package lower: which nodes may be nothing. -/
namespace Go.Proofs.Ytddokdjlmdoebaa
open Go.RowKit SetP AstP LowP ParP
abbrev boolsA (l : List Bool) : Array Value := (l.map Value.bool).toArray
set_option maxRecDepth 100000 in
theorem info_boolL : (Try.prog.info? 4).map (fun i => (i.zero, i.size, i.bytes)) = some (some (.bool false), 1, 1) := by kernel_rfl
theorem made_bools (n : Nat) : madeCells #[Value.bool false] n = boolsA (List.replicate n false) := by
  apply Array.toList_inj.1
  rw [toList_madeCells_one]; simp
set_option maxRecDepth 100000 in
theorem make_bool (n : Nat) (h : n ≤ 1000000000000) (w : World) : (Instr.makeSlice 24 (.int .i64 (n : Int)) (.int .i64 (n : Int))).run Try.prog w = .ok (.slice (some ⟨w.heap.size, 0, none⟩) n n) (w.alloc (.cells (boolsA (List.replicate n false)) 4)) := by
  have := run_make_row' (P := Try.prog) 24 4 (.bool false) 1 Try.underlying24 info_boolL rfl .i64 .i64 n (by omega) (by omega) w
  rwa [made_bools] at this
theorem bools_get (l : List Bool) {j : Nat} (h : j < l.length) : (boolsA l)[j]? = some (.bool (l.getD j false)) := by
  rw [List.getD_eq_getElem?_getD, List.getElem?_eq_getElem h]
  simp [h]
theorem bools_put (l : List Bool) (j : Nat) (v : Bool) : (boolsA l).setIfInBounds j (.bool v) = boolsA (l.set j v) := by
  apply Array.toList_inj.1
  simp [List.map_set]
/-- What stands, behind k nodes. -/
def nullS (L : List Nd) (N k : Nat) : List Bool := nullL L k ++ List.replicate (N - k) false
theorem nullS_len (L : List Nd) {N k : Nat} (h : k ≤ N) : (nullS L N k).length = N := by unfold nullS; rw [List.length_append, nullL_length, List.length_replicate]; omega
theorem nullS_get (L : List Nd) {N k j : Nat} (h : j < k) : (nullS L N k).getD j false = nullAt L j := by
  unfold nullS
  rw [List.getD_eq_getElem?_getD, List.getElem?_append_left (by rw [nullL_length]; exact h), nullL_get L h]; rfl
theorem nullS_at (L : List Nd) {N k : Nat} (h : k < N) : (nullS L N k).getD k false = false := by
  unfold nullS
  rw [List.getD_eq_getElem?_getD, List.getElem?_append_right (by rw [nullL_length]; omega), nullL_length, Nat.sub_self, List.getElem?_replicate, if_pos (by omega)]; rfl
theorem nullS_put (L : List Nd) {N k : Nat} (h : k < N) : (nullS L N k).set k (nullAt L k) = nullS L N (k + 1) := by
  unfold nullS
  obtain ⟨m, hm⟩ : ∃ m, N - k = m + 1 := ⟨N - k - 1, by omega⟩
  rw [List.set_append_right _ _ (by rw [nullL_length]; omega), nullL_length, Nat.sub_self, hm, List.replicate_succ, nullL_succ, show N - (k + 1) = m by omega]
  simp
theorem nullS_skip (L : List Nd) {N k : Nat} (h : k < N) (h0 : nullAt L k = false) : nullS L N k = nullS L N (k + 1) := by
  unfold nullS
  obtain ⟨m, hm⟩ : ∃ m, N - k = m + 1 := ⟨N - k - 1, by omega⟩
  rw [hm, List.replicate_succ, nullL_succ, show N - (k + 1) = m by omega, h0]
  simp
theorem Slab.null {w : World} {g N k : Nat} {L : List Nd} {v : Bool} (o : Slab w g (boolsA (nullS L N k)) 4) (hk : k < N) (hv : v = nullAt L k) : Slab (w.setCell ⟨g, k, none⟩ (.bool v)) g (boolsA (nullS L N (k + 1))) 4 := by
  have := o.set k (.bool v)
  rw [bools_put, hv, nullS_put L hk] at this
  rw [hv]; exact this
theorem row_bools {w : World} {base g n : Nat} {l : List Bool} (h : Slab w g (boolsA l) 4) (hb : base ≤ g) (hl : l.length = n) (hn : n ≤ 1000000000000) : w.ownsRow base 4 1 (.slice (some ⟨g, 0, none⟩) n n) n (l.map Value.bool) := by
  have := row_lit (base := base) (size := 1) (n := n) h hb (by simp [hl]) (by unfold maxLen; omega)
  simpa using this
def anyK (L : List Nd) (K : List Nat) (m : Nat) : Bool := ((K.take m).map (nullAt L)).any id
def allK (L : List Nd) (K : List Nat) (m : Nat) : Bool := ((K.take m).map (nullAt L)).all id
theorem take_snoc {K : List Nat} {m : Nat} (h : m < K.length) : K.take (m + 1) = K.take m ++ [K.getD m 0] := by
  rw [List.take_add_one, List.getElem?_eq_getElem h, List.getD_eq_getElem?_getD, List.getElem?_eq_getElem h]; rfl
theorem anyK_succ (L : List Nd) {K : List Nat} {m : Nat} (h : m < K.length) : anyK L K (m + 1) = (anyK L K m || nullAt L (K.getD m 0)) := by
  unfold anyK; rw [take_snoc h, List.map_append, List.any_append]; simp
theorem allK_succ (L : List Nd) {K : List Nat} {m : Nat} (h : m < K.length) : allK L K (m + 1) = (allK L K m && nullAt L (K.getD m 0)) := by
  unfold allK; rw [take_snoc h, List.map_append, List.all_append]; simp
set_option maxRecDepth 100000 in
set_option maxHeartbeats 2000000 in
theorem lnull_any (A : Option Addr) (c : Nat) (L : List Nd) (w : World) (hL : NodesAt w w.heap.size A L) :
    Calls Try.prog 18 #[.slice A L.length c] w (RetRow 4 1 (nullF L).length ((nullF L).map Value.bool) w) := by
  have hlen := hL.1
  have CR := right_any A c L w hL
  have HL := Lib.hid hL; clear hL
  cases hr : rightF L with
  | false =>
    rw [hr] at CR
    have e : nullF L = [] := by unfold nullF; rw [hr]; rfl
    rw [e]
    go_enter Try.func18, Try.ntmps18
    go_wp2_with fail
    refine CR.mono ?_
    rintro e1 w1 ⟨rfl, hb1⟩
    go_wp2
    go_ret
    exact ⟨none, 0, rfl, World.ownsRow_nil _ _ _ _, hb1⟩
  | true =>
  rw [hr] at CR
  obtain ⟨hF, hok, _⟩ := right_parts hr
  have e : nullF L = nullL L L.length := by unfold nullF; rw [hr]; rfl
  rw [e, nullL_length]
  obtain ⟨N, hN⟩ : ∃ N, L.length = N := ⟨_, rfl⟩
  rw [hN] at hlen CR ⊢
  have HN := Lib.hid hN
  have HF := Lib.hid hF
  have HOK := Lib.hid hok
  clear hN hF hok hr e
  go_enter Try.func18, Try.ntmps18
  go_wp2_with fail
  refine CR.mono ?_
  rintro e1 w1 ⟨rfl, hb1⟩
  have HB1 := Lib.hid hb1; clear hb1 CR
  have hmake := make_bool N hlen
  have o1 : Slab (w1.alloc (.cells (boolsA (List.replicate N false)) 4)) w1.heap.size (boolsA (nullS L N 0)) 4 := Slab.new _ _ _
  have HB2 := Lib.hid (HB1.out.alloc HB1.out.size (.cells (boolsA (List.replicate N false)) 4))
  have hg : w.heap.size ≤ w1.heap.size := HB1.out.size
  go_wp2_with fail
  clear HB1 hmake
  go_loopw [18] (fun i wr => ∃ k : Nat, k ≤ N ∧ i = .int .i64 k ∧ Slab wr w1.heap.size (boolsA (nullS L N k)) 4 ∧ Below w.heap.size w wr) (fun i _ => N - (intOf i).toNat)
  case atStart => exact ⟨0, Nat.zero_le _, rfl, o1, HB2.out⟩
  case round =>
    clear o1 HB2
    obtain ⟨k, hk, rfl, o, hB⟩ := hrel
    have HB := Lib.hid hB; clear hB
    by_cases hlt : k < N
    · have hltL : k < L.length := by rw [HN.out]; exact hlt
      obtain ⟨b, off, rfl, hb, hn8⟩ := (HL.out.below HB.out).node hltL
      unfold Node8 at hn8
      obtain ⟨x, hx⟩ : ∃ x, L.getD k ndEmpty = x := ⟨_, rfl⟩
      rw [hx] at hn8
      have HX := Lib.hid hx; clear hx
      obtain ⟨n0, n1, n2, n3, n4, n5, n6, n7⟩ := hn8
      have hgw : w1.heap.size < wr.heap.size := o.lt
      have o2 := o.alloc (.cells (ndCells x) 43)
      have oX : Slab (wr.alloc (.cells (ndCells x) 43)) wr.heap.size (ndCells x) 43 := Slab.new _ _ _
      have HB1 := Lib.hid (HB.out.alloc HB.out.size (.cells (ndCells x) 43))
      have CK := kids_any (some ⟨b, off, none⟩) c L k (wr.alloc (.cells (ndCells x) 43)) ((HL.out.below HB1.out).more HB1.out.size)
      rw [HN.out] at CK
      have hklt := fun j hj => kidsF_lt (L := L) (k := k) (j := j) HF.out hltL hj
      have HKLT := Lib.hid hklt
      have hkl := kidsF_length HF.out hltL
      have hat := formed_at HF.out hltL
      have hstl := St_len (L := L) (k := k) (by omega)
      have hKb : (kidsF L (k : Int)).length ≤ N := by omega
      have hnull := nullAt_eq HF.out hltL
      have hal := (nodeOk_parts (HOK.out k hltL)).1
      rw [HX.out] at hnull hal
      obtain ⟨K, hK⟩ : ∃ K, kidsF L (k : Int) = K := ⟨_, rfl⟩
      rw [hK] at CK hKb HKLT hnull
      have HNU := Lib.hid hnull
      have HAL := Lib.hid hal
      clear hklt hkl hat hstl hK hnull hal
      go_wp2_with fail
      refine CK.mono ?_
      rintro e3 w3 ⟨A3, c3, rfl, hrow, hb3⟩
      have HK := Lib.hid (row_at0 hrow (by omega))
      have o3 := o2.call hb3
      have oX3 := oX.call hb3
      have HB3 := Lib.hid (below_then HB1.out hb3)
      clear CK hrow hb3 o o2 oX HB HB1 n0 n1 n2 n3 n4 n5 n6 n7
      obtain ⟨M, hM⟩ : ∃ M, K.length = M := ⟨_, rfl⟩
      rw [hM]
      rw [hM] at hKb
      have HM := Lib.hid hM
      clear hM
      go_wp2_with fail
      go_loopw [6, 7, 27] (fun s a j wr2 => ∃ m : Nat, m ≤ M ∧ j = .int .i64 m ∧ s = .bool (anyK L K m) ∧ a = .bool (allK L K m) ∧ wr2 = w3) (fun _ _ j _ => M - (intOf j).toNat)
      case atStart => exact ⟨0, Nat.zero_le _, rfl, rfl, rfl, rfl⟩
      case round =>
        obtain ⟨m, hm, rfl, rfl, rfl, hw3⟩ := hrel
        subst hw3
        by_cases hlt2 : m < M
        · have hmK : m < K.length := by rw [HM.out]; exact hlt2
          obtain ⟨b3, off3, rfl, hb3, hc3⟩ := HK.out.at_ (j := m) hmK
          have hkj := HKLT.out (K.getD m 0) (by rw [List.getD_eq_getElem?_getD, List.getElem?_eq_getElem hmK]; exact List.getElem_mem _)
          have hcell := (o3.cell (K.getD m 0)).trans (bools_get _ (by rw [nullS_len L hk]; omega))
          rw [nullS_get L hkj] at hcell
          have E1 := Lib.hid (anyK_succ L hmK)
          have E2 := Lib.hid (allK_succ L hmK)
          have hjN : K.getD m 0 < N := by omega
          generalize K.getD m 0 = j at *
          generalize nullAt L j = v at *
          obtain ⟨S, hS⟩ : ∃ S, anyK L K m = S := ⟨_, rfl⟩
          obtain ⟨T, hT⟩ : ∃ T, allK L K m = T := ⟨_, rfl⟩
          rw [hS, hT]
          have HS := Lib.hid hS
          have HT := Lib.hid hT
          clear hS hT
          cases S <;> cases T
          all_goals
            go_wp2
            go_roundw
            case rel => exact ⟨m + 1, by omega, by go_num, by rw [E1.out, HS.out]; simp, by rw [E2.out, HT.out]; simp, by trivial⟩
            case measure => simp [intOf]; omega
        · obtain rfl : m = M := by omega
          have hany : anyK L K m = (K.map (nullAt L)).any id := by unfold anyK; rw [List.take_of_length_le (by rw [HM.out]; omega)]
          have hall : allK L K m = (K.map (nullAt L)).all id := by unfold allK; rw [List.take_of_length_le (by rw [HM.out]; omega)]
          rw [hany, hall]
          have hnu := HNU.out
          unfold nullN at hnu
          generalize (K.map (nullAt L)).any id = S at *
          generalize (K.map (nullAt L)).all id = T at *
          obtain ⟨cX, fX⟩ := oX3.facts
          obtain ⟨co, fo⟩ := o3.facts
          have hck := (o3.cell k).trans (bools_get _ (by rw [nullS_len L hk]; omega))
          rw [nullS_at L hlt] at hck
          have hsN : k < (boolsA (nullS L N k)).size := by simp [nullS_len L hk]; exact hlt
          have HB4 := fun v : Value => below_set HB3.out hg (i := k) v
          have HB4 := Lib.hid HB4
          have HN3 := Lib.hid (fun v (hv : v = nullAt L k) => o3.null hlt hv)
          have HSK := Lib.hid (fun h0 : nullAt L k = false => (nullS_skip L hlt h0) ▸ o3)
          have HB3 := Lib.hid HB3.out
          have hO := Lib.hid o3
          clear hany hall HNU HK HKLT co o3 hm hlt2
          obtain ⟨kd, kn, xn, xm, xf⟩ := x
          simp only at hnu
          unfold ndCells at cX
          simp only at cX
          cases nodeIs HAL.out with
          | empty hk1 hn1 h1 =>
            simp only at hk1
            subst hk1
            have E := Lib.hid (show true = nullAt L k by rw [hnu]; rfl)
            clear hnu h1 hn1
            go_wp2
            go_roundw
            case rel => exact ⟨k + 1, by omega, by go_num, HN3.out _ E.out, HB4.out _⟩
            case measure => simp [intOf]; omega
          | set hk1 hn1 h1 =>
            simp only at hk1
            subst hk1
            have E := Lib.hid (show nullAt L k = false by rw [hnu]; rfl)
            clear hnu h1 hn1
            go_wp2
            go_roundw
            case rel => exact ⟨k + 1, by omega, by go_num, HSK.out E.out, HB3.out⟩
            case measure => simp [intOf]; omega
          | group hk1 hn1 h1 =>
            simp only at hk1
            subst hk1
            have E := Lib.hid (show T = nullAt L k by rw [hnu]; rfl)
            clear hnu h1 hn1
            go_wp2
            go_roundw
            case rel => exact ⟨k + 1, by omega, by go_num, HN3.out _ E.out, HB4.out _⟩
            case measure => simp [intOf]; omega
          | rep hk1 hn1 hr1 h1 =>
            simp only at hk1
            subst hk1
            have E := Lib.hid (show (T || xn == 0) = nullAt L k by rw [hnu]; rfl)
            clear hnu h1 hn1
            cases T
            all_goals
              go_wp2
              go_roundw
              case rel => exact ⟨k + 1, by omega, by go_num, HN3.out _ (by rw [← E.out]; rfl), HB4.out _⟩
              case measure => simp [intOf]; omega
          | cat hk1 m2 hn1 h2 h1 =>
            simp only at hk1
            subst hk1
            have E := Lib.hid (show T = nullAt L k by rw [hnu]; rfl)
            clear hnu h1 hn1
            go_wp2
            go_roundw
            case rel => exact ⟨k + 1, by omega, by go_num, HN3.out _ E.out, HB4.out _⟩
            case measure => simp [intOf]; omega
          | alt hk1 m2 hn1 h2 h1 =>
            simp only at hk1
            subst hk1
            have E := Lib.hid (show S = nullAt L k by rw [hnu]; rfl)
            clear hnu h1 hn1
            go_wp2
            go_roundw
            case rel => exact ⟨k + 1, by omega, by go_num, HN3.out _ E.out, HB4.out _⟩
            case measure => simp [intOf]; omega
    · obtain rfl : k = N := by omega
      have hrow := row_bools (base := w.heap.size) (n := k) o hg (nullS_len L (Nat.le_refl _)) hlen
      have e : nullS L k k = nullL L k := by unfold nullS; simp
      rw [e] at hrow
      go_wp2
      go_ret
      exact ⟨_, _, rfl, hrow, HB.out⟩
end Go.Proofs.Ytddokdjlmdoebaa

/- Walks of the package lower: how great a Rep is. -/
namespace Go.Proofs.Ytddokdjlmdoebaa
open Go.RowKit SetP AstP LowP ParP
abbrev szV (s : Sz) : Value := .agg #[.int .i64 s.1, .int .i64 s.2]
theorem capI_lo {x : Int} (h : ¬ 1000000 < x) : capI x = x := by unfold capI; rw [if_pos (by omega)]
theorem capI_hi {x : Int} (h : 1000000 < x) : capI x = 1000000 := by unfold capI; rw [if_neg (by omega)]
set_option maxRecDepth 100000 in
set_option maxHeartbeats 2000000 in
theorem capped_any (a b : Int) (w : World) : Calls Try.prog 50 #[.agg #[.int .i64 a, .int .i64 b]] w fun e w' => e = .returned (szV (capI a, capI b)) ∧ Below w.heap.size w w' := by
  by_cases ha : 1000000 < a
  all_goals by_cases hb : 1000000 < b
  · rw [capI_hi ha, capI_hi hb]
    go_enter Try.func50, Try.ntmps50
    go_wp2
    refine bodyPost_ret (v := szV (1000000, 1000000)) (by simp [results, Try.results50, go_sem, *]) rfl ⟨rfl, ?_⟩
    (repeat' (first | (with_reducible exact Below.refl _ _) | (with_reducible assumption) | (with_reducible refine Below.alloc ?_ ?_ _) | (with_reducible refine Below.drew ?_) | (with_reducible refine below_set ?_ ?_ _) | (with_reducible refine below_call ?_ ?_ (by assumption)) | (with_reducible exact Below.size (by assumption)) | omega | go_size))
  · rw [capI_hi ha, capI_lo hb]
    go_enter Try.func50, Try.ntmps50
    go_wp2
    refine bodyPost_ret (v := szV (1000000, b)) (by simp [results, Try.results50, go_sem, *]) rfl ⟨rfl, ?_⟩
    (repeat' (first | (with_reducible exact Below.refl _ _) | (with_reducible assumption) | (with_reducible refine Below.alloc ?_ ?_ _) | (with_reducible refine Below.drew ?_) | (with_reducible refine below_set ?_ ?_ _) | (with_reducible refine below_call ?_ ?_ (by assumption)) | (with_reducible exact Below.size (by assumption)) | omega | go_size))
  · rw [capI_lo ha, capI_hi hb]
    go_enter Try.func50, Try.ntmps50
    go_wp2
    refine bodyPost_ret (v := szV (a, 1000000)) (by simp [results, Try.results50, go_sem, *]) rfl ⟨rfl, ?_⟩
    (repeat' (first | (with_reducible exact Below.refl _ _) | (with_reducible assumption) | (with_reducible refine Below.alloc ?_ ?_ _) | (with_reducible refine Below.drew ?_) | (with_reducible refine below_set ?_ ?_ _) | (with_reducible refine below_call ?_ ?_ (by assumption)) | (with_reducible exact Below.size (by assumption)) | omega | go_size))
  · rw [capI_lo ha, capI_lo hb]
    go_enter Try.func50, Try.ntmps50
    go_wp2
    refine bodyPost_ret (v := szV (a, b)) (by simp [results, Try.results50, go_sem, *]) rfl ⟨rfl, ?_⟩
    (repeat' (first | (with_reducible exact Below.refl _ _) | (with_reducible assumption) | (with_reducible refine Below.alloc ?_ ?_ _) | (with_reducible refine Below.drew ?_) | (with_reducible refine below_set ?_ ?_ _) | (with_reducible refine below_call ?_ ?_ (by assumption)) | (with_reducible exact Below.size (by assumption)) | omega | go_size))
abbrev plV (must may : Int) (e : Bool) : Value := .agg #[.int .i64 must, .int .i64 may, .bool e]
set_option maxRecDepth 100000 in
set_option maxHeartbeats 2000000 in
theorem copies_any (must may : Int) (e : Bool) (h : 0 ≤ must ∧ must ≤ 1000 ∧ 0 ≤ may ∧ may ≤ 1000) (w : World) : Calls Try.prog 135 #[plV must may e] w fun e' w' => e' = .returned (.int .i64 (if e then must + 1 else must + may)) ∧ Below w.heap.size w w' := by
  obtain ⟨h1, h2, h3, h4⟩ := h
  cases e
  all_goals
    go_enter Try.func135, Try.ntmps135
    go_wp2
    go_ret
    refine ⟨rfl, ?_⟩
    (repeat' (first | (with_reducible exact Below.refl _ _) | (with_reducible assumption) | (with_reducible refine Below.alloc ?_ ?_ _) | (with_reducible refine Below.drew ?_) | (with_reducible refine below_set ?_ ?_ _) | (with_reducible refine below_call ?_ ?_ (by assumption)) | (with_reducible exact Below.size (by assumption)) | omega | go_size))
set_option maxRecDepth 100000 in
set_option maxHeartbeats 2000000 in
theorem planOf_any (x : Nd) (nl : Bool) (h : rightB x.n x.m = true) (w : World) : Calls Try.prog 134 #[ndV x, .bool nl] w fun e w' => e = .returned (plV (mustN x.n nl) (mayN x.n x.m nl) (decide (x.m < 0))) ∧ Below w.heap.size w w' := by
  obtain ⟨h0, h1, h2⟩ := (right_iff x.n x.m).1 h
  obtain ⟨kd, kn, n, m, f⟩ := x
  simp only at h0 h1 h2 ⊢
  cases nl
  · have e1 : mustN n false = n := by unfold mustN; simp
    by_cases hm : m < 0
    · have e2 : mayN n m false = 0 := by unfold mayN; rw [if_pos hm]
      have d : decide (m < 0) = true := decide_eq_true hm
      rw [e1, e2, d]
      go_enter Try.func134, Try.ntmps134
      go_wp2
      refine bodyPost_ret (v := plV n 0 true) (by simp [results, Try.results134, go_sem, *]) rfl ⟨rfl, ?_⟩
      (repeat' (first | (with_reducible exact Below.refl _ _) | (with_reducible assumption) | (with_reducible refine Below.alloc ?_ ?_ _) | (with_reducible refine Below.drew ?_) | (with_reducible refine below_set ?_ ?_ _) | (with_reducible refine below_call ?_ ?_ (by assumption)) | (with_reducible exact Below.size (by assumption)) | omega | go_size))
    · have e2 : mayN n m false = m - n := by unfold mayN; rw [if_neg hm, e1]; split <;> omega
      have d : decide (m < 0) = false := decide_eq_false hm
      rw [e1, e2, d]
      have d2 : ¬ m - n < 0 := by omega
      by_cases hz : 0 < m - n
      · go_enter Try.func134, Try.ntmps134
        go_wp2
        refine bodyPost_ret (v := plV n (m - n) false) (by simp [results, Try.results134, go_sem, *]) rfl ⟨rfl, ?_⟩
        (repeat' (first | (with_reducible exact Below.refl _ _) | (with_reducible assumption) | (with_reducible refine Below.alloc ?_ ?_ _) | (with_reducible refine Below.drew ?_) | (with_reducible refine below_set ?_ ?_ _) | (with_reducible refine below_call ?_ ?_ (by assumption)) | (with_reducible exact Below.size (by assumption)) | omega | go_size))
      · have hz' : m = n := by omega
        subst hz'
        rw [Int.sub_self]
        go_enter Try.func134, Try.ntmps134
        go_wp2
        refine bodyPost_ret (v := plV m 0 false) (by simp [results, Try.results134, go_sem, *]) rfl ⟨rfl, ?_⟩
        (repeat' (first | (with_reducible exact Below.refl _ _) | (with_reducible assumption) | (with_reducible refine Below.alloc ?_ ?_ _) | (with_reducible refine Below.drew ?_) | (with_reducible refine below_set ?_ ?_ _) | (with_reducible refine below_call ?_ ?_ (by assumption)) | (with_reducible exact Below.size (by assumption)) | omega | go_size))
  · by_cases hn0 : n = 0
    · subst hn0
      have e1 : mustN 0 true = 1 := rfl
      by_cases hm : m < 0
      · have e2 : mayN 0 m true = 0 := by unfold mayN; rw [if_pos hm]
        have d : decide (m < 0) = true := decide_eq_true hm
        rw [e1, e2, d]
        go_enter Try.func134, Try.ntmps134
        go_wp2
        refine bodyPost_ret (v := plV 1 0 true) (by simp [results, Try.results134, go_sem, *]) rfl ⟨rfl, ?_⟩
        (repeat' (first | (with_reducible exact Below.refl _ _) | (with_reducible assumption) | (with_reducible refine Below.alloc ?_ ?_ _) | (with_reducible refine Below.drew ?_) | (with_reducible refine below_set ?_ ?_ _) | (with_reducible refine below_call ?_ ?_ (by assumption)) | (with_reducible exact Below.size (by assumption)) | omega | go_size))
      · have d : decide (m < 0) = false := decide_eq_false hm
        by_cases hz : 0 < m - 1
        · have e2 : mayN 0 m true = m - 1 := by unfold mayN; rw [if_neg hm, e1, if_pos (by omega)]
          have d2 : ¬ m - 1 < 0 := by omega
          rw [e1, e2, d]
          go_enter Try.func134, Try.ntmps134
          go_wp2
          refine bodyPost_ret (v := plV 1 (m - 1) false) (by simp [results, Try.results134, go_sem, *]) rfl ⟨rfl, ?_⟩
          (repeat' (first | (with_reducible exact Below.refl _ _) | (with_reducible assumption) | (with_reducible refine Below.alloc ?_ ?_ _) | (with_reducible refine Below.drew ?_) | (with_reducible refine below_set ?_ ?_ _) | (with_reducible refine below_call ?_ ?_ (by assumption)) | (with_reducible exact Below.size (by assumption)) | omega | go_size))
        · have e2 : mayN 0 m true = 0 := by unfold mayN; rw [if_neg hm, e1, if_neg (by omega)]
          rw [e1, e2, d]
          rcases (show m = 0 ∨ m = 1 by omega) with rfl | rfl
          · go_enter Try.func134, Try.ntmps134
            go_wp2
            refine bodyPost_ret (v := plV 1 0 false) (by simp [results, Try.results134, go_sem, *]) rfl ⟨rfl, ?_⟩
            (repeat' (first | (with_reducible exact Below.refl _ _) | (with_reducible assumption) | (with_reducible refine Below.alloc ?_ ?_ _) | (with_reducible refine Below.drew ?_) | (with_reducible refine below_set ?_ ?_ _) | (with_reducible refine below_call ?_ ?_ (by assumption)) | (with_reducible exact Below.size (by assumption)) | omega | go_size))
          · go_enter Try.func134, Try.ntmps134
            go_wp2
            refine bodyPost_ret (v := plV 1 0 false) (by simp [results, Try.results134, go_sem, *]) rfl ⟨rfl, ?_⟩
            (repeat' (first | (with_reducible exact Below.refl _ _) | (with_reducible assumption) | (with_reducible refine Below.alloc ?_ ?_ _) | (with_reducible refine Below.drew ?_) | (with_reducible refine below_set ?_ ?_ _) | (with_reducible refine below_call ?_ ?_ (by assumption)) | (with_reducible exact Below.size (by assumption)) | omega | go_size))
    · have hn1 : ¬ n < 1 := by omega
      have hn2 : ¬ 1 < n ∨ 1 < n := by omega
      have e1 : mustN n true = n := by unfold mustN; simp; omega
      have key : (if n < 1 then (1 : Int) else n) = n := if_neg hn1
      by_cases hm : m < 0
      · have e2 : mayN n m true = 0 := by unfold mayN; rw [if_pos hm]
        have d : decide (m < 0) = true := decide_eq_true hm
        rw [e1, e2, d]
        rcases (show n = 1 ∨ 1 < n by omega) with rfl | hn3
        · go_enter Try.func134, Try.ntmps134
          go_wp2
          refine bodyPost_ret (v := plV 1 0 true) (by simp [results, Try.results134, go_sem, *]) rfl ⟨rfl, ?_⟩
          (repeat' (first | (with_reducible exact Below.refl _ _) | (with_reducible assumption) | (with_reducible refine Below.alloc ?_ ?_ _) | (with_reducible refine Below.drew ?_) | (with_reducible refine below_set ?_ ?_ _) | (with_reducible refine below_call ?_ ?_ (by assumption)) | (with_reducible exact Below.size (by assumption)) | omega | go_size))
        · go_enter Try.func134, Try.ntmps134
          go_wp2
          refine bodyPost_ret (v := plV n 0 true) (by simp [results, Try.results134, go_sem, *]) rfl ⟨rfl, ?_⟩
          (repeat' (first | (with_reducible exact Below.refl _ _) | (with_reducible assumption) | (with_reducible refine Below.alloc ?_ ?_ _) | (with_reducible refine Below.drew ?_) | (with_reducible refine below_set ?_ ?_ _) | (with_reducible refine below_call ?_ ?_ (by assumption)) | (with_reducible exact Below.size (by assumption)) | omega | go_size))
      · have e2 : mayN n m true = m - n := by unfold mayN; rw [if_neg hm, e1]; split <;> omega
        have d : decide (m < 0) = false := decide_eq_false hm
        rw [e1, e2, d]
        have d2 : ¬ m - n < 0 := by omega
        by_cases hz : 0 < m - n
        · rcases (show n = 1 ∨ 1 < n by omega) with rfl | hn3
          · go_enter Try.func134, Try.ntmps134
            go_wp2
            refine bodyPost_ret (v := plV 1 (m - 1) false) (by simp [results, Try.results134, go_sem, *]) rfl ⟨rfl, ?_⟩
            (repeat' (first | (with_reducible exact Below.refl _ _) | (with_reducible assumption) | (with_reducible refine Below.alloc ?_ ?_ _) | (with_reducible refine Below.drew ?_) | (with_reducible refine below_set ?_ ?_ _) | (with_reducible refine below_call ?_ ?_ (by assumption)) | (with_reducible exact Below.size (by assumption)) | omega | go_size))
          · go_enter Try.func134, Try.ntmps134
            go_wp2
            refine bodyPost_ret (v := plV n (m - n) false) (by simp [results, Try.results134, go_sem, *]) rfl ⟨rfl, ?_⟩
            (repeat' (first | (with_reducible exact Below.refl _ _) | (with_reducible assumption) | (with_reducible refine Below.alloc ?_ ?_ _) | (with_reducible refine Below.drew ?_) | (with_reducible refine below_set ?_ ?_ _) | (with_reducible refine below_call ?_ ?_ (by assumption)) | (with_reducible exact Below.size (by assumption)) | omega | go_size))
        · have hz' : m = n := by omega
          subst hz'
          rw [Int.sub_self]
          rcases (show m = 1 ∨ 1 < m by omega) with rfl | hn3
          · go_enter Try.func134, Try.ntmps134
            go_wp2
            refine bodyPost_ret (v := plV 1 0 false) (by simp [results, Try.results134, go_sem, *]) rfl ⟨rfl, ?_⟩
            (repeat' (first | (with_reducible exact Below.refl _ _) | (with_reducible assumption) | (with_reducible refine Below.alloc ?_ ?_ _) | (with_reducible refine Below.drew ?_) | (with_reducible refine below_set ?_ ?_ _) | (with_reducible refine below_call ?_ ?_ (by assumption)) | (with_reducible exact Below.size (by assumption)) | omega | go_size))
          · go_enter Try.func134, Try.ntmps134
            go_wp2
            refine bodyPost_ret (v := plV m 0 false) (by simp [results, Try.results134, go_sem, *]) rfl ⟨rfl, ?_⟩
            (repeat' (first | (with_reducible exact Below.refl _ _) | (with_reducible assumption) | (with_reducible refine Below.alloc ?_ ?_ _) | (with_reducible refine Below.drew ?_) | (with_reducible refine below_set ?_ ?_ _) | (with_reducible refine below_call ?_ ?_ (by assumption)) | (with_reducible exact Below.size (by assumption)) | omega | go_size))
end Go.Proofs.Ytddokdjlmdoebaa
