/- Plain facts on texts of trees: the words of a tree, its text, and that the text is read as the tree. No program is in sight. -/
import Derived.Test.YtfcgmgpcbenfpaaGreatParQ
import Derived.Test.YtfcgmgpcbenfpaaGreatLaw5p
import Derived.Test.YtfcgmgpcbenfpaaGreatAstO
set_option linter.unusedVariables false
set_option linter.unusedSimpArgs false
namespace Go.Proofs.YtfcgmgpcbenfpaaGreat
open Go.RowKit SetP BrkP LexP AstP
namespace ParP
/-- The texts, or words, of rows, with bars between. -/
def barsT : List (List UInt8) → List UInt8
  | [] => []
  | [p] => p
  | p :: q :: ps => p ++ 124 :: barsT (q :: ps)
def textN (_ : Nat) (x : Nd) (K : List (List UInt8)) : List UInt8 :=
  if x.kind == 2 then textW x.set else if x.kind == 3 then 40 :: (K.flatten ++ [41]) else if x.kind == 4 then K.flatten ++ textF x.n x.m else if x.kind == 6 then barsT K else K.flatten
/-- The text of node i. -/
def textAt (L : List Nd) (i : Nat) : List UInt8 := val textN L i
def w1 (f : Nat → Bool) : Wd := ⟨1, 0, 0, f, 0, 0⟩
def wOpen : Wd := ⟨2, 0, 0, noSet, 0, 0⟩
def wShut : Wd := ⟨3, 0, 0, noSet, 0, 0⟩
def wBar : Wd := ⟨4, 0, 0, noSet, 0, 0⟩
def wRep (n m : Int) : Wd := ⟨5, 0, 0, noSet, n, m⟩
def barsW : List (List Wd) → List Wd
  | [] => []
  | [p] => p
  | p :: q :: ps => p ++ wBar :: barsW (q :: ps)
def wordsN (_ : Nat) (x : Nd) (K : List (List Wd)) : List Wd :=
  if x.kind == 2 then [w1 x.set] else if x.kind == 3 then wOpen :: (K.flatten ++ [wShut]) else if x.kind == 4 then K.flatten ++ [wRep x.n x.m] else if x.kind == 6 then barsW K else K.flatten
def wordsAt (L : List Nd) (i : Nat) : List Wd := val wordsN L i
def nodesN (_ : Nat) (x : Nd) (K : List (List Nd)) : List Nd := K.flatten ++ [x]
/-- The nodes of node i. -/
def nodesAt (L : List Nd) (i : Nat) : List Nd := val nodesN L i
theorem catT_append (L M : List Wd) : catT (L ++ M) = catT L ++ catT M := by unfold catT; rw [List.flatMap_append]
theorem catT_flatten (K : List (List Wd)) : catT K.flatten = (K.map catT).flatten := by
  induction K with
  | nil => rfl
  | cons p K ih => rw [List.flatten_cons, catT_append, ih, List.map_cons, List.flatten_cons]
theorem catT_bars (K : List (List Wd)) : catT (barsW K) = barsT (K.map catT) := by
  induction K with
  | nil => rfl
  | cons p K ih =>
    cases K with
    | nil => rfl
    | cons q K =>
      rw [barsW, catT_append, catT_cons, ih]
      rfl
theorem catT_words (i : Nat) (x : Nd) (K : List (List Wd)) : catT (wordsN i x K) = textN i x (K.map catT) := by
  unfold wordsN textN
  split
  · show catT [w1 x.set] = _
    unfold catT; simp [printW, w1]
  split
  · rw [catT_cons, catT_append, catT_flatten]; rfl
  split
  · rw [catT_append, catT_flatten]
    congr 1
    unfold catT; simp [printW, wRep]
  split
  · exact catT_bars K
  · exact catT_flatten K
theorem val_map {α β : Type} [Inhabited α] [Inhabited β] (f : Nat → Nd → List α → α) (f' : Nat → Nd → List β → β) (h : α → β) (hh : ∀ i x K, h (f i x K) = f' i x (K.map h))
    {L : List Nd} (hF : formedF L = true) (k : Nat) (hk : k < L.length) : h (val f L k) = val f' L k := by
  revert hk
  induction k using Nat.strongRecOn with
  | _ k ih =>
    intro hk
    rw [val_kids f hF hk, val_kids f' hF hk, hh, List.map_map]
    congr 1
    exact List.map_congr_left fun j hj => ih j (kidsF_lt hF hk hj) (Nat.lt_trans (kidsF_lt hF hk hj) hk)
theorem words_text {L : List Nd} (hF : formedF L = true) {k : Nat} (hk : k < L.length) : catT (wordsAt L k) = textAt L k := val_map wordsN textN catT catT_words hF k hk
theorem nodes_take {L : List Nd} {k : Nat} (hk : k ≤ L.length) : (gS nodesN L k).reverse.flatten = L.take k := by
  induction k with
  | zero => simp [gS, gF]
  | succ k ih =>
    rw [gS_succ nodesN (by omega), take_more (by omega), ← ih (by omega), List.reverse_cons, List.flatten_append]
    have e : (gS nodesN L k).reverse = ((gS nodesN L k).drop (L.getD k ndEmpty).kids.toNat).reverse ++ ((gS nodesN L k).take (L.getD k ndEmpty).kids.toNat).reverse := by
      rw [← List.reverse_append, List.take_append_drop]
    rw [e, List.flatten_append, List.append_assoc]
    congr 1
    simp [nodesN]
theorem nodes_root {L : List Nd} (hF : formedF L = true) : nodesAt L (L.length - 1) = L := by
  have h := nodes_take (L := L) (k := L.length) (Nat.le_refl _)
  have e : gS nodesN L L.length = gF nodesN 0 L [] := by unfold gS; rw [List.take_length]
  rw [e, gF_root nodesN hF, List.take_length] at h
  unfold nodesAt
  simpa using h
theorem nodes_head {L : List Nd} {k : Nat} (hk : k < L.length) : ∃ R, R ++ nodesAt L k = L.take (k + 1) := by
  have h := nodes_take (L := L) (k := k + 1) (by omega)
  unfold nodesAt val
  rw [gS_succ nodesN hk] at h ⊢
  rw [List.reverse_cons, List.flatten_append] at h
  exact ⟨_, by simpa using h⟩
theorem nodes_last {L : List Nd} (hF : formedF L = true) {k : Nat} (hk : k < L.length) : nodesAt L k = ((kidsF L (k : Int)).map (nodesAt L)).flatten ++ [L.getD k ndEmpty] := val_kids nodesN hF hk
theorem nodes_cnt {L : List Nd} {k : Nat} (hk : k < L.length) : cntK 3 (nodesAt L k) ≤ cntK 3 L := by
  obtain ⟨R, hR⟩ := nodes_head hk
  have h1 := congrArg (cntK 3) hR
  rw [cntK_append] at h1
  have h2 : cntK 3 (L.take (k + 1)) + cntK 3 (L.drop (k + 1)) = cntK 3 L := by rw [← cntK_append, List.take_append_drop]
  omega
theorem nodes_len {L : List Nd} {k : Nat} (hk : k < L.length) : (nodesAt L k).length ≤ k + 1 := by
  obtain ⟨R, hR⟩ := nodes_head hk
  have h1 := congrArg List.length hR
  rw [List.length_append, List.length_take] at h1
  omega

/-- May a word be taken? -/
structure StepOk (x : PS) (w : Wd) : Prop where
  rep : w.kind = 5 → topP x ≠ 0
  shut : w.kind = 3 → x.lv.length ≠ 1
  opn : w.kind = 2 → x.groups ≠ 9
inductive Goes : PS → List Wd → PS → Prop where
  | nil (x : PS) : Goes x [] x
  | cons {x y : PS} {w : Wd} {L : List Wd} (h : StepOk x w) (hr : Goes (takeF x w) L y) : Goes x (w :: L) y
theorem Goes.trans {x y z : PS} {L M : List Wd} (h : Goes x L y) (k : Goes y M z) : Goes x (L ++ M) z := by
  induction h with
  | nil x => exact k
  | cons h hr ih => exact .cons h (ih k)
theorem Goes.one {x : PS} {w : Wd} (h : StepOk x w) : Goes x [w] (takeF x w) := .cons h (.nil _)
/-- What is told of a node. -/
def keyN (x : Nd) : Int × Int × Int × Int × List Bool := (x.kind, x.kids, x.n, x.m, (List.range 256).map x.set)
def keys (l : List Nd) := l.map keyN
theorem keys_append (l m : List Nd) : keys (l ++ m) = keys l ++ keys m := by unfold keys; rw [List.map_append]
theorem key_set {f g : Nat → Bool} (h : same f g = true) : (List.range 256).map f = (List.range 256).map g :=
  List.map_congr_left fun x hx => same_iff.1 h x (List.mem_range.1 hx)
theorem set_key {f g : Nat → Bool} (h : (List.range 256).map f = (List.range 256).map g) : same f g = true :=
  same_iff.2 fun x hx => by
    have := congrArg (fun l => l[x]?) h
    simpa [hx] using this
def PieceP (S : List Nd) (ws : List Wd) : Prop :=
  ∀ (o : List Nd) (p r : Nat) (v : List (Nat × Nat)) (g : Nat), g + cntK 3 S ≤ 9 → ∃ o', Goes ⟨o, (p, r) :: v, g⟩ ws ⟨o', (p + 1, r) :: v, g + cntK 3 S⟩ ∧ keys o' = keys o ++ keys S
def RowP (S : List Nd) (ws : List Wd) : Prop :=
  ∀ (o : List Nd) (r : Nat) (v : List (Nat × Nat)) (g : Nat), g + cntK 3 S ≤ 9 → ∃ o' p', Goes ⟨o, (0, r) :: v, g⟩ ws ⟨o', (p', r) :: v, g + cntK 3 S⟩ ∧ keys (o' ++ rowN p') = keys o ++ keys S
def RowsP (S : List Nd) (ws : List Wd) : Prop :=
  ∀ (o : List Nd) (v : List (Nat × Nat)) (g : Nat), g + cntK 3 S ≤ 9 → ∃ o' p' r', Goes ⟨o, (0, 0) :: v, g⟩ ws ⟨o', (p', r') :: v, g + cntK 3 S⟩ ∧ keys (o' ++ rowN p' ++ rowsN (r' + 1)) = keys o ++ keys S
theorem PieceP.row {S : List Nd} {ws : List Wd} (h : PieceP S ws) : RowP S ws := fun o r v g hg => by
  obtain ⟨o', h1, h2⟩ := h o 0 r v g hg
  exact ⟨o', 0 + 1, h1, by rw [← h2]; simp [rowN]⟩
theorem RowP.rows {S : List Nd} {ws : List Wd} (h : RowP S ws) : RowsP S ws := fun o v g hg => by
  obtain ⟨o', p', h1, h2⟩ := h o 0 v g hg
  exact ⟨o', p', 0, h1, by rw [← h2]; simp [rowsN]⟩
structure Says (κ : Int) (S : List Nd) (ws : List Wd) : Prop where
  piece : pieceB κ = true → PieceP S ws
  row : κ ≠ 6 → RowP S ws
  rows : RowsP S ws
theorem Says.ofPiece {κ : Int} {S : List Nd} {ws : List Wd} (h : PieceP S ws) : Says κ S ws := ⟨fun _ => h, fun _ => h.row, h.row.rows⟩
theorem Says.ofRow {κ : Int} {S : List Nd} {ws : List Wd} (hp : pieceB κ = false) (h : RowP S ws) : Says κ S ws := ⟨fun e => absurd (hp.symm.trans e) (by decide), fun _ => h, h.rows⟩
theorem pieces_go (S : Nat → List Nd) (W : Nat → List Wd) (ks : List Nat) (h : ∀ j ∈ ks, PieceP (S j) (W j)) (o : List Nd) (p r : Nat) (v : List (Nat × Nat)) (g : Nat) (hg : g + cntK 3 (ks.map S).flatten ≤ 9) :
    ∃ o', Goes ⟨o, (p, r) :: v, g⟩ (ks.map W).flatten ⟨o', (p + ks.length, r) :: v, g + cntK 3 (ks.map S).flatten⟩ ∧ keys o' = keys o ++ keys (ks.map S).flatten := by
  induction ks generalizing o p g with
  | nil => exact ⟨o, .nil _, by simp [keys]⟩
  | cons j ks ih =>
    simp only [List.map_cons, List.flatten_cons, cntK_append] at hg ⊢
    obtain ⟨o1, h1, h2⟩ := h j (by simp) o p r v g (by omega)
    obtain ⟨o2, h3, h4⟩ := ih (fun k hk => h k (by simp [hk])) o1 (p + 1) (g + cntK 3 (S j)) (by omega)
    refine ⟨o2, ?_, by rw [h4, h2, keys_append, List.append_assoc]⟩
    have := h1.trans h3
    rw [List.length_cons, show p + (ks.length + 1) = p + 1 + ks.length by omega, ← Nat.add_assoc]
    exact this
theorem no_step {x : PS} {w : Wd} (h5 : w.kind ≠ 5) (h3 : w.kind ≠ 3) (h2 : w.kind ≠ 2) : StepOk x w := ⟨fun h => absurd h h5, fun h => absurd h h3, fun h => absurd h h2⟩
theorem rows_go (S : Nat → List Nd) (W : Nat → List Wd) (ks : List Nat) (hne : ks ≠ []) (h : ∀ j ∈ ks, RowP (S j) (W j)) (o : List Nd) (r : Nat) (v : List (Nat × Nat)) (g : Nat) (hg : g + cntK 3 (ks.map S).flatten ≤ 9) :
    ∃ o' p', Goes ⟨o, (0, r) :: v, g⟩ (barsW (ks.map W)) ⟨o', (p', r + (ks.length - 1)) :: v, g + cntK 3 (ks.map S).flatten⟩ ∧ keys (o' ++ rowN p') = keys o ++ keys (ks.map S).flatten := by
  induction ks generalizing o r g with
  | nil => exact absurd rfl hne
  | cons j ks ih =>
    cases ks with
    | nil =>
      simp only [List.map_cons, List.map_nil, List.flatten_cons, List.flatten_nil, List.append_nil] at hg ⊢
      obtain ⟨o1, p1, h1, h2⟩ := h j (by simp) o r v g hg
      exact ⟨o1, p1, h1, h2⟩
    | cons k ks =>
      have eS : ((j :: k :: ks).map S).flatten = S j ++ ((k :: ks).map S).flatten := rfl
      have eW : (j :: k :: ks).map W = W j :: (k :: ks).map W := rfl
      rw [eS] at hg ⊢
      rw [eW]
      rw [cntK_append] at hg ⊢
      obtain ⟨o1, p1, h1, h2⟩ := h j (by simp) o r v g (by omega)
      obtain ⟨o2, p2, h3, h4⟩ := ih (by simp) (fun k hk => h k (by simp [hk])) (o1 ++ rowN p1) (r + 1) (g + cntK 3 (S j)) (by omega)
      refine ⟨o2, p2, ?_, by rw [h4, h2, keys_append, List.append_assoc]⟩
      rw [List.map_cons, barsW, ← Nat.add_assoc]
      have hb : Goes ⟨o1, (p1, r) :: v, g + cntK 3 (S j)⟩ (wBar :: barsW ((k :: ks).map W)) _ := .cons (no_step (by decide) (by decide) (by decide)) h3
      have := h1.trans hb
      rw [List.length_cons, List.length_cons, show r + (ks.length + 1 + 1 - 1) = r + 1 + (ks.length + 1 - 1) by omega]
      exact this
theorem emptyB_key {x : Nd} (h : emptyB x = true) : (List.range 256).map x.set = (List.range 256).map noSet := key_set h
theorem bare_parts {x : Nd} (h : bareB x = true) : emptyB x = true ∧ x.n = 0 ∧ x.m = 0 := by
  unfold bareB at h; simp only [Bool.and_eq_true, beq_iff_eq] at h; exact ⟨h.1, h.2.1, h.2.2⟩
/-- What a node is, by its kind. -/
inductive NodeIs (x : Nd) : Prop where
  | empty (hk : x.kind = 1) (hn : x.kids = 0) (h : keyN x = keyN ndE)
  | set (hk : x.kind = 2) (hn : x.kids = 0) (h : keyN x = keyN (ndS x.set))
  | group (hk : x.kind = 3) (hn : x.kids = 1) (h : keyN x = keyN ndG)
  | rep (hk : x.kind = 4) (hn : x.kids = 1) (hr : rightB x.n x.m = true) (h : keyN x = keyN (ndR x.n x.m))
  | cat (hk : x.kind = 5) (n : Nat) (hn : x.kids = n) (h2 : 2 ≤ n) (h : keyN x = keyN (ndC n))
  | alt (hk : x.kind = 6) (n : Nat) (hn : x.kids = n) (h2 : 2 ≤ n) (h : keyN x = keyN (ndA n))
theorem nodeIs {x : Nd} (h : aloneB x = true) : NodeIs x := by
  unfold aloneB at h
  split at h
  · rename_i hk
    simp only [Bool.and_eq_true, beq_iff_eq] at h hk
    obtain ⟨b1, b2, b3⟩ := bare_parts h.2
    exact .empty hk h.1 (by unfold keyN; rw [hk, h.1, b2, b3, emptyB_key b1]; rfl)
  split at h
  · rename_i hk
    simp only [Bool.and_eq_true, beq_iff_eq] at h hk
    exact .set hk h.1 (by unfold keyN; rw [hk, h.1, h.2.1, h.2.2]; rfl)
  split at h
  · rename_i hk
    simp only [Bool.and_eq_true, beq_iff_eq] at h hk
    obtain ⟨b1, b2, b3⟩ := bare_parts h.2
    exact .group hk h.1 (by unfold keyN; rw [hk, h.1, b2, b3, emptyB_key b1]; rfl)
  split at h
  · rename_i hk
    simp only [Bool.and_eq_true, beq_iff_eq] at h hk
    exact .rep hk h.1 h.2.2 (by unfold keyN; rw [hk, h.1, emptyB_key h.2.1]; rfl)
  split at h
  · rename_i hk
    simp only [Bool.and_eq_true, Bool.or_eq_true, beq_iff_eq, decide_eq_true_eq] at h hk
    obtain ⟨b1, b2, b3⟩ := bare_parts h.2
    obtain ⟨n, hn⟩ := Int.eq_ofNat_of_zero_le (show 0 ≤ x.kids by omega)
    rcases hk with hk | hk
    · exact .cat hk n hn (by omega) (by unfold keyN; rw [hk, hn, b2, b3, emptyB_key b1]; rfl)
    · exact .alt hk n hn (by omega) (by unfold keyN; rw [hk, hn, b2, b3, emptyB_key b1]; rfl)
  · cases h
theorem nodeOk_parts {L : List Nd} {k : Nat} (h : nodeOk L k = true) : aloneB (L.getD k ndEmpty) = true ∧ ∀ j ∈ kidsF L (k : Int), holdsB (kindAt L k) (kindAt L j) = true := by
  unfold nodeOk at h
  simp only [Bool.and_eq_true, List.all_eq_true] at h
  exact h
theorem cnt_node {K : List (List Nd)} {x : Nd} : cntK 3 (K.flatten ++ [x]) = cntK 3 K.flatten + if x.kind == 3 then 1 else 0 := by rw [cntK_append, cntK_one]
/-- Each node's words make its nodes. -/
theorem says_node {L : List Nd} (hF : formedF L = true) (hok : ∀ j, j < L.length → nodeOk L j = true) (k : Nat) (hk : k < L.length) : Says (kindAt L k) (nodesAt L k) (wordsAt L k) := by
  revert hk
  induction k using Nat.strongRecOn with
  | _ k ih =>
    intro hk
    have hkl := kidsF_length hF hk
    have hlt : ∀ j ∈ kidsF L (k : Int), j < k := fun j hj => kidsF_lt hF hk hj
    have IH : ∀ j ∈ kidsF L (k : Int), Says (kindAt L j) (nodesAt L j) (wordsAt L j) := fun j hj => ih j (hlt j hj) (Nat.lt_trans (hlt j hj) hk)
    obtain ⟨ha, hh⟩ := nodeOk_parts (hok k hk)
    have eS : nodesAt L k = ((kidsF L (k : Int)).map (nodesAt L)).flatten ++ [L.getD k ndEmpty] := nodes_last hF hk
    have eW : wordsAt L k = wordsN k (L.getD k ndEmpty) ((kidsF L (k : Int)).map (wordsAt L)) := val_kids wordsN hF hk
    rw [eS, eW]
    clear eS eW ih hlt
    have hkk : kindAt L k = (L.getD k ndEmpty).kind := rfl
    rw [hkk] at hh ⊢
    generalize L.getD k ndEmpty = x at *
    generalize kidsF L (k : Int) = ks at *
    have keyx : ∀ {o : List Nd} {S : List Nd} {y : Nd}, keyN x = keyN y → keys (o ++ [y]) = keys o ++ [keyN x] := fun {o S y} h => by rw [keys_append, h]; rfl
    cases nodeIs ha with
    | empty hk1 hn1 h1 =>
      have e0 : ks = [] := List.eq_nil_of_length_eq_zero (by rw [hkl, hn1]; rfl)
      subst e0
      have hb : (x.kind == 3) = false := by rw [hk1]; rfl
      refine Says.ofRow (by rw [hk1]; rfl) fun o r v g hg => ⟨o, 0, ?_, ?_⟩
      · have : wordsN k x ([].map (wordsAt L)) = [] := by unfold wordsN; rw [hk1]; rfl
        rw [this, cnt_node, hb]; exact .nil _
      · show keys (o ++ [ndE]) = _
        rw [keys_append, keys_append]
        simp [keys, h1]
    | set hk1 hn1 h1 =>
      have e0 : ks = [] := List.eq_nil_of_length_eq_zero (by rw [hkl, hn1]; rfl)
      subst e0
      have hb : (x.kind == 3) = false := by rw [hk1]; rfl
      refine Says.ofPiece fun o p r v g hg => ⟨o ++ [ndS x.set], ?_, ?_⟩
      · have : wordsN k x ([].map (wordsAt L)) = [w1 x.set] := by unfold wordsN; rw [hk1]; rfl
        rw [this, cnt_node, hb]
        exact Goes.one (no_step (by decide : ¬ (1 : Int) = 5) (by decide : ¬ (1 : Int) = 3) (by decide : ¬ (1 : Int) = 2))
      · rw [keys_append, keys_append]
        simp [keys, h1]
    | group hk1 hn1 h1 =>
      obtain ⟨j, rfl⟩ := List.length_eq_one_iff.1 (show ks.length = 1 by rw [hkl, hn1]; rfl)
      have hb : (x.kind == 3) = true := by rw [hk1]; rfl
      have hj := (IH j (by simp)).rows
      refine Says.ofPiece fun o p r v g hg => ?_
      have hw : wordsN k x ([j].map (wordsAt L)) = wOpen :: (wordsAt L j ++ [wShut]) := by unfold wordsN; rw [hk1]; simp
      rw [cnt_node, hb] at hg ⊢
      simp only [List.map_cons, List.map_nil, List.flatten_cons, List.flatten_nil, List.append_nil, if_true] at hg ⊢
      obtain ⟨o1, p1, r1, g1, g2⟩ := hj o ((p, r) :: v) (g + 1) (by omega)
      refine ⟨o1 ++ rowN p1 ++ rowsN (r1 + 1) ++ [ndG], ?_, ?_⟩
      · have hw' : wordsN k x [wordsAt L j] = wOpen :: (wordsAt L j ++ [wShut]) := hw
        rw [hw']
        refine .cons ⟨fun h => absurd h (by decide), fun h => absurd h (by decide), fun _ => by show g ≠ 9; omega⟩ ?_
        refine g1.trans ?_
        have := Goes.one (x := ⟨o1, (p1, r1) :: (p, r) :: v, g + 1 + cntK 3 (nodesAt L j)⟩) (w := wShut) ⟨fun h => absurd h (by decide), fun _ => by simp, fun h => absurd h (by decide)⟩
        rw [show g + (cntK 3 (nodesAt L j) + 1) = g + 1 + cntK 3 (nodesAt L j) by omega]
        exact this
      · rw [keys_append, g2, keys_append, List.append_assoc]
        simp [keys, h1]
    | rep hk1 hn1 hr h1 =>
      obtain ⟨j, rfl⟩ := List.length_eq_one_iff.1 (show ks.length = 1 by rw [hkl, hn1]; rfl)
      have hb : (x.kind == 3) = false := by rw [hk1]; rfl
      have hp : pieceB (kindAt L j) = true := by have := hh j (by simp); rw [hk1] at this; simpa [holdsB] using this
      have hj := (IH j (by simp)).piece hp
      refine Says.ofPiece fun o p r v g hg => ?_
      have hw : wordsN k x ([j].map (wordsAt L)) = wordsAt L j ++ [wRep x.n x.m] := by unfold wordsN; rw [hk1]; simp
      rw [cnt_node, hb] at hg ⊢
      rw [hw]
      simp only [List.map_cons, List.map_nil, List.flatten_cons, List.flatten_nil, List.append_nil, Bool.false_eq_true, if_false, Nat.add_zero] at hg ⊢
      obtain ⟨o1, g1, g2⟩ := hj o p r v g hg
      refine ⟨o1 ++ [ndR x.n x.m], ?_, ?_⟩
      · refine g1.trans (Goes.one (w := wRep x.n x.m) ⟨fun _ => by show p + 1 ≠ 0; omega, fun h => absurd h (by show ¬ (5 : Int) = 3; decide), fun h => absurd h (by show ¬ (5 : Int) = 2; decide)⟩)
      · rw [keys_append, g2, keys_append, List.append_assoc]
        simp [keys, h1]
    | cat hk1 m hn1 h2 h1 =>
      have hlen : ks.length = m := by rw [hkl, hn1]; rfl
      have hb : (x.kind == 3) = false := by rw [hk1]; rfl
      have hj : ∀ j ∈ ks, PieceP (nodesAt L j) (wordsAt L j) := fun j hj => (IH j hj).piece (by have := hh j hj; rw [hk1] at this; simpa [holdsB] using this)
      refine Says.ofRow (by rw [hk1]; rfl) fun o r v g hg => ?_
      have hw : wordsN k x (ks.map (wordsAt L)) = (ks.map (wordsAt L)).flatten := by unfold wordsN; rw [hk1]; simp
      rw [cnt_node, hb] at hg ⊢
      rw [hw]
      simp only [Bool.false_eq_true, if_false, Nat.add_zero] at hg ⊢
      obtain ⟨o1, g1, g2⟩ := pieces_go (nodesAt L) (wordsAt L) ks hj o 0 r v g hg
      refine ⟨o1, 0 + ks.length, g1, ?_⟩
      have hrow : rowN (0 + ks.length) = [ndC m] := by rw [hlen, Nat.zero_add]; unfold rowN; rw [if_neg (by omega), if_pos (by omega)]
      rw [hrow, keys_append, g2, keys_append, List.append_assoc]
      simp [keys, h1]
    | alt hk1 m hn1 h2 h1 =>
      have hlen : ks.length = m := by rw [hkl, hn1]; rfl
      have hb : (x.kind == 3) = false := by rw [hk1]; rfl
      have hj : ∀ j ∈ ks, RowP (nodesAt L j) (wordsAt L j) := fun j hj => (IH j hj).row (by have := hh j hj; rw [hk1] at this; simpa [holdsB] using this)
      have hw : wordsN k x (ks.map (wordsAt L)) = barsW (ks.map (wordsAt L)) := by unfold wordsN; rw [hk1]; simp
      refine ⟨fun h => absurd h (by rw [hk1]; decide), fun h => absurd hk1 h, fun o v g hg => ?_⟩
      rw [cnt_node, hb] at hg ⊢
      rw [hw]
      simp only [Bool.false_eq_true, if_false, Nat.add_zero] at hg ⊢
      obtain ⟨o1, p1, g1, g2⟩ := rows_go (nodesAt L) (wordsAt L) ks (by intro e; rw [e] at hlen; simp at hlen; omega) hj o 0 v g hg
      refine ⟨o1, p1, 0 + (ks.length - 1), g1, ?_⟩
      have hrow : rowsN (0 + (ks.length - 1) + 1) = [ndA m] := by rw [hlen, show 0 + (m - 1) + 1 = m by omega]; unfold rowsN; rw [if_pos (by omega)]
      rw [hrow, keys_append, g2, keys_append, List.append_assoc]
      simp [keys, h1]
theorem mem_bars {w : Wd} {K : List (List Wd)} (h : w ∈ barsW K) : w = wBar ∨ ∃ p ∈ K, w ∈ p := by
  induction K with
  | nil => simp [barsW] at h
  | cons p K ih =>
    cases K with
    | nil => exact .inr ⟨p, by simp, h⟩
    | cons q K =>
      rw [barsW, List.mem_append, List.mem_cons] at h
      rcases h with h | h | h
      · exact .inr ⟨p, by simp, h⟩
      · exact .inl h
      · rcases ih h with h | ⟨p', h1, h2⟩
        · exact .inl h
        · exact .inr ⟨p', List.mem_cons_of_mem _ h1, h2⟩
theorem sign_ok {k : Int} (hk : 2 ≤ k ∧ k ≤ 4) : WdOk ⟨k, 0, 0, noSet, 0, 0⟩ := ⟨by show 1 ≤ k ∧ k ≤ 5; omega, fun h => by exfalso; have h' : k = 5 := h; omega, fun _ => ⟨rfl, rfl⟩, fun _ => rfl⟩
theorem words_ok {L : List Nd} (hF : formedF L = true) (hok : ∀ j, j < L.length → nodeOk L j = true) (k : Nat) (hk : k < L.length) : ∀ w ∈ wordsAt L k, WdOk w := by
  revert hk
  induction k using Nat.strongRecOn with
  | _ k ih =>
    intro hk
    have hlt : ∀ j ∈ kidsF L (k : Int), j < k := fun j hj => kidsF_lt hF hk hj
    have IH : ∀ j ∈ kidsF L (k : Int), ∀ w ∈ wordsAt L j, WdOk w := fun j hj => ih j (hlt j hj) (Nat.lt_trans (hlt j hj) hk)
    have IH2 : ∀ p ∈ (kidsF L (k : Int)).map (wordsAt L), ∀ w ∈ p, WdOk w := fun p hp w hw => by
      obtain ⟨j, hj, rfl⟩ := List.mem_map.1 hp
      exact IH j hj w hw
    have IH3 : ∀ w ∈ ((kidsF L (k : Int)).map (wordsAt L)).flatten, WdOk w := fun w hw => by
      obtain ⟨p, hp, hw⟩ := List.mem_flatten.1 hw
      exact IH2 p hp w hw
    obtain ⟨ha, hh⟩ := nodeOk_parts (hok k hk)
    have eW : wordsAt L k = wordsN k (L.getD k ndEmpty) ((kidsF L (k : Int)).map (wordsAt L)) := val_kids wordsN hF hk
    rw [eW]
    generalize L.getD k ndEmpty = x at *
    intro w hw
    unfold wordsN at hw
    split at hw
    · rw [List.mem_singleton.1 hw]
      exact ⟨⟨by show (1 : Int) ≤ 1; decide, by show (1 : Int) ≤ 5; decide⟩, fun h => absurd h (by show ¬ (1 : Int) = 5; decide), fun _ => ⟨rfl, rfl⟩, fun h => absurd rfl h⟩
    split at hw
    · rcases List.mem_cons.1 hw with rfl | hw
      · exact sign_ok (by decide)
      rcases List.mem_append.1 hw with hw | hw
      · exact IH3 w hw
      · rw [List.mem_singleton.1 hw]; exact sign_ok (by decide)
    split at hw
    · rename_i h4
      rcases List.mem_append.1 hw with hw | hw
      · exact IH3 w hw
      · rw [List.mem_singleton.1 hw]
        have hr : rightB x.n x.m = true := by
          simp only [beq_iff_eq] at h4
          cases nodeIs ha with
          | rep hk1 hn1 hr h1 => exact hr
          | empty hk1 => omega
          | set hk1 => omega
          | group hk1 => omega
          | cat hk1 => omega
          | alt hk1 => omega
        exact ⟨⟨by show (1 : Int) ≤ 5; decide, by show (5 : Int) ≤ 5; decide⟩, fun _ => hr, fun h => absurd rfl h, fun _ => rfl⟩
    split at hw
    · rcases mem_bars hw with rfl | ⟨p, hp, hw⟩
      · exact sign_ok (by decide)
      · exact IH2 p hp w hw
    · exact IH3 w hw

/-- Are two states alike? -/
structure Like (x y : PS) : Prop where
  out : keys x.out = keys y.out
  lv : x.lv = y.lv
  gr : x.groups = y.groups
theorem Like.rfl {x : PS} : Like x x := ⟨by rfl, by rfl, by rfl⟩
theorem like_put {x y : PS} {a b : Nd} (h : Like x y) (hab : keyN a = keyN b) : Like (putN a x) (putN b y) :=
  ⟨by show keys (x.out ++ [a]) = keys (y.out ++ [b]); rw [keys_append, keys_append, h.out]; simp [keys, hab], h.lv, h.gr⟩
theorem like_add {x y : PS} (h : Like x y) : Like (addP x) (addP y) := by
  obtain ⟨o, lv, g⟩ := x
  obtain ⟨o', lv', g'⟩ := y
  obtain ⟨h1, h2, h3⟩ := h
  simp only at h1 h2 h3
  subst h2 h3
  cases lv with
  | nil => exact ⟨h1, by rfl, by rfl⟩
  | cons pr v => exact ⟨h1, by rfl, by rfl⟩
theorem like_row {x y : PS} (h : Like x y) : Like (endRow x) (endRow y) := by
  obtain ⟨o, lv, g⟩ := x
  obtain ⟨o', lv', g'⟩ := y
  obtain ⟨h1, h2, h3⟩ := h
  simp only at h1 h2 h3
  subst h2 h3
  cases lv with
  | nil => exact ⟨h1, by rfl, by rfl⟩
  | cons pr v => exact ⟨by show keys (o ++ rowN _) = keys (o' ++ rowN _); rw [keys_append, keys_append, h1], by rfl, by rfl⟩
theorem like_rows {x y : PS} (h : Like x y) : Like (endRows x) (endRows y) := by
  obtain ⟨o, lv, g⟩ := x
  obtain ⟨o', lv', g'⟩ := y
  obtain ⟨h1, h2, h3⟩ := h
  simp only at h1 h2 h3
  subst h2 h3
  cases lv with
  | nil => exact ⟨h1, by rfl, by rfl⟩
  | cons pr v => exact ⟨by show keys (o ++ rowN _ ++ rowsN _) = keys (o' ++ rowN _ ++ rowsN _); rw [keys_append, keys_append, keys_append, keys_append, h1], by rfl, by rfl⟩
theorem like_take {x y : PS} (h : Like x y) {v w : Wd} (hv : SameW v w) : Like (takeF x v) (takeF y w) := by
  obtain ⟨v1, v2, v3, v4⟩ := hv
  unfold takeF
  rw [v1, v3, v4]
  split
  · exact like_add (like_put h (by unfold keyN ndS; simp only; rw [key_set v2]))
  split
  · exact ⟨h.out, by show (0, 0) :: x.lv = (0, 0) :: y.lv; rw [h.lv], by show x.groups + 1 = y.groups + 1; rw [h.gr]⟩
  split
  · exact like_add (like_put (like_rows h) (by rfl))
  split
  · exact like_row h
  split
  · exact like_put h (by rfl)
  · exact h
theorem byte_kind {s : ByteArray} {a : Nat} {w : Wd} (h : a < s.size) (hw : nextW s a = ⟨w, 0, 0⟩) : (isCnt (bt s a) = true → w.kind = 5) ∧ (bt s a = 41 → w.kind = 3) ∧ (bt s a = 40 → w.kind = 2) := by
  rw [nextW_in h] at hw
  generalize bt s a = b at *
  refine ⟨fun hb => ?_, fun hb => ?_, fun hb => ?_⟩
  · have e : wordB s a b = cntA a (BraceP.readF s.data.toList a) := by
      unfold isCnt at hb
      simp only [Bool.or_eq_true, beq_iff_eq] at hb
      rcases hb with e | e | e | e <;> rw [e] <;> rfl
    rw [e] at hw
    unfold cntA at hw
    split at hw
    · injection hw with h1; rw [← h1]
    · injection hw with h1 h2 h3
      rename_i h0
      exact absurd h2 h0
  · subst hb
    have e : wordB s a 41 = signA 3 a := rfl
    rw [e] at hw
    injection hw with h1; rw [← h1]
  · subst hb
    have e : wordB s a 40 = signA 2 a := rfl
    rw [e] at hw
    injection hw with h1; rw [← h1]
theorem bar_of {s : ByteArray} {a : Nat} {v w : Wd} {x y : PS} (h : a < s.size) (hw : nextW s a = ⟨v, 0, 0⟩) (hk : v.kind = w.kind) (hx : Like x y) (ho : StepOk y w) : barF x (bt s a) = 0 := by
  obtain ⟨k1, k2, k3⟩ := byte_kind h hw
  have ht : topP x = topP y := by unfold topP; rw [hx.lv]
  unfold barF
  rw [ht, hx.lv, hx.gr]
  split
  · rename_i hc
    rw [if_neg (ho.rep (by rw [← hk]; exact k1 hc))]
  split
  · rename_i hc
    rw [if_neg (ho.shut (by rw [← hk]; exact k2 (by simpa using hc)))]
  split
  · rename_i hc
    rw [if_neg (ho.opn (by rw [← hk]; exact k3 (by simpa using hc)))]
  · rfl
/-- The text of words is read word by word. -/
theorem cat_run {x y : PS} {L : List Wd} (hg : Goes x L y) : (∀ w ∈ L, WdOk w) → ∀ (A : ByteArray) (x' : PS), Like x' x → ∃ y', Run (A ++ ⟨(catT L).toArray⟩) A.size x' (A ++ (⟨(catT L).toArray⟩ : ByteArray)).size y' ∧ Like y' y := by
  induction hg with
  | nil x =>
    intro _ A x' hx
    refine ⟨x', ?_, hx⟩
    have : (A ++ (⟨(catT []).toArray⟩ : ByteArray)).size = A.size := by rw [size_strB]; rfl
    rw [this]; exact .refl _ _
  | @cons x y w L h hr ih =>
    intro hL A x' hx
    have hw := hL w (by simp)
    have hpos := printW_len hw
    obtain ⟨v, hv, v1, v2, v3, v4, v5, v6⟩ := read_printW A hw
    have hz := size_strB A (printW w)
    obtain ⟨y', h1, h2⟩ := ih (fun u hu => hL u (by simp [hu])) (A ++ ⟨(printW w).toArray⟩) (takeF x' v) (like_take hx ⟨v1, v4, v5, v6⟩)
    rw [catT_cons, bytes_app]
    rw [hz] at h1
    have hlt : A.size < (A ++ (⟨(printW w).toArray⟩ : ByteArray) ++ (⟨(catT L).toArray⟩ : ByteArray)).size := by rw [size_strB, hz]; omega
    have hn : nextW (A ++ (⟨(printW w).toArray⟩ : ByteArray) ++ (⟨(catT L).toArray⟩ : ByteArray)) A.size = ⟨v, 0, 0⟩ := by
      rw [nextW_app _ (by rw [hz]; omega) (by rw [hv]; show ¬ (0 : Int) = 2; decide), hv]
    exact ⟨y', .step hlt (bar_of hlt hn v1 hx h) hn v3 h1, h2⟩
theorem parse_rows {S : List Nd} {ws : List Wd} (h : RowsP S ws) (hc : cntK 3 S ≤ 9) (hw : ∀ w ∈ ws, WdOk w) : ∃ M, parseF ⟨(catT ws).toArray⟩ = (M, 0, 0) ∧ keys M = keys S := by
  obtain ⟨o, p, r, g1, g2⟩ := h [] [] 0 (by omega)
  obtain ⟨y, h1, h2⟩ := cat_run g1 hw ⟨#[]⟩ ps0 Like.rfl
  rw [empty_app] at h1
  have h1' : Run ⟨(catT ws).toArray⟩ 0 ps0 (⟨(catT ws).toArray⟩ : ByteArray).size y := h1
  have hy := like_rows h2
  refine ⟨(endRows y).out, ?_, ?_⟩
  · show parseR _ (readGo _ 0 ps0) = _
    rw [h1'.go, readGo_end (Nat.le_refl _)]
    show (if 1 < y.lv.length then _ else _) = _
    rw [h2.lv, if_neg (by simp)]
  · rw [hy.out]
    show keys (o ++ rowN p ++ rowsN (r + 1)) = _
    rw [g2]; rfl
/-- What is printed of a pattern's tree is parsed as the tree. -/
theorem print_parse {L : List Nd} (h : rightF L = true) : ∃ M, parseF ⟨(textAt L (L.length - 1)).toArray⟩ = (M, 0, 0) ∧ keys M = keys L := by
  obtain ⟨hF, hok, hg⟩ := right_parts h
  have hpos := (root_size hF).1
  have hs := (says_node hF hok (L.length - 1) (by omega)).rows
  rw [nodes_root hF] at hs
  rw [← words_text hF (by omega)]
  exact parse_rows hs (by rw [← groups_cntK]; exact hg) (words_ok hF hok _ (by omega))
/-- So is each node. -/
theorem print_node {L : List Nd} (h : rightF L = true) {k : Nat} (hk : k < L.length) : ∃ M, parseF ⟨(textAt L k).toArray⟩ = (M, 0, 0) ∧ keys M = keys (nodesAt L k) := by
  obtain ⟨hF, hok, hg⟩ := right_parts h
  have hs := (says_node hF hok k hk).rows
  rw [← words_text hF hk]
  exact parse_rows hs (by have := nodes_cnt hk; rw [groups_cntK] at hg; omega) (words_ok hF hok _ hk)
end ParP
end Go.Proofs.YtfcgmgpcbenfpaaGreat
