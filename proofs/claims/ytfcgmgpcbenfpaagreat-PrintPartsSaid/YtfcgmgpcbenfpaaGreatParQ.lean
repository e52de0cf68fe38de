/- Plain facts: what is read of a pattern is a pattern's tree, with a node for each word that makes one. No program is in sight. -/
import Derived.Test.YtfcgmgpcbenfpaaGreatParP
import Derived.Test.YtfcgmgpcbenfpaaGreatParT
import Derived.Test.YtfcgmgpcbenfpaaGreatLexQ
import Derived.Test.YtfcgmgpcbenfpaaGreatAstT
import Derived.Test.YtfcgmgpcbenfpaaGreatMAsi
set_option linter.unusedVariables false
set_option linter.unusedSimpArgs false
namespace Go.Proofs.YtfcgmgpcbenfpaaGreat
open Go.RowKit SetP BrkP LexP AstP
namespace ParP
def kf : Nat → Nd → List Int → Int := fun _ x _ => x.kind
/-- The kinds of the things that stand, the last one first. -/
def gK : List Nd → List Int → List Int
  | [], st => st
  | x :: l, st => gK l (x.kind :: st.drop x.kids.toNat)
theorem gK_gF (i : Nat) (l : List Nd) (st : List Int) : gF kf i l st = gK l st := by
  induction l generalizing i st with
  | nil => rfl
  | cons x l ih => rw [gF, ih, gK]; rfl
theorem gK_append (l m : List Nd) (st : List Int) : gK (l ++ m) st = gK m (gK l st) := by
  induction l generalizing st with
  | nil => rfl
  | cons x l ih => rw [List.cons_append, gK, ih, gK]
/-- Each node may be, and may have its kids. -/
def okG : List Nd → List Int → Bool
  | [], _ => true
  | x :: l, st => aloneB x && (decide (0 ≤ x.kids) && (decide (x.kids ≤ st.length) && ((st.take x.kids.toNat).all (holdsB x.kind) && okG l (x.kind :: st.drop x.kids.toNat))))
theorem okG_append (l m : List Nd) (st : List Int) : okG (l ++ m) st = (okG l st && okG m (gK l st)) := by
  induction l generalizing st with
  | nil => rfl
  | cons x l ih => rw [List.cons_append, okG, ih, okG, gK]; simp only [Bool.and_assoc]
theorem okG_runF (l : List Nd) (st : List Int) (h : okG l st = true) : runF l st.length = some ((gK l st).length : Int) := by
  induction l generalizing st with
  | nil => rfl
  | cons x l ih =>
    rw [okG] at h
    simp only [Bool.and_eq_true, decide_eq_true_eq] at h
    obtain ⟨_, h0, h1, _, h2⟩ := h
    rw [runF, if_neg (by omega), gK, ← ih _ h2]
    congr 1
    simp; omega
theorem okG_at {L : List Nd} {k : Nat} (h : okG L [] = true) (hk : k < L.length) : aloneB (L.getD k ndEmpty) = true ∧ ((gS kf L k).take (L.getD k ndEmpty).kids.toNat).all (holdsB (L.getD k ndEmpty).kind) = true := by
  have e : L = L.take k ++ (L.getD k ndEmpty :: L.drop (k + 1)) := by
    rw [List.getD_eq_getElem?_getD, List.getElem?_eq_getElem hk]
    show L = L.take k ++ (L[k] :: L.drop (k + 1))
    rw [← List.drop_eq_getElem_cons hk, List.take_append_drop]
  rw [e, okG_append, okG] at h
  simp only [Bool.and_eq_true, decide_eq_true_eq] at h
  have hs : gS kf L k = gK (L.take k) [] := gK_gF 0 _ _
  rw [hs]
  exact ⟨h.2.1, h.2.2.2.2.1⟩
theorem val_kf (L : List Nd) {k : Nat} (hk : k < L.length) : val kf L k = kindAt L k := by
  unfold val
  rw [gS_succ kf hk]; rfl
theorem okG_right {L : List Nd} (h : okG L [] = true) (h1 : (gK L []).length = 1) : formedF L = true ∧ ∀ k, k < L.length → nodeOk L k = true := by
  have hF : formedF L = true := by
    have := okG_runF L [] h
    unfold formedF
    have e : runF L 0 = some ((gK L []).length : Int) := this
    rw [e, h1]; rfl
  refine ⟨hF, fun k hk => ?_⟩
  obtain ⟨a1, a2⟩ := okG_at h hk
  unfold nodeOk
  rw [a1, Bool.true_and]
  have e := kids_stack kf hF hk
  rw [List.all_eq_true]
  intro j hj
  have hjk := kidsF_lt hF hk hj
  have hm : val kf L j ∈ (kidsF L (k : Int)).map (val kf L) := List.mem_map_of_mem hj
  rw [← e, List.mem_reverse, val_kf L (by omega)] at hm
  exact List.all_eq_true.1 a2 _ hm
/-- How many nodes of a kind. -/
def cntK (κ : Int) (l : List Nd) : Nat := l.countP fun x => x.kind == κ
theorem cntK_append (κ : Int) (l m : List Nd) : cntK κ (l ++ m) = cntK κ l + cntK κ m := by unfold cntK; exact List.countP_append
theorem groups_cntK (L : List Nd) : groupsF L L.length = cntK 3 L := by
  have key : ∀ k, k ≤ L.length → groupsF L k = cntK 3 (L.take k) := by
    intro k
    induction k with
    | zero => intro _; rfl
    | succ k ih =>
      intro hk
      rw [groupsF, take_more (by omega), cntK_append, ih (by omega)]
      unfold cntK
      simp only [List.countP_cons, List.countP_nil]
      split <;> rfl
  rw [key _ (Nat.le_refl _), List.take_length]
/-- How many rows the Alts have, but for one each. -/
def altR (l : List Nd) : Int := (l.map fun x => if x.kind == 6 then x.kids - 1 else 0).sum
theorem altR_append (l m : List Nd) : altR (l ++ m) = altR l + altR m := by unfold altR; rw [List.map_append, List.sum_append]
def lvR (v : List (Nat × Nat)) : Int := (v.map fun x => (x.2 : Int)).sum
def cntW (κ : Int) (l : List Wd) : Nat := l.countP fun x => x.kind == κ
/-- What the things that stand are, by the levels that are open. -/
def KOk : List (Nat × Nat) → List Int → Prop
  | [], K => K = []
  | (p, r) :: v, K => ∃ P R K', K = P ++ (R ++ K') ∧ P.length = p ∧ R.length = r ∧ (∀ κ ∈ P, pieceB κ = true) ∧ (∀ κ ∈ R, κ ≠ 6) ∧ KOk v K'
structure Inv (x : PS) : Prop where
  ok : okG x.out [] = true
  kinds : KOk x.lv (gK x.out [])
  ne : x.lv ≠ []
  gr : x.groups + 1 = cntK 3 x.out + x.lv.length
  nine : x.groups ≤ 9
theorem inv0 : Inv ps0 := ⟨rfl, ⟨[], [], [], rfl, rfl, rfl, by simp, by simp, rfl⟩, by simp [ps0], rfl, by decide⟩
theorem piece_ne6 {κ : Int} (h : pieceB κ = true) : κ ≠ 6 := by rintro rfl; exact absurd h (by decide)
theorem empty_no {x : Nd} (h : x.set = noSet) : emptyB x = true := by unfold emptyB; rw [h]; exact same_iff.2 fun _ _ => rfl
theorem alone_C {p : Nat} (h : 1 < p) : aloneB (ndC p) = true := by
  have e := empty_no (x := ndC p) rfl
  have hb : bareB (ndC p) = true := by unfold bareB; rw [e]; rfl
  have ha : aloneB (ndC p) = (decide (2 ≤ (p : Int)) && bareB (ndC p)) := rfl
  rw [ha, hb, decide_eq_true (by omega)]; rfl
theorem alone_A {p : Nat} (h : 1 < p) : aloneB (ndA p) = true := by
  have e := empty_no (x := ndA p) rfl
  have hb : bareB (ndA p) = true := by unfold bareB; rw [e]; rfl
  have ha : aloneB (ndA p) = (decide (2 ≤ (p : Int)) && bareB (ndA p)) := rfl
  rw [ha, hb, decide_eq_true (by omega)]; rfl
theorem alone_E : aloneB ndE = true := by
  have e := empty_no (x := ndE) rfl
  unfold aloneB bareB
  rw [e]; rfl
theorem alone_G : aloneB ndG = true := by
  have e := empty_no (x := ndG) rfl
  unfold aloneB bareB
  rw [e]; rfl
theorem alone_S (f : Nat → Bool) : aloneB (ndS f) = true := rfl
theorem alone_R {n m : Int} (h : rightB n m = true) : aloneB (ndR n m) = true := by
  have e := empty_no (x := ndR n m) rfl
  unfold aloneB bareB
  rw [e]
  show (_ : Bool) = true
  simp [ndR, h]
/-- A row ends: its things become one, that is no Alt. -/
theorem row_end {out : List Nd} {p r : Nat} {v : List (Nat × Nat)} (h : okG out [] = true) (hk : KOk ((p, r) :: v) (gK out [])) :
    okG (out ++ rowN p) [] = true ∧ KOk ((0, r + 1) :: v) (gK (out ++ rowN p) []) := by
  obtain ⟨P, R, K', hK, hP, hR, hp, hr, hv⟩ := hk
  rw [okG_append, gK_append, h, hK, Bool.true_and]
  unfold rowN
  by_cases h0 : p = 0
  · have hP0 : P = [] := List.eq_nil_of_length_eq_zero (by omega)
    rw [if_pos h0, hP0]
    refine ⟨?_, [], 1 :: R, K', ?_, rfl, by simp [hR], by simp, ?_, hv⟩
    · have : okG [ndE] ([] ++ (R ++ K')) = true := by
        rw [okG, alone_E]
        simp [okG, ndE]
        omega
      exact this
    · simp [gK, ndE]
    · intro κ hκ
      rcases List.mem_cons.1 hκ with rfl | hκ
      · decide
      · exact hr κ hκ
  by_cases h1 : 1 < p
  · rw [if_neg h0, if_pos h1]
    have ht : (P ++ (R ++ K')).take p = P := by rw [← hP, List.take_left]
    have hd : (P ++ (R ++ K')).drop p = R ++ K' := by rw [← hP, List.drop_left]
    refine ⟨?_, [], 5 :: R, K', ?_, rfl, by simp [hR], by simp, ?_, hv⟩
    · have hz : (ndC p).kids.toNat = p := by simp [ndC]
      rw [okG, hz, ht, alone_C h1]
      simp only [Bool.true_and, Bool.and_eq_true, decide_eq_true_eq, okG, and_true]
      refine ⟨by simp [ndC], by simp [ndC, hP]; omega, List.all_eq_true.2 fun κ hκ => ?_⟩
      exact hp κ hκ
    · have hz : (ndC p).kids.toNat = p := by simp [ndC]
      rw [gK, gK, hz, hd]; rfl
    · intro κ hκ
      rcases List.mem_cons.1 hκ with rfl | hκ
      · decide
      · exact hr κ hκ
  · have hp1 : p = 1 := by omega
    rw [if_neg h0, if_neg h1]
    obtain ⟨κ, rfl⟩ := List.length_eq_one_iff.1 (hP.trans hp1)
    refine ⟨rfl, [], κ :: R, K', by simp [gK], rfl, by simp [hR], by simp, ?_, hv⟩
    intro κ' hκ
    rcases List.mem_cons.1 hκ with rfl | hκ
    · exact piece_ne6 (hp _ (by simp))
    · exact hr κ' hκ
/-- All rows end: one thing is left of them. -/
theorem rows_end {out : List Nd} {p r : Nat} {v : List (Nat × Nat)} (h : okG out [] = true) (hk : KOk ((p, r) :: v) (gK out [])) :
    okG (out ++ rowN p ++ rowsN (r + 1)) [] = true ∧ ∃ κ K', gK (out ++ rowN p ++ rowsN (r + 1)) [] = κ :: K' ∧ KOk v K' := by
  obtain ⟨h1, P, R, K', hK, hP, hR, hp, hr, hv⟩ := row_end h hk
  have hP0 : P = [] := List.eq_nil_of_length_eq_zero hP
  subst hP0
  rw [List.nil_append] at hK
  rw [okG_append, gK_append (out ++ rowN p), h1, hK, Bool.true_and]
  unfold rowsN
  by_cases h2 : 1 < r + 1
  · rw [if_pos h2]
    have hz : (ndA (r + 1)).kids.toNat = r + 1 := by simp [ndA]
    have ht : (R ++ K').take (r + 1) = R := by rw [← hR, List.take_left]
    have hd : (R ++ K').drop (r + 1) = K' := by rw [← hR, List.drop_left]
    refine ⟨?_, 6, K', ?_, hv⟩
    · rw [okG, hz, ht, alone_A h2]
      simp only [Bool.true_and, Bool.and_eq_true, decide_eq_true_eq, okG, and_true]
      refine ⟨by simp [ndA]; omega, by simp [ndA, hR]; omega, List.all_eq_true.2 fun κ hκ => ?_⟩
      have := hr κ hκ
      show holdsB 6 κ = true
      unfold holdsB
      simpa using this
    · rw [gK, gK, hz, hd]; rfl
  · rw [if_neg h2]
    obtain ⟨κ, rfl⟩ := List.length_eq_one_iff.1 (show R.length = 1 by omega)
    exact ⟨rfl, κ, K', rfl, hv⟩
theorem cntK_one (κ : Int) (x : Nd) : cntK κ [x] = if x.kind == κ then 1 else 0 := by unfold cntK; simp only [List.countP_cons, List.countP_nil, Nat.zero_add]
theorem rowN_cnt (p : Nat) : cntK 3 (rowN p) = 0 ∧ cntK 2 (rowN p) = 0 ∧ cntK 4 (rowN p) = 0 ∧ altR (rowN p) = 0 := by
  unfold rowN
  split
  · exact ⟨rfl, rfl, rfl, rfl⟩
  · split
    · exact ⟨rfl, rfl, rfl, rfl⟩
    · exact ⟨rfl, rfl, rfl, rfl⟩
theorem rowsN_cnt (r : Nat) : cntK 3 (rowsN r) = 0 ∧ cntK 2 (rowsN r) = 0 ∧ cntK 4 (rowsN r) = 0 ∧ altR (rowsN (r + 1)) = r := by
  unfold rowsN
  refine ⟨?_, ?_, ?_, ?_⟩
  · split <;> rfl
  · split <;> rfl
  · split <;> rfl
  · split
    · simp [altR, ndA]
    · have : r = 0 := by omega
      subst this; rfl
theorem take_inv {s : ByteArray} {a : Nat} {x : PS} {w : Wd} (hi : Inv x) (ha : a < s.size) (hb : barF x (bt s a) = 0) (hw : nextW s a = ⟨w, 0, 0⟩) : Inv (takeF x w) := by
  have ht := took hi.ne ha hb hw
  obtain ⟨_, f2, f3, f5⟩ := word_facts ha hw
  obtain ⟨b1, b2, b3⟩ := bar_no hb
  obtain ⟨i1, i2, i3, i4, i5⟩ := hi
  generalize takeF x w = y at *
  cases ht with
  | one o p r v g hk hx =>
    subst hx
    obtain ⟨P, R, K', hK, hP, hR, hp, hr, hv⟩ := i2
    simp only at i1 hK i4 i5
    refine ⟨?_, ⟨2 :: P, R, K', ?_, by simp [hP], hR, ?_, hr, hv⟩, by simp, ?_, i5⟩
    · show okG (o ++ [ndS w.set]) [] = true
      rw [okG_append, i1]
      simp [okG, alone_S, ndS, aloneB]
    · show gK (o ++ [ndS w.set]) [] = _
      rw [gK_append, hK]; simp [gK, ndS]
    · intro κ hκ
      rcases List.mem_cons.1 hκ with rfl | hκ
      · decide
      · exact hp κ hκ
    · show g + 1 = cntK 3 (o ++ [ndS w.set]) + _
      rw [cntK_append, cntK_one]
      have : ((ndS w.set).kind == 3) = false := rfl
      rw [this]
      simpa using i4
  | opn o v g hk hx =>
    subst hx
    simp only at i1 i2 i4 i5
    refine ⟨i1, ⟨[], [], _, rfl, rfl, rfl, by simp, by simp, i2⟩, by simp, ?_, ?_⟩
    · show g + 1 + 1 = cntK 3 o + _
      simp only [List.length_cons]; omega
    · have h9 : g ≠ 9 := b3 (f2 hk)
      show g + 1 ≤ 9
      omega
  | shut o p r p' r' v g hk hx =>
    subst hx
    simp only at i1 i2 i4 i5
    obtain ⟨e1, κ, K', e2, P, R, K2, hK, hP, hR, hp, hr, hv⟩ := rows_end i1 i2
    refine ⟨?_, ⟨3 :: P, R, K2, ?_, by simp [hP], hR, ?_, hr, hv⟩, by simp, ?_, i5⟩
    · show okG (o ++ rowN p ++ rowsN (r + 1) ++ [ndG]) [] = true
      rw [okG_append, e1, e2, okG, alone_G]
      simp [okG, ndG, holdsB]
      exact decide_eq_true (by omega)
    · show gK (o ++ rowN p ++ rowsN (r + 1) ++ [ndG]) [] = _
      rw [gK_append _ [ndG], e2, hK]; simp [gK, ndG]
    · intro κ hκ
      rcases List.mem_cons.1 hκ with rfl | hκ
      · decide
      · exact hp κ hκ
    · show g + 1 = cntK 3 (o ++ rowN p ++ rowsN (r + 1) ++ [ndG]) + _
      rw [cntK_append, cntK_append, cntK_append, cntK_one, (rowN_cnt p).1, (rowsN_cnt (r + 1)).1]
      have : ((ndG).kind == 3) = true := rfl
      rw [this]
      have i4' : g + 1 = cntK 3 o + (v.length + 1 + 1) := i4
      simp; omega
  | bar o p r v g hk hx =>
    subst hx
    simp only at i1 i2 i4 i5
    obtain ⟨e1, e2⟩ := row_end i1 i2
    refine ⟨e1, e2, by simp, ?_, i5⟩
    show g + 1 = cntK 3 (o ++ rowN p) + _
    rw [cntK_append, (rowN_cnt p).1]
    simpa using i4
  | rep o p r v g hk hx =>
    subst hx
    simp only at i1 i2 i4 i5
    obtain ⟨P, R, K', hK, hP, hR, hp, hr, hv⟩ := i2
    cases P with
    | nil => simp at hP
    | cons κ P =>
    have hκ : pieceB κ = true := hp κ (by simp)
    refine ⟨?_, ⟨4 :: P, R, K', ?_, by simpa using hP, hR, ?_, hr, hv⟩, by simp, ?_, i5⟩
    · show okG (o ++ [ndR w.n w.m]) [] = true
      rw [okG_append, i1, hK, okG, alone_R (f5 hk).2]
      simp [okG, ndR, holdsB, hκ]
      omega
    · show gK (o ++ [ndR w.n w.m]) [] = _
      rw [gK_append, hK]; simp [gK, ndR]
    · intro κ' hκ'
      rcases List.mem_cons.1 hκ' with rfl | hκ'
      · decide
      · exact hp κ' (by simp [hκ'])
    · show g + 1 = cntK 3 (o ++ [ndR w.n w.m]) + _
      rw [cntK_append, cntK_one]
      have : ((ndR w.n w.m).kind == 3) = false := rfl
      rw [this]
      simpa using i4
theorem Run.inv {s : ByteArray} {a b : Nat} {x y : PS} (h : Run s a x b y) (hi : Inv x) : Inv y := by
  induction h with
  | refl a x => exact hi
  | step ha hb hw he h ih => exact ih (take_inv hi ha hb hw)
/-- What the words are, and what has become of them. -/
structure Cnt (x : PS) (L : List Wd) (y : PS) : Prop where
  ones : cntK 2 y.out = cntK 2 x.out + cntW 1 L
  reps : cntK 4 y.out = cntK 4 x.out + cntW 5 L
  shut : cntK 3 y.out = cntK 3 x.out + cntW 3 L
  opn : y.lv.length + cntW 3 L = x.lv.length + cntW 2 L
  bars : altR y.out + lvR y.lv = altR x.out + lvR x.lv + cntW 4 L
theorem cntW_cons (κ : Int) (w : Wd) (L : List Wd) : cntW κ (w :: L) = cntW κ L + if w.kind = κ then 1 else 0 := by
  unfold cntW
  rw [List.countP_cons]
  simp
theorem Run.words {s : ByteArray} {a b : Nat} {x y : PS} (h : Run s a x b y) (hi : Inv x) : ∃ L, Reads s a L b ∧ Cnt x L y := by
  induction h with
  | refl a x => exact ⟨[], .nil _, rfl, rfl, rfl, rfl, by simp [cntW]⟩
  | @step a e b x y w ha hb hw he h ih =>
    obtain ⟨L, h1, h2, h3, h4, h5, h6⟩ := ih (take_inv hi ha hb hw)
    refine ⟨w :: L, .cons ha hw he h1, ?_⟩
    have ht := took hi.ne ha hb hw
    generalize takeF x w = z at *
    have hk0 := (word_facts ha hw).1
    cases ht with
    | one o p r v g hk hx =>
      subst hx
      simp only [cntK_append, cntK_one, altR_append, lvR, List.map_cons, List.sum_cons, List.length_cons] at h2 h3 h4 h5 h6
      have k2 : ((ndS w.set).kind == 2) = true := rfl
      have k3 : ((ndS w.set).kind == 3) = false := rfl
      have k4 : ((ndS w.set).kind == 4) = false := rfl
      have ka : altR [ndS w.set] = 0 := rfl
      rw [k2] at h2
      rw [k4] at h3
      rw [k3] at h4
      rw [ka] at h6
      simp at h2 h3 h4
      constructor <;> simp only [cntW_cons, hk, lvR, List.map_cons, List.sum_cons, List.length_cons] <;> simp <;> omega
    | opn o v g hk hx =>
      subst hx
      simp only [lvR, List.map_cons, List.sum_cons, List.length_cons] at h2 h3 h4 h5 h6
      constructor <;> simp only [cntW_cons, hk, lvR] <;> simp <;> (simp at h6; omega)
    | shut o p r p' r' v g hk hx =>
      subst hx
      obtain ⟨q1, q2, q3, q4⟩ := rowN_cnt p
      obtain ⟨t1, t2, t3, _⟩ := rowsN_cnt (r + 1)
      have t4 := (rowsN_cnt r).2.2.2
      simp only [cntK_append, cntK_one, altR_append, q1, q2, q3, q4, t1, t2, t3, t4, lvR, List.map_cons, List.sum_cons, List.length_cons] at h2 h3 h4 h5 h6
      have k2 : ((ndG).kind == 2) = false := rfl
      have k3 : ((ndG).kind == 3) = true := rfl
      have k4 : ((ndG).kind == 4) = false := rfl
      have ka : altR [ndG] = 0 := rfl
      rw [k2] at h2
      rw [k4] at h3
      rw [k3] at h4
      rw [ka] at h6
      simp at h2 h3 h4
      constructor <;> simp only [cntW_cons, hk, lvR, List.map_cons, List.sum_cons, List.length_cons] <;> simp <;> omega
    | bar o p r v g hk hx =>
      subst hx
      obtain ⟨q1, q2, q3, q4⟩ := rowN_cnt p
      simp only [cntK_append, altR_append, q1, q2, q3, q4, lvR, List.map_cons, List.sum_cons, List.length_cons] at h2 h3 h4 h5 h6
      constructor <;> simp only [cntW_cons, hk, lvR, List.map_cons, List.sum_cons, List.length_cons] <;> simp <;> omega
    | rep o p r v g hk hx =>
      subst hx
      simp only [cntK_append, cntK_one, altR_append, lvR, List.map_cons, List.sum_cons, List.length_cons] at h2 h3 h4 h5 h6
      have k2 : ((ndR w.n w.m).kind == 2) = false := rfl
      have k3 : ((ndR w.n w.m).kind == 3) = false := rfl
      have k4 : ((ndR w.n w.m).kind == 4) = true := rfl
      have ka : altR [ndR w.n w.m] = 0 := rfl
      rw [k2] at h2
      rw [k4] at h3
      rw [k3] at h4
      rw [ka] at h6
      simp at h2 h3 h4
      constructor <;> simp only [cntW_cons, hk, lvR, List.map_cons, List.sum_cons, List.length_cons] <;> simp <;> omega
/-- What a pattern is read as. -/
structure Parsed (s : ByteArray) (out : List Nd) : Prop where
  right : rightF out = true
  words : ∃ L, Reads s 0 L s.size ∧ cntK 2 out = cntW 1 L ∧ cntK 4 out = cntW 5 L ∧ cntK 3 out = cntW 2 L ∧ cntW 2 L = cntW 3 L ∧ altR out = cntW 4 L
theorem parsed {s : ByteArray} {y : PS} (h : Run s 0 ps0 s.size y) (h1 : ¬ 1 < y.lv.length) : Parsed s (endRows y).out := by
  have hi := h.inv inv0
  obtain ⟨L, hL, c1, c2, c3, c4, c5⟩ := h.words inv0
  obtain ⟨i1, i2, i3, i4, i5⟩ := hi
  obtain ⟨o, lv, g⟩ := y
  cases lv with
  | nil => exact absurd rfl i3
  | cons pr v =>
  cases v with
  | cons q v => simp at h1
  | nil =>
  obtain ⟨p, r⟩ := pr
  simp only at i1 i2 i4 i5
  obtain ⟨e1, κ, K', e2, e3⟩ := rows_end i1 i2
  have hK : K' = [] := e3
  subst hK
  show Parsed s (o ++ rowN p ++ rowsN (r + 1))
  obtain ⟨q1, q2, q3, q4⟩ := rowN_cnt p
  obtain ⟨t1, t2, t3, _⟩ := rowsN_cnt (r + 1)
  have t4 := (rowsN_cnt r).2.2.2
  obtain ⟨hF, hN⟩ := okG_right e1 (by rw [e2]; rfl)
  refine ⟨?_, L, hL, ?_, ?_, ?_, ?_, ?_⟩
  · rw [right_end hF hN, groups_cntK, cntK_append, cntK_append, q1, t1]
    simp at i4
    exact decide_eq_true (by omega)
  · rw [cntK_append, cntK_append, q2, t2]
    have : cntK 2 ps0.out = 0 := rfl
    simp only at c1; omega
  · rw [cntK_append, cntK_append, q3, t3]
    have : cntK 4 ps0.out = 0 := rfl
    simp only at c2; omega
  · rw [cntK_append, cntK_append, q1, t1]
    have : cntK 3 ps0.out = 0 := rfl
    have : ps0.lv.length = 1 := rfl
    simp only [List.length_cons, List.length_nil] at c3 c4; omega
  · have : ps0.lv.length = 1 := rfl
    simp only [List.length_cons, List.length_nil] at c4; omega
  · rw [altR_append, altR_append, q4, t4]
    have e0 : altR ps0.out = 0 := rfl
    have e4 : lvR ps0.lv = 0 := rfl
    simp only [lvR, List.map_cons, List.sum_cons, List.map_nil, List.sum_nil] at c5 e4
    omega
end ParP
end Go.Proofs.YtfcgmgpcbenfpaaGreat
