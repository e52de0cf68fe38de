/- Plain facts: a word of a text that stands behind another text. No program is in sight. -/
import Derived.Test.YtddokdjlmdoebaaLexS
import Derived.Test.YtddokdjlmdoebaaPrtP
set_option linter.unusedVariables false
set_option linter.unusedSimpArgs false
namespace Go.Proofs.Ytddokdjlmdoebaa
open Go.RowKit SetP BrkP
namespace LexP
theorem siz_up (A s : ByteArray) : (A ++ s).size = A.size + s.size := ByteArray.size_append' _ _
theorem ext_up (A s : ByteArray) (a b : Nat) : (A ++ s).extract (A.size + a) (A.size + b) = s.extract a b := by
  refine bytes_ext ?_
  rw [extract_list, extract_list, ByteArray.data_append, Array.toList_append]
  have hl : A.data.toList.length = A.size := by simp
  rw [List.take_append, List.take_of_length_le (by omega), hl, Nat.add_sub_cancel_left, List.drop_append, List.drop_of_length_le (by omega), hl, Nat.add_sub_cancel_left, List.nil_append]
/-- How far a bracket was read, further on. -/
def upS (d : Nat) : Res → Res
  | .go i f => .go (d + i) f
  | .bad e p => .bad e (d + p)
theorem closeF_up (A s : ByteArray) (a j : Nat) (f : Nat → Bool) : closeF (A ++ s) (A.size + a) (A.size + j) f = upS A.size (closeF s a j f) := by
  have z := siz_up A s
  have b1 : bt (A ++ s) (A.size + j + 1) = bt s (j + 1) := bt_app A s (j + 1)
  unfold closeF
  rw [ext_up, b1, z]
  cases clsOf (s.extract a j) with
  | none => rfl
  | some k =>
    simp only
    by_cases h : s.size ≤ j + 1
    · rw [if_pos h, if_pos (by omega)]; rfl
    rw [if_neg h, if_neg (by omega)]
    by_cases h2 : (bt s (j + 1) == 93) = true
    · rw [if_pos h2, if_pos h2]; rfl
    · rw [if_neg h2, if_neg h2]; rfl
theorem classGo_up (A s : ByteArray) (a : Nat) (f : Nat → Bool) (j : Nat) : classGo (A ++ s) (A.size + a) f (A.size + j) = upS A.size (classGo s a f j) := by
  have z := siz_up A s
  induction hn : s.size - j using Nat.strongRecOn generalizing j with
  | _ n ih =>
    by_cases h : s.size ≤ j
    · rw [cg_out h, cg_out (by omega), z]; rfl
    have h' : j < s.size := by omega
    have b0 : bt (A ++ s) (A.size + j) = bt s j := bt_app A s j
    cases hb : bt s j == 58 with
    | true => rw [cg_close h' hb, cg_close (by omega) (by rw [b0]; exact hb), closeF_up]
    | false =>
      have e : (A ++ s).extract (A.size + a) (A.size + j + 1) = s.extract a (j + 1) := ext_up A s a (j + 1)
      cases hg : beginsF (s.extract a (j + 1)) with
      | true =>
        rw [cg_on h' hb hg, cg_on (by omega) (by rw [b0]; exact hb) (by rw [e]; exact hg)]
        exact ih (s.size - (j + 1)) (by omega) (j + 1) rfl
      | false => rw [cg_bad h' hb hg, cg_bad (by omega) (by rw [b0]; exact hb) (by rw [e]; exact hg)]; rfl
theorem spanF_up (A s : ByteArray) (i : Nat) (f : Nat → Bool) (c : UInt8) : spanF (A ++ s) (A.size + i) f c = upS A.size (spanF s i f c) := by
  have z := siz_up A s
  have b1 : bt (A ++ s) (A.size + i + 1) = bt s (i + 1) := bt_app A s (i + 1)
  have b2 : bt (A ++ s) (A.size + i + 2) = bt s (i + 2) := bt_app A s (i + 2)
  have b3 : bt (A ++ s) (A.size + i + 3) = bt s (i + 3) := bt_app A s (i + 3)
  have e3 : decide (A.size + s.size ≤ A.size + i + 3) = decide (s.size ≤ i + 3) := by rw [Bool.eq_iff_iff]; simp; omega
  unfold spanF
  rw [b1, b2, b3, z, e3]
  by_cases h1 : s.size ≤ i + 1
  · rw [if_pos h1, if_pos (by omega)]; rfl
  rw [if_neg h1, if_neg (by omega)]
  by_cases h2 : (bt s (i + 1) != 45) = true
  · rw [if_pos h2, if_pos h2]; rfl
  rw [if_neg h2, if_neg h2]
  by_cases h3 : s.size ≤ i + 2
  · rw [if_pos h3, if_pos (by omega)]; rfl
  rw [if_neg h3, if_neg (by omega)]
  by_cases h4 : (bt s (i + 2) == 93) = true
  · rw [if_pos h4, if_pos h4]; rfl
  rw [if_neg h4, if_neg h4]
  by_cases h5 : (bt s (i + 2)).toNat < c.toNat
  · rw [if_pos h5, if_pos h5]; rfl
  rw [if_neg h5, if_neg h5]
  by_cases h6 : (bt s (i + 2) == 91 && decide (s.size ≤ i + 3)) = true
  · rw [if_pos h6, if_pos h6]; rfl
  rw [if_neg h6, if_neg h6]
  by_cases h7 : (bt s (i + 2) == 91 && marksB (bt s (i + 3))) = true
  · rw [if_pos h7, if_pos h7]; rfl
  rw [if_neg h7, if_neg h7]; rfl
theorem thingF_up (A s : ByteArray) (i : Nat) (f : Nat → Bool) : thingF (A ++ s) (A.size + i) f = upS A.size (thingF s i f) := by
  have z := siz_up A s
  have b0 : bt (A ++ s) (A.size + i) = bt s i := bt_app A s i
  have b1 : bt (A ++ s) (A.size + i + 1) = bt s (i + 1) := bt_app A s (i + 1)
  unfold thingF
  rw [b0, b1, z]
  by_cases h0 : (bt s i == 91) = true
  · rw [if_pos h0, if_pos h0]
    by_cases h1 : s.size ≤ i + 1
    · rw [if_pos h1, if_pos (by omega)]; rfl
    rw [if_neg h1, if_neg (by omega)]
    by_cases h2 : (bt s (i + 1) == 58) = true
    · rw [if_pos h2, if_pos h2]; exact classGo_up A s (i + 2) f (i + 2)
    rw [if_neg h2, if_neg h2]
    by_cases h3 : marksB (bt s (i + 1)) = true
    · rw [if_pos h3, if_pos h3]; rfl
    rw [if_neg h3, if_neg h3]; exact spanF_up A s i f 91
  · rw [if_neg h0, if_neg h0]; exact spanF_up A s i f (bt s i)
theorem loopF_up (A s : ByteArray) (first i : Nat) (f : Nat → Bool) : loopF (A ++ s) (A.size + first) (A.size + i) f = upS A.size (loopF s first i f) := by
  have z := siz_up A s
  induction hn : s.size - i using Nat.strongRecOn generalizing i f with
  | _ n ih =>
    by_cases h : s.size ≤ i
    · rw [lo_out h, lo_out (by omega), z]; rfl
    have h' : i < s.size := by omega
    have b0 : bt (A ++ s) (A.size + i) = bt s i := bt_app A s i
    have ed : decide (A.size + first < A.size + i) = decide (first < i) := by rw [Bool.eq_iff_iff]; simp
    by_cases hb : (bt s i == 93 && decide (first < i)) = true
    · simp only [Bool.and_eq_true, decide_eq_true_eq] at hb
      rw [lo_end h' hb.1 hb.2, lo_end (by omega) (by rw [b0]; exact hb.1) (by omega)]; rfl
    have hb' : (bt s i == 93 && decide (first < i)) = false := by simpa using hb
    rw [loopF_step h' hb', loopF_step (by omega) (by rw [b0, ed]; exact hb'), thingF_up]
    cases ht : thingF s i f with
    | bad e p => rfl
    | go i' f' =>
      have hg := thingF_go ht
      exact ih (s.size - i') (by omega) i' f' rfl
theorem ansOf_up {n : Bool} {r : Res} {g : Nat → Bool} {t d : Nat} (ht : 0 < t) (h : ansOf n r = ⟨g, t, 0, 0⟩) : ansOf n (upS d r) = ⟨g, ((d + t : Nat) : Int), 0, 0⟩ := by
  cases r with
  | bad e p => injection h with h1 h2; omega
  | go i f =>
    injection h with h1 h2
    have hi : i = t := by omega
    subst hi
    unfold upS ansOf
    rw [← h1]
theorem readB_up (A : ByteArray) {s : ByteArray} {a t : Nat} {g : Nat → Bool} (h : readB s a = ⟨g, t, 0, 0⟩) (ht : a < t) : readB (A ++ s) ((A.size + a : Nat) : Int) = ⟨g, ((A.size + t : Nat) : Int), 0, 0⟩ := by
  have z := siz_up A s
  have b0 : bt (A ++ s) (A.size + a) = bt s a := bt_app A s a
  have b1 : bt (A ++ s) (A.size + a + 1) = bt s (a + 1) := bt_app A s (a + 1)
  unfold readB at h ⊢
  by_cases h0 : s.size ≤ a
  · rw [if_pos (Or.inr (by omega))] at h; injection h with h1 h2; omega
  rw [if_neg (by omega), Int.toNat_natCast] at h
  rw [if_neg (by omega), Int.toNat_natCast, b0, b1]
  by_cases h1 : (bt s a != 91) = true
  · rw [if_pos h1] at h; injection h with h1 h2; omega
  rw [if_neg h1] at h ⊢
  by_cases h2 : (bt s (a + 1) == 94) = true
  · rw [if_pos h2] at h ⊢
    have := ansOf_up (d := A.size) (by omega) h
    rw [← loopF_up] at this; exact this
  · rw [if_neg h2] at h ⊢
    have := ansOf_up (d := A.size) (by omega) h
    rw [← loopF_up] at this; exact this
open BraceP in
theorem readF_up (A : ByteArray) {s : ByteArray} {a : Nat} (ha : a < s.size) (hb : isCnt (bt s a) = true) : readF (A ++ s).data.toList ((A.size + a : Nat) : Int) = upR A.size (readF s.data.toList a) := by
  have hd : (A ++ s).data.toList = A.data.toList ++ s.data.toList := by rw [ByteArray.data_append, Array.toList_append]
  have hl : A.data.toList.length = A.size := by simp
  have hz : s.data.toList.length = s.size := by simp
  unfold readF
  rw [if_neg (by omega), if_neg (by omega), hd, Int.toNat_natCast, Int.toNat_natCast, List.drop_append, List.drop_of_length_le (by omega), hl, Nat.add_sub_cancel_left, List.nil_append]
  have hdr : s.data.toList.drop a = bt s a :: s.data.toList.drop (a + 1) := by
    rw [List.drop_eq_getElem_cons (by omega)]
    congr 1
    unfold bt
    rw [List.getD_eq_getElem?_getD, List.getElem?_eq_getElem (by omega)]; rfl
  rw [hdr]
  simp only
  generalize bt s a = b at *
  have e : ((A.size + a : Nat) : Int) + 1 = (a : Int) + 1 + A.size := by omega
  rw [e]
  unfold isCnt at hb
  simp only [Bool.or_eq_true, beq_iff_eq] at hb
  rcases hb with rfl | rfl | rfl | rfl
  · rfl
  · rfl
  · rfl
  · exact rd1_up _ _ _ _ _
/-- A word further on. -/
def upW (d : Nat) (w : Wd) : Wd := ⟨w.kind, w.at_ + d, w.stop + d, w.set, w.n, w.m⟩
theorem oneA_up {f : Nat → Bool} {a d : Nat} {e : Int} {w : Wd} (h : oneA f (a : Int) e = ⟨w, 0, 0⟩) (e' : Int) (he : e' = e + d) : oneA f ((d + a : Nat) : Int) e' = ⟨upW d w, 0, 0⟩ := by
  injection h with h1
  subst h1 he
  unfold oneA upW
  rw [show ((d + a : Nat) : Int) = (a : Int) + d by omega]
theorem signA_up {k : Int} {a d : Nat} {w : Wd} (h : signA k (a : Int) = ⟨w, 0, 0⟩) : signA k ((d + a : Nat) : Int) = ⟨upW d w, 0, 0⟩ := by
  injection h with h1
  subst h1
  unfold signA upW
  rw [show ((d + a : Nat) : Int) + 1 = (a : Int) + 1 + d by omega, show ((d + a : Nat) : Int) = (a : Int) + d by omega]
theorem badA_no {e p : Int} {w : Wd} (h : badA e p = ⟨w, 0, 0⟩) : e = 0 := by injection h
theorem nextW_up (A : ByteArray) {s : ByteArray} {a : Nat} {w : Wd} (ha : a < s.size) (h : nextW s a = ⟨w, 0, 0⟩) : nextW (A ++ s) ((A.size + a : Nat) : Int) = ⟨upW A.size w, 0, 0⟩ := by
  have z := siz_up A s
  have b0 : bt (A ++ s) (A.size + a) = bt s a := bt_app A s a
  have b1 : bt (A ++ s) (A.size + a + 1) = bt s (a + 1) := bt_app A s (a + 1)
  rw [nextW_in ha] at h
  rw [nextW_in (by omega), b0]
  have hF := fun hb => readF_up A ha (s := s) hb
  have hB := fun (g : Nat → Bool) (t : Nat) (h : readB s a = ⟨g, t, 0, 0⟩) (ht : a < t) => readB_up A h ht
  generalize bt s a = b at *
  unfold wordB at h ⊢
  by_cases c1 : (b == 40) = true
  · rw [if_pos c1] at h ⊢; exact signA_up h
  rw [if_neg c1] at h ⊢
  by_cases c2 : (b == 41) = true
  · rw [if_pos c2] at h ⊢; exact signA_up h
  rw [if_neg c2] at h ⊢
  by_cases c3 : (b == 124) = true
  · rw [if_pos c3] at h ⊢; exact signA_up h
  rw [if_neg c3] at h ⊢
  by_cases c4 : isCnt b = true
  · rw [if_pos c4] at h ⊢
    rw [hF c4]
    generalize BraceP.readF s.data.toList a = r at h
    obtain ⟨r1, r2, r3, r4, r5⟩ := r
    unfold cntA at h
    split at h
    · rename_i h4
      simp only at h4
      subst h4
      injection h with h1
      subst h1
      unfold upR cntA upW
      simp only [if_true]
      rw [show ((A.size + a : Nat) : Int) = (a : Int) + A.size by omega]
    · rename_i h4
      exact absurd (badA_no h) h4
  rw [if_neg c4] at h ⊢
  by_cases c5 : (b == 91) = true
  · rw [if_pos c5] at h ⊢
    rcases readB_cases s a with ⟨f, t, hr, hlo, ht, hi0⟩ | ⟨hr, hpos⟩ | ⟨er, t, he, hr, hlo, ht, hi0⟩ | hr
    · rw [hB f t hr (by omega)]
      rw [hr] at h
      exact oneA_up (e := (t : Int)) h ((A.size + t : Nat) : Int) (by omega)
    · rw [hr] at h
      exact absurd (badA_no (e := 2) h) (by decide)
    · rw [hr] at h
      rcases he with rfl | rfl | rfl
      · exact absurd (badA_no (e := 3) h) (by decide)
      · exact absurd (badA_no (e := 4) h) (by decide)
      · exact absurd (badA_no (e := 5) h) (by decide)
    · rw [hr] at h
      exact absurd (badA_no (e := 1) h) (by decide)
  rw [if_neg c5] at h ⊢
  by_cases c6 : (b == 46) = true
  · rw [if_pos c6] at h ⊢; exact oneA_up h _ (by omega)
  rw [if_neg c6] at h ⊢
  by_cases c7 : (b == 92) = true
  · rw [if_pos c7] at h ⊢
    unfold escA at h ⊢
    rw [b1, z]
    by_cases h1 : s.size ≤ a + 1
    · rw [if_pos h1] at h; exact absurd (badA_no h) (by decide)
    rw [if_neg h1] at h
    rw [if_neg (by omega)]
    by_cases h2 : escB (bt s (a + 1)) = true
    · rw [if_pos h2] at h ⊢; exact oneA_up h _ (by omega)
    · rw [if_neg h2] at h; exact absurd (badA_no h) (by decide)
  rw [if_neg c7] at h ⊢
  by_cases c8 : (b == 94 || b == 36) = true
  · rw [if_pos c8] at h; exact absurd (badA_no h) (by decide)
  rw [if_neg c8] at h ⊢
  exact oneA_up h _ (by omega)
end LexP
end Go.Proofs.Ytddokdjlmdoebaa

/- Plain facts: a pattern in parentheses, and two patterns with a bar between. No program is in sight. -/
namespace Go.Proofs.Ytddokdjlmdoebaa
open Go.RowKit SetP BrkP LexP AstP
namespace ParP
/-- The levels of a pattern that stands within another one: r0 rows are ahead of it, v0 is around it. -/
def embL (r0 : Nat) (v0 : List (Nat × Nat)) : List (Nat × Nat) → List (Nat × Nat)
  | [] => v0
  | [(p, r)] => (p, r0 + r) :: v0
  | x :: y :: v => x :: embL r0 v0 (y :: v)
def emb (o0 : List Nd) (r0 : Nat) (v0 : List (Nat × Nat)) (g0 : Nat) (x : PS) : PS := ⟨o0 ++ x.out, embL r0 v0 x.lv, g0 + x.groups⟩
theorem embL_cons (r0 : Nat) (v0 : List (Nat × Nat)) (p r : Nat) (v : List (Nat × Nat)) : ∃ k w, (∀ p r, embL r0 v0 ((p, r) :: v) = (p, k + r) :: w) ∧ v.length + 1 ≤ (embL r0 v0 ((p, r) :: v)).length := by
  cases v with
  | nil => exact ⟨r0, v0, fun p r => rfl, by simp [embL]⟩
  | cons q v =>
    have key : ∀ (v : List (Nat × Nat)) (q : Nat × Nat), v.length + 1 ≤ (embL r0 v0 (q :: v)).length := by
      intro v
      induction v with
      | nil => intro q; obtain ⟨a, b⟩ := q; simp [embL]
      | cons u v ih => intro q; have := ih u; simp only [embL, List.length_cons] at this ⊢; omega
    exact ⟨0, embL r0 v0 (q :: v), fun p r => by simp [embL], by have := key v q; simp only [embL, List.length_cons] at this ⊢; omega⟩
theorem gr_mono {s : ByteArray} {a b : Nat} {x y : PS} (h : Run s a x b y) (hi : Inv x) : x.groups ≤ y.groups := by
  induction h with
  | refl a x => exact Nat.le_refl _
  | step ha hb hw he h ih =>
    have ht := took hi.ne ha hb hw
    have := ih (take_inv hi ha hb hw)
    refine Nat.le_trans ?_ this
    generalize takeF _ _ = z at ht
    cases ht with
    | one o p r v g hk hx => subst hx; exact Nat.le_refl _
    | opn o v g hk hx => subst hx; exact Nat.le_succ _
    | shut o p r p' r' v g hk hx => subst hx; exact Nat.le_refl _
    | bar o p r v g hk hx => subst hx; exact Nat.le_refl _
    | rep o p r v g hk hx => subst hx; exact Nat.le_refl _
theorem takeF_up (d : Nat) (x : PS) (w : Wd) : takeF x (upW d w) = takeF x w := rfl
theorem emb_take {o0 : List Nd} {r0 : Nat} {v0 : List (Nat × Nat)} {g0 : Nat} {x y : PS} {w : Wd} (hne : x.lv ≠ []) (h : Took x w y) : takeF (emb o0 r0 v0 g0 x) w = emb o0 r0 v0 g0 y := by
  cases h with
  | one o p r v g hk hx =>
    subst hx
    obtain ⟨k, u, e, _⟩ := embL_cons r0 v0 p r v
    unfold takeF emb
    rw [if_pos (by rw [hk]; rfl)]
    simp only [putN, e, addP, List.append_assoc]
  | opn o v g hk hx =>
    subst hx
    unfold takeF emb
    rw [if_neg (by rw [hk]; decide), if_pos (by rw [hk]; rfl)]
    cases v with
    | nil => exact absurd rfl hne
    | cons q v => rfl
  | shut o p r p' r' v g hk hx =>
    subst hx
    obtain ⟨k, u, e, _⟩ := embL_cons r0 v0 p' r' v
    unfold takeF emb
    rw [if_neg (by rw [hk]; decide), if_neg (by rw [hk]; decide), if_pos (by rw [hk]; rfl)]
    simp only [embL, e, endRows, putN, addP, List.append_assoc]
  | bar o p r v g hk hx =>
    subst hx
    obtain ⟨k, u, e, _⟩ := embL_cons r0 v0 p r v
    unfold takeF emb
    rw [if_neg (by rw [hk]; decide), if_neg (by rw [hk]; decide), if_neg (by rw [hk]; decide), if_pos (by rw [hk]; rfl)]
    simp only [e, endRow, List.append_assoc, Nat.add_assoc]
  | rep o p r v g hk hx =>
    subst hx
    obtain ⟨k, u, e, _⟩ := embL_cons r0 v0 (p + 1) r v
    unfold takeF emb
    rw [if_neg (by rw [hk]; decide), if_neg (by rw [hk]; decide), if_neg (by rw [hk]; decide), if_neg (by rw [hk]; decide), if_pos (by rw [hk]; rfl)]
    simp only [putN, List.append_assoc]
theorem bar_emb {o0 : List Nd} {r0 : Nat} {v0 : List (Nat × Nat)} {g0 : Nat} {x : PS} {b : UInt8} (hne : x.lv ≠ []) (h : barF x b = 0) (hg : b = 40 → g0 + x.groups ≠ 9) : barF (emb o0 r0 v0 g0 x) b = 0 := by
  obtain ⟨b1, b2, b3⟩ := bar_no h
  obtain ⟨o, lv, g⟩ := x
  cases lv with
  | nil => exact absurd rfl hne
  | cons pr v =>
  obtain ⟨p, r⟩ := pr
  obtain ⟨k, u, e, hl⟩ := embL_cons r0 v0 p r v
  unfold barF
  by_cases c1 : isCnt b = true
  · rw [if_pos c1, if_neg]
    have := b1 c1
    unfold topP emb
    simp only [e]
    exact this
  rw [if_neg c1]
  by_cases c2 : (b == 41) = true
  · rw [if_pos c2, if_neg]
    have h2 := b2 (by simpa using c2)
    simp only [List.length_cons] at h2
    show ¬ (embL r0 v0 ((p, r) :: v)).length = 1
    omega
  rw [if_neg c2]
  by_cases c3 : (b == 40) = true
  · rw [if_pos c3]
    have h3 := hg (by simpa using c3)
    exact if_neg h3
  · rw [if_neg c3]
/-- What is read of a text is read of it within another one. -/
theorem Run.emb {s : ByteArray} {a b : Nat} {x y : PS} (h : Run s a x b y) (hi : Inv x) (A B : ByteArray) (o0 : List Nd) (r0 : Nat) (v0 : List (Nat × Nat)) (g0 : Nat) (hg : g0 + y.groups ≤ 9) :
    Run (A ++ s ++ B) (A.size + a) (emb o0 r0 v0 g0 x) (A.size + b) (emb o0 r0 v0 g0 y) := by
  induction h with
  | refl a x => exact .refl _ _
  | @step a e b x y w ha hb hw he h ih =>
    have hi' := take_inv hi ha hb hw
    have ht := took hi.ne ha hb hw
    have hm := gr_mono h hi'
    have hz : (A ++ s).size = A.size + s.size := siz_up A s
    have hb0 : bt (A ++ s ++ B) (A.size + a) = bt s a := by rw [LexP.bt_left (by omega)]; exact bt_app A s a
    have hn : nextW (A ++ s ++ B) ((A.size + a : Nat) : Int) = ⟨upW A.size w, 0, 0⟩ := by
      have h1 := nextW_up A ha hw
      rw [nextW_app B (by omega) (by rw [h1]; show ¬ (0 : Int) = 2; decide), h1]
    have hbar : barF (ParP.emb o0 r0 v0 g0 x) (bt (A ++ s ++ B) (A.size + a)) = 0 := by
      rw [hb0]
      refine bar_emb hi.ne hb fun h40 => ?_
      have hk := (byte_kind ha hw).2.2 h40
      have : (takeF x w).groups = x.groups + 1 := by
        unfold takeF
        rw [if_neg (by rw [hk]; decide), if_pos (by rw [hk]; rfl)]
      omega
    have hstop : (upW A.size w).stop = ((A.size + e : Nat) : Int) := by unfold upW; simp only; omega
    refine .step (by rw [ByteArray.size_append']; omega) hbar hn hstop ?_
    rw [takeF_up, emb_take hi.ne ht]
    exact ih hi' hg
theorem groups_end {s : ByteArray} {y : PS} (h : Run s 0 ps0 s.size y) (h1 : ¬ 1 < y.lv.length) : ∃ o p r g, y = ⟨o, [(p, r)], g⟩ ∧ g = cntK 3 (o ++ rowN p ++ rowsN (r + 1)) := by
  have hi := h.inv inv0
  obtain ⟨i1, i2, i3, i4, i5⟩ := hi
  obtain ⟨o, lv, g⟩ := y
  cases lv with
  | nil => exact absurd rfl i3
  | cons pr v =>
  cases v with
  | cons q v => simp at h1
  | nil =>
  obtain ⟨p, r⟩ := pr
  refine ⟨o, p, r, g, rfl, ?_⟩
  rw [cntK_append, cntK_append, (rowN_cnt p).1, (rowsN_cnt (r + 1)).1]
  simp only [List.length_cons, List.length_nil] at i4
  omega
theorem ok_run {s : ByteArray} {L : List Nd} {k : Int} (h : parseF s = (L, 0, k)) : ∃ o p r, Run s 0 ps0 s.size ⟨o, [(p, r)], cntK 3 L⟩ ∧ L = o ++ rowN p ++ rowsN (r + 1) := by
  cases outs s with
  | ok y hr h1 e =>
    obtain ⟨o, p, r, g, hy, hg⟩ := groups_end hr h1
    subst hy
    rw [e] at h
    have hL : (endRows ⟨o, [(p, r)], g⟩).out = L := congrArg (fun x : List Nd × Int × Int => x.1) h
    have hL' : o ++ rowN p ++ rowsN (r + 1) = L := hL
    rw [hL'] at hg
    subst hg
    exact ⟨o, p, r, hr, hL'.symm⟩
  | open_ y hr h1 e => rw [e] at h; injection h with h1 h2; injection h2 with h3; exact absurd h3 (by decide)
  | short b y hr hb h0 h2 e => rw [e] at h; injection h with h1 h2; injection h2 with h3; exact absurd h3 (by decide)
  | bar b y hr hb h0 e => rw [e] at h; injection h with h1 h2; injection h2 with h3; exact absurd h3 h0
  | bad b y hr hb h0 er p he hp hp2 h2 e => rw [e] at h; injection h with h1 h2; injection h2 with h3; omega
theorem sign_word {t : ByteArray} {a : Nat} {b : UInt8} {k : Int} (ha : a < t.size) (hb : bt t a = b) (hs : wordB t a b = signA k a) : nextW t a = ⟨⟨k, a, (a : Int) + 1, noSet, 0, 0⟩, 0, 0⟩ := by
  rw [nextW_in ha, hb, hs]; rfl
theorem parse_end {t : ByteArray} {y : PS} (h : Run t 0 ps0 t.size y) (h1 : ¬ 1 < y.lv.length) : parseF t = ((endRows y).out, 0, 0) := by
  show parseR t.size (readGo t 0 ps0) = _
  rw [h.go, readGo_end (Nat.le_refl _)]
  show (if 1 < y.lv.length then _ else _) = _
  rw [if_neg h1]
/-- In parentheses a pattern's tree is in a Group. -/
theorem parse_group {s : ByteArray} {L : List Nd} {k : Int} (h : parseF s = (L, 0, k)) (h8 : cntK 3 L ≤ 8) : parseF ((⟨#[40]⟩ : ByteArray) ++ s ++ ⟨#[41]⟩) = (L ++ [ndG], 0, 0) := by
  obtain ⟨o, p, r, hr, hL⟩ := ok_run h
  have hA : (⟨#[40]⟩ : ByteArray).size = 1 := rfl
  have hB : (⟨#[41]⟩ : ByteArray).size = 1 := rfl
  generalize hg : cntK 3 L = g at *
  have h1 := hr.emb inv0 ⟨#[40]⟩ ⟨#[41]⟩ [] 0 [(0, 0)] 1 (by show 1 + g ≤ 9; omega)
  have z1 := siz_up (⟨#[40]⟩ : ByteArray) s
  have z2 := siz_up ((⟨#[40]⟩ : ByteArray) ++ s) ⟨#[41]⟩
  rw [hA] at h1 z1
  rw [hB] at z2
  have c0 : bt ((⟨#[40]⟩ : ByteArray) ++ s ++ ⟨#[41]⟩) 0 = 40 := by
    rw [LexP.bt_left (by omega), LexP.bt_left (by omega)]; rfl
  have c1 : bt ((⟨#[40]⟩ : ByteArray) ++ s ++ ⟨#[41]⟩) (1 + s.size) = 41 := by
    have := bt_app ((⟨#[40]⟩ : ByteArray) ++ s) ⟨#[41]⟩ 0
    rw [z1] at this
    exact this
  generalize (⟨#[40]⟩ : ByteArray) ++ s ++ ⟨#[41]⟩ = t at *
  have w0 := sign_word (t := t) (a := 0) (k := 2) (by omega) c0 rfl
  have w1 := sign_word (t := t) (a := 1 + s.size) (k := 3) (by omega) c1 rfl
  have h2 : Run t (1 + s.size) (emb [] 0 [(0, 0)] 1 ⟨o, [(p, r)], g⟩) t.size ⟨L ++ [ndG], [(1, 0)], 1 + g⟩ := by
    refine .step (e := t.size) (by omega) (by rw [c1]; rfl) w1 (by show ((1 + s.size : Nat) : Int) + 1 = _; omega) ?_
    have e : takeF (emb [] 0 [(0, 0)] 1 ⟨o, [(p, r)], g⟩) ⟨3, ((1 + s.size : Nat) : Int), ((1 + s.size : Nat) : Int) + 1, noSet, 0, 0⟩ = ⟨L ++ [ndG], [(1, 0)], 1 + g⟩ := by
      show (⟨[] ++ o ++ rowN p ++ rowsN (0 + r + 1) ++ [ndG], [(0 + 1, 0)], 1 + g⟩ : PS) = _
      rw [List.nil_append, Nat.zero_add, ← hL]
    rw [e]; exact .refl _ _
  have h3 : Run t 0 ps0 t.size ⟨L ++ [ndG], [(1, 0)], 1 + g⟩ := by
    refine .step (e := 1) (by omega) (by rw [c0]; rfl) w0 (by rfl) ?_
    exact h1.trans h2
  rw [parse_end h3 (by simp)]
  show (L ++ [ndG] ++ rowN 1 ++ rowsN 1, _) = _
  simp [rowN, rowsN]
theorem last_noAlt {o : List Nd} {p r : Nat} {L : List Nd} (hL : L = o ++ rowN p ++ rowsN (r + 1)) (h6 : kindAt L (L.length - 1) ≠ 6) : r = 0 := by
  rcases Nat.eq_zero_or_pos r with h | h
  · exact h
  · exfalso
    apply h6
    have : rowsN (r + 1) = [ndA (r + 1)] := by unfold rowsN; rw [if_pos (by omega)]
    rw [this] at hL
    subst hL
    unfold kindAt
    rw [List.length_append, List.length_singleton, Nat.add_sub_cancel, last_get]; rfl
/-- Of two patterns with a bar between the tree is theirs, in an Alt. -/
theorem parse_two {s u : ByteArray} {L M : List Nd} {k k' : Int} (h : parseF s = (L, 0, k)) (h' : parseF u = (M, 0, k')) (h8 : cntK 3 L + cntK 3 M ≤ 9) (h6 : kindAt L (L.length - 1) ≠ 6) (h6' : kindAt M (M.length - 1) ≠ 6) :
    parseF (s ++ (⟨#[124]⟩ : ByteArray) ++ u) = (L ++ M ++ [ndA 2], 0, 0) := by
  obtain ⟨o, p, r, hr, hL⟩ := ok_run h
  obtain ⟨o', p', r', hr', hL'⟩ := ok_run h'
  have r0 := last_noAlt hL h6
  have r0' := last_noAlt hL' h6'
  subst r0 r0'
  have eL : L = o ++ rowN p := by rw [hL]; simp [rowsN]
  have eM : M = o' ++ rowN p' := by rw [hL']; simp [rowsN]
  have hB : (⟨#[124]⟩ : ByteArray).size = 1 := rfl
  have hE : (⟨#[]⟩ : ByteArray).size = 0 := rfl
  generalize hg : cntK 3 L = g at *
  generalize hg' : cntK 3 M = g' at *
  have h1 := hr.emb inv0 ⟨#[]⟩ ((⟨#[124]⟩ : ByteArray) ++ u) [] 0 [] 0 (by show 0 + g ≤ 9; omega)
  have h2 := hr'.emb inv0 (s ++ (⟨#[124]⟩ : ByteArray)) ⟨#[]⟩ L 1 [] g (by show g + g' ≤ 9; omega)
  have z1 := siz_up s (⟨#[124]⟩ : ByteArray)
  have z2 := siz_up (s ++ (⟨#[124]⟩ : ByteArray)) u
  have ea : (⟨#[]⟩ : ByteArray) ++ s ++ ((⟨#[124]⟩ : ByteArray) ++ u) = s ++ (⟨#[124]⟩ : ByteArray) ++ u := bytes_ext (by simp [ByteArray.data_append])
  have eb : s ++ (⟨#[124]⟩ : ByteArray) ++ u ++ (⟨#[]⟩ : ByteArray) = s ++ (⟨#[124]⟩ : ByteArray) ++ u := bytes_ext (by simp [ByteArray.data_append])
  rw [ea, hE] at h1
  rw [eb] at h2
  rw [hB] at z1
  rw [z1] at h2 z2
  have c1 : bt (s ++ (⟨#[124]⟩ : ByteArray) ++ u) s.size = 124 := by
    rw [LexP.bt_left (by omega)]
    exact bt_app s ⟨#[124]⟩ 0
  generalize s ++ (⟨#[124]⟩ : ByteArray) ++ u = t at *
  have w1 := sign_word (t := t) (a := s.size) (k := 4) (by omega) c1 rfl
  rw [Nat.zero_add, Nat.zero_add] at h1
  have e0 : emb [] 0 [] 0 ps0 = ps0 := rfl
  have e1 : emb [] 0 [] 0 ⟨o, [(p, 0)], g⟩ = ⟨o, [(p, 0)], g⟩ := by
    show (⟨[] ++ o, [(p, 0 + 0)], 0 + g⟩ : PS) = _
    simp only [List.nil_append, Nat.zero_add]
  rw [e0, e1] at h1
  have h3 : Run t s.size ⟨o, [(p, 0)], g⟩ (s.size + 1) (emb L 1 [] g ps0) := by
    refine .step (e := s.size + 1) (by omega) (by rw [c1]; rfl) w1 (by show ((s.size : Nat) : Int) + 1 = _; omega) ?_
    have e : takeF ⟨o, [(p, 0)], g⟩ ⟨4, (s.size : Int), (s.size : Int) + 1, noSet, 0, 0⟩ = emb L 1 [] g ps0 := by
      show (⟨o ++ rowN p, [(0, 0 + 1)], g⟩ : PS) = ⟨L ++ [], [(0, 1 + 0)], g + 0⟩
      rw [← eL, List.append_nil, Nat.zero_add, Nat.add_zero]
    rw [e]; exact .refl _ _
  have h4 := (h1.trans h3).trans h2
  rw [← z2] at h4
  rw [parse_end h4 (by show ¬ 1 < 1; decide)]
  show (L ++ o' ++ rowN p' ++ rowsN (1 + 0 + 1), _) = _
  rw [eM]
  simp [rowsN, List.append_assoc]
end ParP
end Go.Proofs.Ytddokdjlmdoebaa
