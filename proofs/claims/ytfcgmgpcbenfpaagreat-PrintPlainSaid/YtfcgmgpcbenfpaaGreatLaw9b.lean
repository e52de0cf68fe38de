/- PrintPlain, walked. -/
import Derived.Test.YtfcgmgpcbenfpaaGreatProg
import Derived.WalkKit
import Derived.WalkSpells
import Derived.WalkLawsBesides
import Derived.Handy
import Derived.Lib.Hide
import Derived.Test.YtfcgmgpcbenfpaaGreatMPrt
set_option linter.unusedVariables false
set_option linter.unusedSimpArgs false
namespace Go.Proofs.YtfcgmgpcbenfpaaGreat
open Go.RowKit SetP BrkP LexP AstP ParP
theorem parse_len (s : ByteArray) : (parseF s).1.length ≤ 3 * s.size + 2 := by
  rcases read7 s with ⟨y, h, hb⟩ | ⟨er, p, h, h0⟩
  · have hp : parseF s = if 1 < y.lv.length then ([], 2, (s.size : Int)) else ((endRows y).out, 0, 0) := by unfold parseF; rw [h]; rfl
    rw [hp]
    split
    · simp
    · obtain ⟨o, lv, G⟩ := y
      have ho := hb.out
      cases lv with
      | nil => exact absurd rfl hb.ne
      | cons pr v =>
      obtain ⟨p, r⟩ := pr
      have l1 := rowN_le p
      have l2 := rowsN_le (r + 1)
      show (o ++ rowN p ++ rowsN (r + 1)).length ≤ _
      rw [List.length_append, List.length_append]
      simp only at ho
      omega
  · rw [(parse_bad7 h).1]; simp
/-- How many words the text of nodes has. -/
def wc (l : List Nd) : Int := (cntK 2 l : Int) + (cntK 4 l : Int) + 2 * (cntK 3 l : Int) + altR l
theorem wc_append (l m : List Nd) : wc (l ++ m) = wc l + wc m := by
  unfold wc
  rw [cntK_append, cntK_append, cntK_append, altR_append]; omega
theorem wc_kids (ks : List Nat) (f : Nat → List Wd) (g : Nat → List Nd) (h : ∀ j ∈ ks, ((f j).length : Int) = wc (g j)) :
    (((ks.map f).flatten).length : Int) = wc (ks.map g).flatten ∧ ((barsW (ks.map f)).length : Int) = wc (ks.map g).flatten + ((ks.length - 1 : Nat) : Int) := by
  induction ks with
  | nil => exact ⟨rfl, rfl⟩
  | cons j ks ih =>
    have h1 := h j (by simp)
    obtain ⟨i1, i2⟩ := ih fun k hk => h k (by simp [hk])
    have e : ((j :: ks).map g).flatten = g j ++ (ks.map g).flatten := rfl
    rw [e, wc_append]
    refine ⟨by simp only [List.map_cons, List.flatten_cons, List.length_append]; omega, ?_⟩
    cases ks with
    | nil =>
      have : (barsW ([j].map f)) = f j := rfl
      have e2 : wc (([] : List Nat).map g).flatten = 0 := rfl
      rw [this, e2]
      simp; omega
    | cons k ks =>
      have e2 : barsW ((j :: k :: ks).map f) = f j ++ wBar :: barsW ((k :: ks).map f) := rfl
      rw [e2, List.length_append, List.length_cons]
      simp only [List.length_cons] at i2 ⊢
      omega
theorem words_wc {L : List Nd} (hF : formedF L = true) (hok : ∀ j, j < L.length → nodeOk L j = true) (k : Nat) (hk : k < L.length) : ((wordsAt L k).length : Int) = wc (nodesAt L k) := by
  revert hk
  induction k using Nat.strongRecOn with
  | _ k ih =>
    intro hk
    have hkl := kidsF_length hF hk
    obtain ⟨ha, _⟩ := nodeOk_parts (hok k hk)
    have eW : wordsAt L k = wordsN k (L.getD k ndEmpty) ((kidsF L (k : Int)).map (wordsAt L)) := val_kids wordsN hF hk
    rw [nodes_last hF hk, eW, wc_append]
    obtain ⟨w1, w2⟩ := wc_kids (kidsF L (k : Int)) (wordsAt L) (nodesAt L) fun j hj => ih j (kidsF_lt hF hk hj) (Nat.lt_trans (kidsF_lt hF hk hj) hk)
    generalize kidsF L (k : Int) = ks at *
    generalize L.getD k ndEmpty = x at *
    obtain ⟨FL, hFL⟩ : ∃ F, (ks.map (wordsAt L)).flatten = F := ⟨_, rfl⟩
    obtain ⟨BW, hBW⟩ : ∃ F, barsW (ks.map (wordsAt L)) = F := ⟨_, rfl⟩
    obtain ⟨NL, hNL⟩ : ∃ F, (ks.map (nodesAt L)).flatten = F := ⟨_, rfl⟩
    rw [hFL, hNL] at w1
    rw [hBW, hNL] at w2
    rw [hNL]
    have hx : wc [x] = (if x.kind == 2 then 1 else 0) + (if x.kind == 4 then 1 else 0) + 2 * (if x.kind == 3 then 1 else 0) + (if x.kind == 6 then x.kids - 1 else 0) := by
      unfold wc altR
      rw [cntK_one, cntK_one, cntK_one]
      simp only [List.map_cons, List.map_nil, List.sum_cons, List.sum_nil]
      repeat' split
      all_goals simp
    rw [hx]
    have hw : ((wordsN k x (ks.map (wordsAt L))).length : Int) = if x.kind == 2 then 1 else if x.kind == 3 then (FL.length : Int) + 2 else if x.kind == 4 then (FL.length : Int) + 1 else if x.kind == 6 then (BW.length : Int) else (FL.length : Int) := by
      unfold wordsN
      split
      · rfl
      split
      · rw [hFL]; simp; omega
      split
      · rw [hFL]; simp
      split
      · rw [hBW]
      · rw [hFL]
    rw [hw]
    clear hw
    cases nodeIs ha with
    | empty hk1 hn1 h1 => rw [hk1]; simp; omega
    | set hk1 hn1 h1 =>
      have e0 : ks = [] := List.eq_nil_of_length_eq_zero (by rw [hkl, hn1]; rfl)
      subst e0
      have hz : wc NL = 0 := by rw [← hNL]; rfl
      rw [hk1, hz]; simp
    | group hk1 hn1 h1 => rw [hk1]; simp; omega
    | rep hk1 hn1 hr h1 => rw [hk1]; simp; omega
    | cat hk1 m hn1 h2 h1 => rw [hk1]; simp; omega
    | alt hk1 m hn1 h2 h1 =>
      rw [hk1]
      simp
      rw [hn1] at hkl ⊢
      have : ks.length = m := by omega
      omega
theorem cntW_all (L : List Wd) (h : ∀ w ∈ L, 1 ≤ w.kind ∧ w.kind ≤ 5) : cntW 1 L + cntW 2 L + cntW 3 L + cntW 4 L + cntW 5 L = L.length := by
  induction L with
  | nil => rfl
  | cons w L ih =>
    have h1 := h w (by simp)
    have h2 := ih fun v hv => h v (by simp [hv])
    simp only [cntW_cons, List.length_cons]
    have : w.kind = 1 ∨ w.kind = 2 ∨ w.kind = 3 ∨ w.kind = 4 ∨ w.kind = 5 := by omega
    rcases this with e | e | e | e | e <;> rw [e] <;> simp <;> omega
/-- The text of what is parsed is not too long. -/
theorem plain_len {s : ByteArray} {L : List Nd} {k : Int} (h : parseF s = (L, 0, k)) : (textAt L (L.length - 1)).length ≤ 1000 * s.size := by
  cases outs s with
  | ok y hr h1 e =>
    rw [e] at h
    have hL : (endRows y).out = L := congrArg (fun x : List Nd × Int × Int => x.1) h
    have hp := parsed hr h1
    rw [hL] at hp
    obtain ⟨hR, W, hW, c1, c2, c3, c4, c5⟩ := hp
    obtain ⟨hF, hok, _⟩ := right_parts hR
    have hrt := root_size hF
    have hw := words_wc hF hok (L.length - 1) (by omega)
    rw [nodes_root hF] at hw
    unfold wc at hw
    have hall := cntW_all W fun w hw => (hW.ok w hw).kind
    have hle := hW.le.2.1
    rw [← words_text hF (by omega)]
    have := catT_le (wordsAt L (L.length - 1))
    have hlen : (wordsAt L (L.length - 1)).length ≤ s.size := by omega
    omega
  | open_ y hr h1 e => rw [e] at h; injection h with h1 h2; injection h2 with h3; exact absurd h3 (by decide)
  | short b y hr hb h0 h2 e => rw [e] at h; injection h with h1 h2; injection h2 with h3; exact absurd h3 (by decide)
  | bar b y hr hb h0 e => rw [e] at h; injection h with h1 h2; injection h2 with h3; exact absurd h3 h0
  | bad b y hr hb h0 er p he hp hp2 h2 e => rw [e] at h; injection h with h1 h2; injection h2 with h3; omega
set_option maxRecDepth 100000 in
set_option maxHeartbeats 2000000 in
theorem pplain_of (s : ByteArray) (L : List Nd) (hr : rightF L = true) (hlen : L.length ≤ 90000) (hl : (textAt L (L.length - 1)).length ≤ 100000000) (w : World) (C : Calls Tryz.prog 24 #[.string s] w (RetParse (L, 0, 0) w)) :
    Calls Tryz.prog 21 #[.string s] w fun e w' => e = .returned (.tuple #[.string ⟨(textAt L (L.length - 1)).toArray⟩, .int .i64 0, .int .i64 0]) ∧ Below w.heap.size w w' := by
  have hpos := (root_size (right_parts hr).1).1
  have C2 := fun A c w1 hN1 => prtext_any A c L hr (by omega) (L.length - 1) (by omega) hl w1 hN1
  generalize textAt L (L.length - 1) = T at *
  have hc : (((L.length - 1 : Nat)) : Int) = (L.length : Int) - 1 := by omega
  simp only [hc] at C2
  clear hc hl hr
  go_enter Tryz.func21, Tryz.ntmps21
  go_wp2_with fail
  refine C.mono ?_
  rintro e1 w1 ⟨A, c, rfl, hown, hb1⟩
  have C3 := C2 A c w1 (NodesAt.of_row hown rfl (by simp only; omega))
  have HB1 := Lib.hid hb1
  clear C C2 hown hb1
  go_wp2_with fail
  refine C3.mono ?_
  rintro e2 w2 ⟨rfl, hb2⟩
  go_wp2
  refine bodyPost_ret (v := .tuple #[.string ⟨T.toArray⟩, .int .i64 0, .int .i64 0]) (by simp [results, Tryz.results21, go_sem]) rfl ⟨rfl, below_then HB1.out hb2⟩
set_option maxRecDepth 100000 in
set_option maxHeartbeats 2000000 in
theorem plain9_any (s : ByteArray) (w : World) : Calls Tryz.prog 6 #[.string s] w fun e w' => e = .returned (.bool true) ∧ Below w.heap.size w w' := by
  by_cases h : 200 < (s.size : Int)
  · have e : decide (200 < (s.size : Int)) = true := by simpa using h
    go_enter Tryz.func6, Tryz.ntmps6
    go_wp2_with fail
    refine (sure9_any _).mono ?_
    rintro e1 w1 ⟨rfl, hb1⟩
    go_wp2
    go_ret
    exact ⟨rfl, hb1⟩
  have e : decide (200 < (s.size : Int)) = false := by simpa using h
  have hsz : s.size ≤ 200 := by omega
  clear h
  have hlen := parse_len s
  have C1 := pplain_any s (by omega) (by omega)
  have C2 := rplain_any s (by omega) (by omega)
  by_cases h0 : (parseF s).2.1 = 0
  · have hr := parse_right h0
    obtain ⟨⟨L, er, p⟩, hR⟩ : ∃ R, parseF s = R := ⟨_, rfl⟩
    have hpl : plainF s = (textAt L (L.length - 1), 0, 0) := by unfold plainF; rw [if_pos h0, hR]
    rw [hpl] at C1 C2
    rw [hR] at h0 hr hlen
    simp only at h0 hr hlen C1 C2
    subst h0
    have hl := plain_len hR
    obtain ⟨M, hM, hK⟩ := print_parse hr
    have C3 := fun w => pparse_any ⟨(textAt L (L.length - 1)).toArray⟩ (by show (textAt L (L.length - 1)).toArray.size ≤ _; simp; omega) w
    rw [hM] at C3
    have C3' := fun w => (ret_keys hK 0 0 w) ▸ C3 w
    have C4 := fun w => pplain_of _ L hr (by omega) (by omega) w (C3' w)
    clear C3 C3' hM hK hR hpl hr hl
    generalize textAt L (L.length - 1) = T0 at *
    generalize (⟨T0.toArray⟩ : ByteArray) = T at *
    have t1 : (T.toList == T.toList) = true := beq_self_eq_true _
    go_enter Tryz.func6, Tryz.ntmps6
    go_wp2_with fail
    refine (C1 _).mono ?_
    rintro e1 w1 ⟨rfl, hb1⟩
    have HB1 := Lib.hid hb1
    clear hb1 C1
    go_wp2_with fail
    refine (C2 _).mono ?_
    rintro e2 w2 ⟨rfl, hb2⟩
    have HB2 := Lib.hid (below_then HB1.out hb2)
    clear hb2 C2 HB1
    go_wp2_with fail
    refine (C4 _).mono ?_
    rintro e3 w3 ⟨rfl, hb3⟩
    have HB3 := Lib.hid (below_then HB2.out hb3)
    clear hb3 C4 HB2
    go_wp2_with fail
    refine (sure9_any _).mono ?_
    rintro e5 w5 ⟨rfl, hb5⟩
    have HB5 := below_then HB3.out hb5
    go_wp2
    go_ret
    exact ⟨rfl, HB5⟩
  · obtain ⟨⟨L, er, p⟩, hR⟩ : ∃ R, parseF s = R := ⟨_, rfl⟩
    have hpl : plainF s = ([], er, p) := by unfold plainF; rw [if_neg h0, hR]
    rw [hpl] at C1 C2
    rw [hR] at h0
    simp only at h0 C1 C2
    have t0 : (er != 0) = true := bne_iff_ne.2 h0
    have t1 : (er == er) = true := beq_self_eq_true _
    have t2 : (p == p) = true := beq_self_eq_true _
    clear hR hpl hlen h0
    go_enter Tryz.func6, Tryz.ntmps6
    go_wp2_with fail
    refine (C1 _).mono ?_
    rintro e1 w1 ⟨rfl, hb1⟩
    have HB1 := Lib.hid hb1
    clear hb1 C1
    go_wp2_with fail
    refine (C2 _).mono ?_
    rintro e2 w2 ⟨rfl, hb2⟩
    have HB2 := Lib.hid (below_then HB1.out hb2)
    clear hb2 C2 HB1
    go_wp2_with fail
    refine (sure9_any _).mono ?_
    rintro e5 w5 ⟨rfl, hb5⟩
    have HB5 := below_then HB2.out hb5
    go_wp2
    go_ret
    exact ⟨rfl, HB5⟩
end Go.Proofs.YtfcgmgpcbenfpaaGreat
