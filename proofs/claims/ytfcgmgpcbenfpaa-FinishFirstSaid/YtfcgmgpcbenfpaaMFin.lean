/- The library's strings.Join and strings.Repeat, as the shelf tells them, at this program. -/
import Derived.Test.YtfcgmgpcbenfpaaProg
import Derived.Shelf.Strings.OnBuilder
import Derived.Shelf.Strings.Repeat
import Derived.Test.YtfcgmgpcbenfpaaParQ
import Derived.Test.YtfcgmgpcbenfpaaLexS
import Derived.Test.YtfcgmgpcbenfpaaParZ
import Derived.WalkKit
import Derived.WalkSpells
import Derived.WalkLawsBesides
import Derived.Handy
import Derived.Lib.Hide
import Derived.Test.YtfcgmgpcbenfpaaParK
import Derived.Test.YtfcgmgpcbenfpaaLexB
import Derived.Test.YtfcgmgpcbenfpaaLexD
import Derived.Test.YtfcgmgpcbenfpaaLaw5d
import Derived.Deep.RegionWith
import Derived.Test.YtfcgmgpcbenfpaaParN
import Derived.Deep.QuietTactic
import Derived.BigQuiet
import Derived.Lib.QuietBelow
set_option linter.unusedVariables false
set_option linter.unusedSimpArgs false
namespace Go.Proofs.Ytfcgmgpcbenfpaa
open Go.Shelf Go.RowKit Go.Lib
def ren156 : Go.Shelf.Ren := ⟨fun | 156 => 25 | 165 => 28 | 166 => 29 | 169 => 31 | 240 => 35 | 241 => 36 | 276 => 37 | 277 => 38 | n => n, fun | 31 => 64 | 9 => 9 | 3 => 3 | 4 => 4 | 0 => 0 | 20 => 20 | 72 => 72 | 76 => 76 | 70 => 69 | 37 => 70 | 75 => 75 | 127 => 95 | 164 => 96 | 5 => 5 | 80 => 79 | n => n, fun | n => n⟩
set_option maxRecDepth 100000 in
theorem lays156 : Go.Proofs.Lays.n156 Try.prog ren156 := {
  mixed := by kernel_rfl
  f156 := Try.func25.trans (congrArg some (by kernel_rfl))
  f165 := Try.func28.trans (congrArg some (by kernel_rfl))
  f166 := Try.func29.trans (congrArg some (by kernel_rfl))
  f169 := Try.func31.trans (congrArg some (by kernel_rfl))
  f240 := Try.func35.trans (congrArg some (by kernel_rfl))
  f241 := Try.func36.trans (congrArg some (by kernel_rfl))
  f276 := Try.func37.trans (congrArg some (by kernel_rfl))
  f277 := Try.func38.trans (congrArg some (by kernel_rfl))
  t0 := Try.underlying0
  a0 := Try.isAgg0
  z0 := Try.sizeOf0
  v0 := Try.zeroValue0
  t3 := Try.underlying3
  a3 := Try.isAgg3
  z3 := Try.sizeOf3
  v3 := Try.zeroValue3
  t4 := Try.underlying4
  a4 := Try.isAgg4
  z4 := Try.sizeOf4
  v4 := Try.zeroValue4
  t9 := Try.underlying9
  a9 := Try.isAgg9
  z9 := Try.sizeOf9
  v9 := Try.zeroValue9
  t20 := Try.underlying20
  a20 := Try.isAgg20
  z20 := Try.sizeOf20
  v20 := Try.zeroValue20
  t31 := Try.underlying64
  a31 := Try.isAgg64
  z31 := Try.sizeOf64
  v31 := Try.zeroValue64
  t37 := Try.underlying70
  a37 := Try.isAgg70
  z37 := Try.sizeOf70
  v37 := Try.zeroValue70
  t70 := Try.underlying69
  a70 := Try.isAgg69
  z70 := Try.sizeOf69
  v70 := Try.zeroValue69
  t72 := Try.underlying72
  a72 := Try.isAgg72
  z72 := Try.sizeOf72
  v72 := Try.zeroValue72
  t75 := Try.underlying75
  a75 := Try.isAgg75
  z75 := Try.sizeOf75
  v75 := Try.zeroValue75
  t76 := Try.underlying76
  a76 := Try.isAgg76
  z76 := Try.sizeOf76
  v76 := Try.zeroValue76
  t127 := Try.underlying95
  a127 := Try.isAgg95
  z127 := Try.sizeOf95
  v127 := Try.zeroValue95
  t164 := Try.underlying96
  a164 := Try.isAgg96
  z164 := Try.sizeOf96
  v164 := Try.zeroValue96 }
set_option maxRecDepth 100000 in
theorem extra156 : Builder.Extra Try.prog ren156 := {
  sizeBuilder := by kernel_rfl
  liesBuilder := by kernel_rfl
  t5 := Try.underlying5
  a5 := Try.isAgg5
  z5 := Try.sizeOf5
  v5 := Try.zeroValue5
  infoByte := by kernel_rfl
  cellsByte := by kernel_rfl
  sizeByte := by kernel_rfl
  neB5 := by decide }
def ren105 : Go.Shelf.Ren := ⟨fun | 105 => 14 | 212 => 26 | 99 => 27 | 165 => 28 | 166 => 29 | 170 => 30 | 169 => 31 | 263 => 32 | 264 => 33 | 206 => 34 | 240 => 35 | 241 => 36 | 276 => 37 | 277 => 38 | n => n, fun | 9 => 9 | 3 => 3 | 4 => 4 | 20 => 20 | 0 => 0 | 46 => 66 | 109 => 67 | 5 => 5 | 72 => 72 | 76 => 76 | 51 => 90 | 146 => 91 | 53 => 47 | 148 => 93 | 70 => 69 | 37 => 70 | 75 => 75 | 127 => 95 | 164 => 96 | 80 => 79 | n => n, fun | n => n⟩
set_option maxRecDepth 100000 in
theorem lays105 : Go.Proofs.Lays.n105 Try.prog ren105 := {
  mixed := by kernel_rfl
  f99 := Try.func27.trans (congrArg some (by kernel_rfl))
  f105 := Try.func14.trans (congrArg some (by kernel_rfl))
  f165 := Try.func28.trans (congrArg some (by kernel_rfl))
  f166 := Try.func29.trans (congrArg some (by kernel_rfl))
  f169 := Try.func31.trans (congrArg some (by kernel_rfl))
  f170 := Try.func30.trans (congrArg some (by kernel_rfl))
  f206 := Try.func34.trans (congrArg some (by kernel_rfl))
  f212 := Try.func26.trans (congrArg some (by kernel_rfl))
  f240 := Try.func35.trans (congrArg some (by kernel_rfl))
  f241 := Try.func36.trans (congrArg some (by kernel_rfl))
  f263 := Try.func32.trans (congrArg some (by kernel_rfl))
  f264 := Try.func33.trans (congrArg some (by kernel_rfl))
  f276 := Try.func37.trans (congrArg some (by kernel_rfl))
  f277 := Try.func38.trans (congrArg some (by kernel_rfl))
  t0 := Try.underlying0
  a0 := Try.isAgg0
  z0 := Try.sizeOf0
  v0 := Try.zeroValue0
  t3 := Try.underlying3
  a3 := Try.isAgg3
  z3 := Try.sizeOf3
  v3 := Try.zeroValue3
  t4 := Try.underlying4
  a4 := Try.isAgg4
  z4 := Try.sizeOf4
  v4 := Try.zeroValue4
  t5 := Try.underlying5
  a5 := Try.isAgg5
  z5 := Try.sizeOf5
  v5 := Try.zeroValue5
  t9 := Try.underlying9
  a9 := Try.isAgg9
  z9 := Try.sizeOf9
  v9 := Try.zeroValue9
  t20 := Try.underlying20
  a20 := Try.isAgg20
  z20 := Try.sizeOf20
  v20 := Try.zeroValue20
  t37 := Try.underlying70
  a37 := Try.isAgg70
  z37 := Try.sizeOf70
  v37 := Try.zeroValue70
  t46 := Try.underlying66
  a46 := Try.isAgg66
  z46 := Try.sizeOf66
  v46 := Try.zeroValue66
  t51 := Try.underlying90
  a51 := Try.isAgg90
  z51 := Try.sizeOf90
  v51 := Try.zeroValue90
  t53 := Try.underlying47
  a53 := Try.isAgg47
  z53 := Try.sizeOf47
  v53 := Try.zeroValue47
  t70 := Try.underlying69
  a70 := Try.isAgg69
  z70 := Try.sizeOf69
  v70 := Try.zeroValue69
  t72 := Try.underlying72
  a72 := Try.isAgg72
  z72 := Try.sizeOf72
  v72 := Try.zeroValue72
  t75 := Try.underlying75
  a75 := Try.isAgg75
  z75 := Try.sizeOf75
  v75 := Try.zeroValue75
  t76 := Try.underlying76
  a76 := Try.isAgg76
  z76 := Try.sizeOf76
  v76 := Try.zeroValue76
  t109 := Try.underlying67
  a109 := Try.isAgg67
  z109 := Try.sizeOf67
  v109 := Try.zeroValue67
  t127 := Try.underlying95
  a127 := Try.isAgg95
  z127 := Try.sizeOf95
  v127 := Try.zeroValue95
  t146 := Try.underlying91
  a146 := Try.isAgg91
  z146 := Try.sizeOf91
  v146 := Try.zeroValue91
  t148 := Try.underlying93
  a148 := Try.isAgg93
  z148 := Try.sizeOf93
  v148 := Try.zeroValue93
  t164 := Try.underlying96
  a164 := Try.isAgg96
  z164 := Try.sizeOf96
  v164 := Try.zeroValue96 }
set_option maxRecDepth 100000 in
theorem extra105 : Builder.Extra Try.prog ren105 := {
  sizeBuilder := by kernel_rfl
  liesBuilder := by kernel_rfl
  t5 := Try.underlying5
  a5 := Try.isAgg5
  z5 := Try.sizeOf5
  v5 := Try.zeroValue5
  infoByte := by kernel_rfl
  cellsByte := by kernel_rfl
  sizeByte := by kernel_rfl
  neB5 := by decide }
set_option maxRecDepth 100000 in
theorem sjoin_any (bk o c : Nat) (xs : List ByteArray) (sep : ByteArray) (w : World) (hcells : ∀ (j : Nat) x, xs[j]? = some x → w.cell? ⟨bk, o + j, none⟩ = some (.string x)) (hbk : bk < w.heap.size) (hN : xs.length ≤ 140737488355328) (hcap : xs.length ≤ c) (hlen : (Lib.join (xs.map (·.data.toList)) sep.data.toList).length ≤ 140737488355328) :
    Calls Try.prog 25 #[.slice (some ⟨bk, o, none⟩) xs.length c, .string sep] w fun e w' => e = .returned (.string ⟨(Lib.join (xs.map (·.data.toList)) sep.data.toList).toArray⟩) ∧ Below w.heap.size w w' := Any.strings_Join lays156 extra156 bk o c xs sep w hcells hbk hN hcap hlen
set_option maxRecDepth 100000 in
theorem srepeat_any (s : ByteArray) (c : Nat) (w : World) (hc : c ≤ 9223372036854775807) (hlen : s.size * c ≤ 140737488355328) :
    Calls Try.prog 14 #[.string s, .int .i64 c] w fun e w' => e = .returned (.string ⟨(Lib.repeatL s.data.toList c).toArray⟩) ∧ Below w.heap.size w w' := Any.strings_Repeat lays105 extra105 s c w hc hlen
end Go.Proofs.Ytfcgmgpcbenfpaa

/- Plain facts: what lacks of a pattern makes it one. No program is in sight. -/
namespace Go.Proofs.Ytfcgmgpcbenfpaa
open Go.RowKit SetP BrkP LexP AstP
namespace ParP
def begins8 (s : ByteArray) : Bool := (parseF s).2.1 == 0 || (parseF s).2.1 == 2
/-- Where the word begins that is none; -1: there is none such. -/
def lastGo (s : ByteArray) (a : Nat) : Int :=
  if s.size ≤ a then -1
  else if (nextW s a).err ≠ 0 then a
  else if a < (nextW s a).word.stop.toNat then lastGo s (nextW s a).word.stop.toNat else -1
termination_by s.size - a
theorem lastGo_end {s : ByteArray} {a : Nat} (h : s.size ≤ a) : lastGo s a = -1 := by rw [lastGo, if_pos h]
theorem lastGo_err {s : ByteArray} {a : Nat} (h : a < s.size) (he : (nextW s a).err ≠ 0) : lastGo s a = a := by rw [lastGo, if_neg (by omega), if_pos he]
theorem lastGo_word {s : ByteArray} {a e : Nat} {w : Wd} (h : a < s.size) (hw : nextW s a = ⟨w, 0, 0⟩) (he : w.stop = (e : Int)) : lastGo s a = lastGo s e := by
  obtain ⟨e', h1, h2, h3⟩ := stop_of h hw
  have : e = e' := by omega
  subst this
  rw [lastGo, if_neg (by omega), if_neg (by rw [hw]; simp), hw, he, Int.toNat_natCast, if_pos h2]
theorem Run.last {s : ByteArray} {a b : Nat} {x y : PS} (h : Run s a x b y) : lastGo s a = lastGo s b := by
  induction h with
  | refl a x => rfl
  | step ha hb hw he h ih => rw [lastGo_word ha hw he, ih]
/-- May c be what the last word lacks? -/
def WordL (s c : ByteArray) : Prop := (lastGo s 0 = -1 ∧ c = ⟨#[]⟩) ∨ ∃ a : Nat, lastGo s 0 = (a : Int) ∧ LackW s (a : Int) c
theorem app_empty (s : ByteArray) : s ++ (⟨#[]⟩ : ByteArray) = s := bytes_ext (by simp [ByteArray.data_append])
/-- With what the last word lacks all of a beginning is read. -/
theorem begin_run {s c : ByteArray} (h : begins8 s = true) (hc : WordL s c) : ∃ z, Run (s ++ c) 0 ps0 (s ++ c).size z ∧ c.size ≤ 9 := by
  have full : ∀ y, Run s 0 ps0 s.size y → ∃ z, Run (s ++ c) 0 ps0 (s ++ c).size z ∧ c.size ≤ 9 := by
    intro y hr
    have hl := hr.last
    rw [lastGo_end (Nat.le_refl _)] at hl
    rcases hc with ⟨_, rfl⟩ | ⟨a, ha, _⟩
    · rw [app_empty]; exact ⟨y, hr, Nat.zero_le _⟩
    · omega
  unfold begins8 at h
  simp only [Bool.or_eq_true, beq_iff_eq] at h
  cases outs s with
  | ok y hr h1 e => exact full y hr
  | open_ y hr h1 e => exact full y hr
  | short b y hr hb h0 h2 e =>
    have hl := hr.last
    rw [lastGo_err hb (by rw [h2]; show ¬ (2 : Int) = 0; decide)] at hl
    rcases hc with ⟨h', _⟩ | ⟨a, ha, hw⟩
    · omega
    · have hab : a = b := by omega
      subst hab
      rcases hw with ⟨hn, _⟩ | ⟨_, g1, g2, w, hw, _, hst⟩
      · rw [h2] at hn; exact absurd rfl hn
      · have hz : (s ++ c).size = s.size + c.size := ByteArray.size_append' _ _
        have hal := alike_app s c
        refine ⟨takeF y w, (hr.alike hal (by omega)).trans (.step (e := s.size + c.size) (by omega) (by rw [hal.at_ a hb]; exact h0) hw (by omega) ?_), g2⟩
        rw [hz]; exact .refl _ _
  | bar b y hr hb h0 e =>
    rw [e] at h
    exfalso
    have := bar_cases y (bt s b)
    simp only at h
    omega
  | bad b y hr hb h0 er p he hp hp2 h2 e =>
    rw [e] at h
    exfalso
    simp only at h
    omega
theorem run_open {s : ByteArray} {z : PS} (h : Run s 0 ps0 s.size z) : openF s = z.lv.length - 1 := by
  unfold openF
  rw [h.go, readGo_end (Nat.le_refl _)]; rfl
theorem run_ne {s : ByteArray} {a b : Nat} {x y : PS} (h : Run s a x b y) (hx : x.lv ≠ []) : y.lv ≠ [] := by
  induction h with
  | refl a x => exact hx
  | step ha hb hw he h ih =>
    apply ih
    have ht := took hx ha hb hw
    generalize takeF _ _ = z at ht
    cases ht with
    | one => simp
    | opn => simp
    | shut => simp
    | bar => simp
    | rep => simp
theorem shuts_run (T : ByteArray) (k : Nat) (j : Nat) (hj : j ≤ k) (z : PS) (hz : z.lv.length = j + 1) :
    ∃ z', Run (T ++ ⟨(List.replicate k 41).toArray⟩) (T.size + (k - j)) z (T ++ (⟨(List.replicate k 41).toArray⟩ : ByteArray)).size z' ∧ z'.lv.length = 1 := by
  have hs : (T ++ (⟨(List.replicate k 41).toArray⟩ : ByteArray)).size = T.size + k := by rw [size_strB, List.length_replicate]
  induction j generalizing z with
  | zero => exact ⟨z, by rw [hs, Nat.sub_zero]; exact .refl _ _, hz⟩
  | succ j ih =>
    obtain ⟨o, lv, g⟩ := z
    match lv, hz with
    | (p, r) :: (p', r') :: v, hz =>
      have hb : bt (T ++ (⟨(List.replicate k 41).toArray⟩ : ByteArray)) (T.size + (k - (j + 1))) = 41 := by
        rw [bt_strB, List.getD_eq_getElem?_getD, List.getElem?_replicate, if_pos (by omega)]; rfl
      have hn : nextW (T ++ (⟨(List.replicate k 41).toArray⟩ : ByteArray)) ((T.size + (k - (j + 1)) : Nat) : Int) = signA 3 ((T.size + (k - (j + 1)) : Nat) : Int) := by
        rw [nextW_in (by omega), hb]; rfl
      obtain ⟨z', h1, h2⟩ := ih (by omega) ⟨o ++ rowN p ++ rowsN (r + 1) ++ [ndG], (p' + 1, r') :: v, g⟩ (by simp only [List.length_cons] at hz ⊢; omega)
      refine ⟨z', .step (w := ⟨3, ((T.size + (k - (j + 1)) : Nat) : Int), ((T.size + (k - (j + 1)) : Nat) : Int) + 1, noSet, 0, 0⟩) (e := T.size + (k - j)) (by omega) ?_ hn (by show ((T.size + (k - (j + 1)) : Nat) : Int) + 1 = _; omega) h1, h2⟩
      rw [hb]
      show (if isCnt 41 then _ else if (41 : UInt8) == 41 then (if v.length + 1 + 1 = 1 then (8 : Int) else 0) else _) = 0
      rw [if_neg (by decide), if_pos (by decide), if_neg (by omega)]
    | [_], hz => simp at hz
    | [], hz => simp at hz
/-- With what lacks any beginning is a pattern. -/
theorem finish_makes {s c : ByteArray} (h : begins8 s = true) (hc : WordL s c) : (parseF (s ++ (c ++ ⟨(List.replicate (openF (s ++ c)) 41).toArray⟩))).2.1 = 0 := by
  obtain ⟨z, hz, _⟩ := begin_run h hc
  have hne := run_ne hz (by simp [ps0])
  have ho := run_open hz
  have e : s ++ (c ++ (⟨(List.replicate (openF (s ++ c)) 41).toArray⟩ : ByteArray)) = (s ++ c) ++ (⟨(List.replicate (openF (s ++ c)) 41).toArray⟩ : ByteArray) := bytes_ext (by simp [ByteArray.data_append])
  rw [e]
  generalize s ++ c = T at *
  generalize openF T = k at *
  have hl : z.lv.length = k + 1 := by
    have : 0 < z.lv.length := List.length_pos_iff.2 hne
    omega
  have h1 := hz.alike (alike_app T (⟨(List.replicate k 41).toArray⟩ : ByteArray)) (Nat.le_refl _)
  obtain ⟨z', h2, h3⟩ := shuts_run T k k (Nat.le_refl _) z hl
  rw [Nat.sub_self, Nat.add_zero] at h2
  have h4 := h1.trans h2
  show (parseR _ (readGo _ 0 ps0)).2.1 = 0
  rw [h4.go, readGo_end (Nat.le_refl _)]
  show (if 1 < z'.lv.length then _ else _ : List Nd × Int × Int).2.1 = 0
  rw [if_neg (by omega)]
end ParP
end Go.Proofs.Ytfcgmgpcbenfpaa

/- Plain facts: what a few fixed texts are as beginnings. No program is in sight. -/
namespace Go.Proofs.Ytfcgmgpcbenfpaa
open Go.RowKit SetP BrkP LexP AstP
namespace ParP
abbrev s8a : ByteArray := ⟨#[40, 97, 91, 98]⟩
abbrev s8c : ByteArray := ⟨#[40, 97, 41]⟩
abbrev s8d : ByteArray := ⟨#[97, 123]⟩
abbrev s8e : ByteArray := ⟨#[97, 123, 120]⟩
theorem n8a0 : nextW s8a ((0 : Nat) : Int) = ⟨⟨2, (0 : Nat), (1 : Nat), noSet, 0, 0⟩, 0, 0⟩ := by
  rw [nextW_in (by decide), show bt s8a 0 = 40 by decide]; rfl
theorem n8a1 : nextW s8a ((1 : Nat) : Int) = ⟨⟨1, (1 : Nat), (2 : Nat), addB noSet 97, 0, 0⟩, 0, 0⟩ := by
  rw [nextW_in (by decide), show bt s8a 1 = 97 by decide]; rfl
theorem n8c0 : nextW s8c ((0 : Nat) : Int) = ⟨⟨2, (0 : Nat), (1 : Nat), noSet, 0, 0⟩, 0, 0⟩ := by
  rw [nextW_in (by decide), show bt s8c 0 = 40 by decide]; rfl
theorem n8c1 : nextW s8c ((1 : Nat) : Int) = ⟨⟨1, (1 : Nat), (2 : Nat), addB noSet 97, 0, 0⟩, 0, 0⟩ := by
  rw [nextW_in (by decide), show bt s8c 1 = 97 by decide]; rfl
theorem n8c2 : nextW s8c ((2 : Nat) : Int) = ⟨⟨3, (2 : Nat), (3 : Nat), noSet, 0, 0⟩, 0, 0⟩ := by
  rw [nextW_in (by decide), show bt s8c 2 = 41 by decide]; rfl
theorem n8d0 : nextW s8d ((0 : Nat) : Int) = ⟨⟨1, (0 : Nat), (1 : Nat), addB noSet 97, 0, 0⟩, 0, 0⟩ := by
  rw [nextW_in (by decide), show bt s8d 0 = 97 by decide]; rfl
theorem n8e0 : nextW s8e ((0 : Nat) : Int) = ⟨⟨1, (0 : Nat), (1 : Nat), addB noSet 97, 0, 0⟩, 0, 0⟩ := by
  rw [nextW_in (by decide), show bt s8e 0 = 97 by decide]; rfl
abbrev s8f : ByteArray := ⟨#[40]⟩
theorem n8f0 : nextW s8f ((0 : Nat) : Int) = ⟨⟨2, (0 : Nat), (1 : Nat), noSet, 0, 0⟩, 0, 0⟩ := by
  rw [nextW_in (by decide), show bt s8f 0 = 40 by decide]; rfl
theorem n8a2 : nextW s8a ((2 : Nat) : Int) = badA 2 4 := by
  have t1 : thingF s8a 3 (fun _ => false) = .bad 2 4 := by kernel_rfl
  have hl : loopF s8a 3 3 (fun _ => false) = .bad 2 4 := by
    rw [loopF_step (by decide) (by decide), t1]
  have hr : readB s8a ((2 : Nat) : Int) = ⟨fun _ => false, 0, 2, 4⟩ := by
    unfold readB
    rw [if_neg (by decide), if_neg (by decide), if_neg (by decide)]
    have : loopF s8a (((2 : Nat) : Int).toNat + 1) (((2 : Nat) : Int).toNat + 1) (fun _ => false) = _ := hl
    rw [this]; rfl
  rw [nextW_in (by decide), show bt s8a 2 = 91 by decide]
  rw [show wordB s8a 2 91 = brkA ((2 : Nat) : Int) (readB s8a ((2 : Nat) : Int)) from rfl, hr]; rfl
theorem n8d1 : nextW s8d ((1 : Nat) : Int) = badA 2 2 := by
  have h : BraceP.readF s8d.data.toList ((1 : Nat) : Int) = (0, 0, 0, 2, 2) := by decide +kernel
  rw [nextW_in (by decide), show bt s8d 1 = 123 by decide]
  rw [show wordB s8d 1 123 = cntA ((1 : Nat) : Int) (BraceP.readF s8d.data.toList ((1 : Nat) : Int)) from rfl, h]; rfl
theorem n8e1 : nextW s8e ((1 : Nat) : Int) = badA 3 3 := by
  have h : BraceP.readF s8e.data.toList ((1 : Nat) : Int) = (0, 0, 0, 3, 3) := by decide +kernel
  rw [nextW_in (by decide), show bt s8e 1 = 123 by decide]
  rw [show wordB s8e 1 123 = cntA ((1 : Nat) : Int) (BraceP.readF s8e.data.toList ((1 : Nat) : Int)) from rfl, h]; rfl
theorem parse8a : parseF s8a = ([], 2, 4) := by
  show parseR _ (readGo s8a 0 ps0) = _
  rw [readGo_word (by decide) (bt7 (b := 40) (by decide) rfl) n8a0 rfl, readGo_word (by decide) (bt7 (b := 97) (by decide) rfl) n8a1 rfl, readGo_err (by decide) (bt7 (b := 91) (by decide) rfl) (by rw [n8a2]; decide), n8a2]
  rfl
theorem parse8c : (parseF s8c).2.1 = 0 := by
  show (parseR _ (readGo s8c 0 ps0)).2.1 = _
  rw [readGo_word (by decide) (bt7 (b := 40) (by decide) rfl) n8c0 rfl, readGo_word (by decide) (bt7 (b := 97) (by decide) rfl) n8c1 rfl, readGo_word (by decide) (bt7 (b := 41) (by decide) rfl) n8c2 rfl, readGo_end (by decide)]
  rfl
theorem parse8d : parseF s8d = ([], 2, 2) := by
  show parseR _ (readGo s8d 0 ps0) = _
  rw [readGo_word (by decide) (bt7 (b := 97) (by decide) rfl) n8d0 rfl, readGo_err (by decide) (bt7 (b := 123) (by decide) rfl) (by rw [n8d1]; decide), n8d1]
  rfl
theorem parse8e : parseF s8e = ([], 3, 3) := by
  show parseR _ (readGo s8e 0 ps0) = _
  rw [readGo_word (by decide) (bt7 (b := 97) (by decide) rfl) n8e0 rfl, readGo_err (by decide) (bt7 (b := 123) (by decide) rfl) (by rw [n8e1]; decide), n8e1]
  rfl
theorem parse8f : (parseF s8f).2.1 = 2 := by
  show (parseR _ (readGo s8f 0 ps0)).2.1 = _
  rw [readGo_word (by decide) (bt7 (b := 40) (by decide) rfl) n8f0 rfl, readGo_end (by decide)]
  rfl
theorem parse8g : (parseF ⟨#[]⟩).2.1 = 0 := by
  show (parseR _ (readGo ⟨#[]⟩ 0 ps0)).2.1 = _
  rw [readGo_end (by decide)]
  rfl
theorem beg8a : begins8 s8a = true := by unfold begins8; rw [parse8a]; rfl
theorem beg8b : begins8 s7b = false := by unfold begins8; rw [parse7b]; rfl
theorem beg8d : begins8 s8d = true := by unfold begins8; rw [parse8d]; rfl
theorem beg8e : begins8 s8e = false := by unfold begins8; rw [parse8e]; rfl
end ParP
end Go.Proofs.Ytfcgmgpcbenfpaa

/- Walks of the package finish: last, join, Begins. -/
namespace Go.Proofs.Ytfcgmgpcbenfpaa
open Go.RowKit SetP BrkP LexP AstP ParP
set_option maxRecDepth 100000 in
set_option maxHeartbeats 2000000 in
theorem last_any (s : ByteArray) (hs : s.size ≤ 200000) (w : World) : Calls Try.prog 11 #[.string s] w fun e w' => e = .returned (.int .i64 (lastGo s 0)) ∧ Below w.heap.size w w' := by
  obtain ⟨R, hR⟩ : ∃ R, lastGo s 0 = R := ⟨_, rfl⟩
  rw [hR]
  have HR := Lib.hid hR; clear hR
  go_enter Try.func11, Try.ntmps11
  go_wp2
  go_loopw [3] (fun a wr => ∃ k : Nat, k ≤ s.size ∧ a = .int .i64 k ∧ lastGo s k = R ∧ Below w.heap.size w wr) (fun a _ => s.size - (intOf a).toNat)
  case atStart => exact ⟨0, Nat.zero_le _, rfl, HR.out, Below.refl _ _⟩
  case round =>
    obtain ⟨k, hk, rfl, hl, hB⟩ := hrel
    have HB := Lib.hid hB
    have HL := Lib.hid hl
    clear hB hl
    by_cases hlt : k < s.size
    · rcases word_or hlt with ⟨x, e, hw, he, g1, g2⟩ | ⟨x, er, p, hw, he⟩
      · have C := lnext_any s k (by omega)
        rw [hw] at C
        have HL2 := Lib.hid ((lastGo_word hlt hw he).symm.trans HL.out)
        obtain ⟨kd, at_, stop, f, n, m⟩ := x
        simp only at he
        subst he
        clear hw HL
        go_wp2_with fail
        refine (C _).mono ?_
        rintro e1 w1 ⟨rfl, hb1⟩
        clear C
        have HB1 := Lib.hid (below_then HB.out hb1)
        clear hb1 HB
        have o0 : Slab (w1.alloc (.cells (wdCells ⟨kd, at_, e, f, n, m⟩) 51)) w1.heap.size (wdCells ⟨kd, at_, e, f, n, m⟩) 51 := Slab.new _ _ _
        have HB2 := Lib.hid (HB1.out.alloc HB1.out.size (.cells (wdCells ⟨kd, at_, e, f, n, m⟩) 51))
        unfold wdCells at o0 HB2
        simp only at o0 HB2
        obtain ⟨c0, f0⟩ := o0.facts
        clear o0 HB1
        go_wp2
        go_roundw
        case rel => exact ⟨e, g2, by go_num, HL2.out, HB2.out⟩
        case measure => simp [intOf]; omega
      · have C := lnext_any s k (by omega)
        rw [hw] at C
        have hr := lastGo_err hlt (by rw [hw]; exact he)
        rw [HL.out] at hr
        have HE := Lib.hid hr
        have hn : (er != 0) = true := bne_iff_ne.2 he
        obtain ⟨kd, at_, stop, f, n, m⟩ := x
        clear hw HL hr he
        go_wp2_with fail
        refine (C _).mono ?_
        rintro e1 w1 ⟨rfl, hb1⟩
        clear C
        have HB1 := Lib.hid (below_then HB.out hb1)
        have HB2 := Lib.hid (HB1.out.alloc HB1.out.size (.cells (wdCells ⟨kd, at_, stop, f, n, m⟩) 51))
        clear hb1 HB HB1
        go_wp2
        go_ret
        exact ⟨by have hz := HE.out; subst hz; rfl, HB2.out⟩
    · have hr := lastGo_end (s := s) (a := k) (by omega)
      rw [HL.out] at hr
      have HE := Lib.hid hr
      clear hr HL
      go_wp2
      go_ret
      exact ⟨by have hz := HE.out; subst hz; rfl, HB.out⟩
theorem join2 (a b : ByteArray) : (⟨(Lib.join ([a, b].map (·.data.toList)) (⟨#[]⟩ : ByteArray).data.toList).toArray⟩ : ByteArray) = a ++ b := by
  have : Lib.join ([a, b].map (·.data.toList)) (⟨#[]⟩ : ByteArray).data.toList = a.data.toList ++ b.data.toList := by
    show Lib.join [a.data.toList, b.data.toList] [] = _
    simp [Lib.join, List.intercalate, List.intersperse]
  rw [this]
  exact bytes_ext (by simp [ByteArray.data_append])
set_option maxRecDepth 100000 in
set_option maxHeartbeats 2000000 in
theorem fjoin_any (g : Nat) (a b : ByteArray) (w : World) (o : Slab w g #[.string a, .string b] 9) (hz : a.size + b.size ≤ 1000000) :
    Calls Try.prog 13 #[.slice (some ⟨g, 0, none⟩) 2 2] w fun e w' => e = .returned (.string (a ++ b)) ∧ Below w.heap.size w w' := by
  have C := sjoin_any g 0 2 [a, b] ⟨#[]⟩ w (fun j x hx => by
    rw [Nat.zero_add, o.cell]
    match j, hx with
    | 0, hx => cases hx; rfl
    | 1, hx => cases hx; rfl) o.lt (by show 2 ≤ _; omega) (by show 2 ≤ 2; omega) (by
      have : Lib.join ([a, b].map (·.data.toList)) (⟨#[]⟩ : ByteArray).data.toList = a.data.toList ++ b.data.toList := by
        show Lib.join [a.data.toList, b.data.toList] [] = _
        simp [Lib.join, List.intercalate, List.intersperse]
      rw [this, List.length_append]
      have h1 : a.data.toList.length = a.size := by simp
      have h2 : b.data.toList.length = b.size := by simp
      omega)
  rw [join2] at C
  clear o
  go_enter Try.func13, Try.ntmps13
  go_wp2_with fail
  refine C.mono ?_
  rintro e1 w1 ⟨rfl, hb1⟩
  go_wp2
  go_ret
  exact ⟨rfl, hb1⟩
theorem repeat41 (k : Nat) : Lib.repeatL (⟨#[41]⟩ : ByteArray).data.toList k = List.replicate k 41 := by
  have : (⟨#[41]⟩ : ByteArray).data.toList = [41] := rfl
  rw [this]
  induction k with
  | zero => rfl
  | succ k ih => rw [List.replicate_succ, ← ih]; rfl
set_option maxRecDepth 100000 in
set_option maxHeartbeats 2000000 in
theorem begins8_any (s : ByteArray) (hs : s.size ≤ 200000) (w : World) : Calls Try.prog 7 #[.string s] w fun e w' => e = .returned (.bool (begins8 s)) ∧ Below w.heap.size w w' := by
  have C := pparse_any s hs w
  unfold begins8
  obtain ⟨⟨L, er, p⟩, hR⟩ : ∃ R, parseF s = R := ⟨_, rfl⟩
  rw [hR] at C ⊢
  simp only
  clear hR
  cases h0 : (er == 0) with
  | true =>
    rw [beq_iff_eq] at h0
    subst h0
    go_enter Try.func7, Try.ntmps7
    go_wp2_with fail
    refine C.mono ?_
    rintro e1 w1 ⟨A1, c1, rfl, hown1, hb1⟩
    clear hown1 C
    go_wp2
    go_ret
    exact ⟨rfl, hb1⟩
  | false =>
    cases h2 : (er == 2) with
    | true =>
      rw [beq_iff_eq] at h2
      subst h2
      go_enter Try.func7, Try.ntmps7
      go_wp2_with fail
      refine C.mono ?_
      rintro e1 w1 ⟨A1, c1, rfl, hown1, hb1⟩
      clear hown1 C
      go_wp2
      go_ret
      exact ⟨rfl, hb1⟩
    | false =>
      go_enter Try.func7, Try.ntmps7
      go_wp2_with fail
      refine C.mono ?_
      rintro e1 w1 ⟨A1, c1, rfl, hown1, hb1⟩
      clear hown1 C
      go_wp2
      go_ret
      exact ⟨rfl, hb1⟩
end Go.Proofs.Ytfcgmgpcbenfpaa

/- Walks of the package finish: Finish. -/
namespace Go.Proofs.Ytfcgmgpcbenfpaa
open Go.RowKit SetP BrkP LexP AstP ParP
/-- What Finish hands back. -/
def RetFin (s : ByteArray) (w : World) (e : Ending) (w' : World) : Prop :=
  (if begins8 s then ∃ t : ByteArray, t.size ≤ 500 ∧ (parseF (s ++ t)).2.1 = 0 ∧ e = .returned (.tuple #[.string t, .bool true]) else e = .returned (.tuple #[.string ⟨#[]⟩, .bool false])) ∧ Below w.heap.size w w'
theorem lastGo_nat (s : ByteArray) (a : Nat) : lastGo s a = -1 ∨ ∃ k : Nat, lastGo s a = k ∧ k < s.size := by
  induction hn : s.size - a using Nat.strongRecOn generalizing a with
  | _ n ih =>
    by_cases h : s.size ≤ a
    · exact .inl (lastGo_end h)
    rcases word_or (show a < s.size by omega) with ⟨x, e, hw, he, g1, g2⟩ | ⟨x, er, p, hw, he⟩
    · rw [lastGo_word (by omega) hw he]
      exact ih (s.size - e) (by omega) e rfl
    · exact .inr ⟨a, lastGo_err (by omega) (by rw [hw]; exact he), by omega⟩
theorem open_le {s : ByteArray} {z : PS} (h : Run s 0 ps0 s.size z) : openF s ≤ s.size := by
  rw [run_open h]
  have := (h.bnd bnd0).lv
  omega
theorem fin_size {s c : ByteArray} (h : begins8 s = true) (hc : WordL s c) : openF (s ++ c) ≤ s.size + 9 ∧ c.size ≤ 9 := by
  obtain ⟨z, hz, hk⟩ := begin_run h hc
  have := open_le hz
  rw [ByteArray.size_append'] at this
  omega
set_option maxRecDepth 100000 in
set_option maxHeartbeats 2000000 in
theorem finish_any (s : ByteArray) (hs : s.size ≤ 390) (w : World) : Calls Try.prog 6 #[.string s] w (RetFin s w) := by
  have C1 := begins8_any s (by omega)
  unfold RetFin
  cases hb : begins8 s with
  | false =>
    rw [hb] at C1
    simp only [Bool.false_eq_true, if_false]
    go_enter Try.func6, Try.ntmps6
    go_wp2_with fail
    refine (C1 _).mono ?_
    rintro e1 w1 ⟨rfl, hb1⟩
    go_wp2
    refine bodyPost_ret (v := .tuple #[.string ⟨#[]⟩, .bool false]) (by simp [results, Try.results6, go_sem]) rfl ⟨rfl, hb1⟩
  | true =>
    rw [hb] at C1
    simp only [if_true]
    have C2 := last_any s (by omega)
    have hfin := fun c (hc : WordL s c) => finish_makes hb hc
    have hsz := fun c (hc : WordL s c) => fin_size hb hc
    have HFIN := Lib.hid hfin
    have HSZ := Lib.hid hsz
    clear hfin hsz
    rcases lastGo_nat s 0 with h0 | ⟨a, ha, hak⟩
    · have hw : WordL s ⟨#[]⟩ := .inl ⟨h0, rfl⟩
      rw [h0] at C2
      have C3 := popen_any (s ++ ⟨#[]⟩) (by have := (HSZ.out _ hw).2; rw [ByteArray.size_append']; omega)
      obtain ⟨hz1, hz2⟩ := HSZ.out _ hw
      obtain ⟨k, hk⟩ : ∃ k, openF (s ++ ⟨#[]⟩) = k := ⟨_, rfl⟩
      have hf := HFIN.out _ hw
      rw [hk] at hz1 C3 hf
      have HF := Lib.hid hf
      clear hw hk hf HSZ HFIN hb h0
      have C4 := srepeat_any ⟨#[41]⟩ k
      rw [repeat41] at C4
      have hrl : (⟨(List.replicate k 41).toArray⟩ : ByteArray).size = k := by show (List.replicate k (41 : UInt8)).toArray.size = k; simp
      obtain ⟨R, hR⟩ : ∃ R : ByteArray, (⟨(List.replicate k 41).toArray⟩ : ByteArray) = R := ⟨_, rfl⟩
      rw [hR] at C4 HF hrl
      clear hR
      go_enter Try.func6, Try.ntmps6
      go_wp2_with fail
      refine (C1 _).mono ?_
      rintro e1 w1 ⟨rfl, hb1⟩
      have HB1 := Lib.hid hb1
      clear hb1 C1
      go_wp2_with fail
      refine (C2 _).mono ?_
      rintro e2 w2 ⟨rfl, hb2⟩
      have HB2 := Lib.hid (below_then HB1.out hb2)
      clear hb2 C2 HB1
      go_wp2_with fail
      have HBa := Lib.hid (HB2.out.alloc HB2.out.size (.cells #[.string s, .string ⟨#[]⟩] 9))
      clear HB2
      refine (fjoin_any _ s ⟨#[]⟩ _ (Slab.new _ _ _) (by omega)).mono ?_
      rintro e4 w4 ⟨rfl, hb4⟩
      have HB4 := Lib.hid (below_then HBa.out hb4)
      clear hb4 HBa
      go_wp2_with fail
      refine (C3 _).mono ?_
      rintro e5 w5 ⟨rfl, hb5⟩
      have HB5 := Lib.hid (below_then HB4.out hb5)
      clear hb5 HB4 C3
      go_wp2_with fail
      refine (C4 _ (by omega) (by show 1 * k ≤ _; omega)).mono ?_
      rintro e6 w6 ⟨rfl, hb6⟩
      have HB6 := Lib.hid (below_then HB5.out hb6)
      clear hb6 HB5 C4
      go_wp2_with fail
      have HBb := Lib.hid (HB6.out.alloc HB6.out.size (.cells #[.string ⟨#[]⟩, .string R] 9))
      clear HB6
      refine (fjoin_any _ ⟨#[]⟩ R _ (Slab.new _ _ _) (by omega)).mono ?_
      rintro e7 w7 ⟨rfl, hb7⟩
      have HB7 := Lib.hid (below_then HBb.out hb7)
      clear hb7 HBb
      go_wp2
      refine bodyPost_ret (v := .tuple #[.string (⟨#[]⟩ ++ R), .bool true]) (by simp [results, Try.results6, go_sem]) rfl ⟨⟨⟨#[]⟩ ++ R, ?_, HF.out, rfl⟩, HB7.out⟩
      rw [ByteArray.size_append']
      omega
    · rw [ha] at C2
      have CL := llack_any s a (by omega)
      have hWL : ∀ c, LackW s a c → WordL s c := fun c hc => .inr ⟨a, ha, hc⟩
      have HWL := Lib.hid hWL
      clear hWL ha hb
      go_enter Try.func6, Try.ntmps6
      go_wp2_with fail
      refine (C1 _).mono ?_
      rintro e1 w1 ⟨rfl, hb1⟩
      have HB1 := Lib.hid hb1
      clear hb1 C1
      go_wp2_with fail
      refine (C2 _).mono ?_
      rintro e2 w2 ⟨rfl, hb2⟩
      have HB2 := Lib.hid (below_then HB1.out hb2)
      clear hb2 C2 HB1
      go_wp2_with fail
      refine (CL _).mono ?_
      rintro e3 w3 ⟨c, rfl, hlw, hb3⟩
      have hw := HWL.out c hlw
      have HB3 := Lib.hid (below_then HB2.out hb3)
      clear hb3 CL HB2 hlw HWL
      have C3 := popen_any (s ++ c) (by have := (HSZ.out _ hw).2; rw [ByteArray.size_append']; omega)
      obtain ⟨hz1, hz2⟩ := HSZ.out _ hw
      obtain ⟨k, hk⟩ : ∃ k, openF (s ++ c) = k := ⟨_, rfl⟩
      have hf := HFIN.out _ hw
      rw [hk] at hz1 C3 hf
      have HF := Lib.hid hf
      clear hw hk hf HSZ HFIN
      have C4 := srepeat_any ⟨#[41]⟩ k
      rw [repeat41] at C4
      have hrl : (⟨(List.replicate k 41).toArray⟩ : ByteArray).size = k := by show (List.replicate k (41 : UInt8)).toArray.size = k; simp
      obtain ⟨R, hR⟩ : ∃ R : ByteArray, (⟨(List.replicate k 41).toArray⟩ : ByteArray) = R := ⟨_, rfl⟩
      rw [hR] at C4 HF hrl
      clear hR
      go_wp2_with fail
      have HBa := Lib.hid (HB3.out.alloc HB3.out.size (.cells #[.string s, .string c] 9))
      clear HB3
      refine (fjoin_any _ s c _ (Slab.new _ _ _) (by omega)).mono ?_
      rintro e4 w4 ⟨rfl, hb4⟩
      have HB4 := Lib.hid (below_then HBa.out hb4)
      clear hb4 HBa
      go_wp2_with fail
      refine (C3 _).mono ?_
      rintro e5 w5 ⟨rfl, hb5⟩
      have HB5 := Lib.hid (below_then HB4.out hb5)
      clear hb5 HB4 C3
      go_wp2_with fail
      refine (C4 _ (by omega) (by show 1 * k ≤ _; omega)).mono ?_
      rintro e6 w6 ⟨rfl, hb6⟩
      have HB6 := Lib.hid (below_then HB5.out hb6)
      clear hb6 HB5 C4
      go_wp2_with fail
      have HBb := Lib.hid (HB6.out.alloc HB6.out.size (.cells #[.string c, .string R] 9))
      clear HB6
      refine (fjoin_any _ c R _ (Slab.new _ _ _) (by omega)).mono ?_
      rintro e7 w7 ⟨rfl, hb7⟩
      have HB7 := Lib.hid (below_then HBb.out hb7)
      clear hb7 HBb
      go_wp2
      refine bodyPost_ret (v := .tuple #[.string (c ++ R), .bool true]) (by simp [results, Try.results6, go_sem]) rfl ⟨⟨c ++ R, ?_, HF.out, rfl⟩, HB7.out⟩
      rw [ByteArray.size_append']
      omega
end Go.Proofs.Ytfcgmgpcbenfpaa

/- Walks: Whole, and the document's Begins and Whole. -/
namespace Go.Proofs.Ytfcgmgpcbenfpaa
open Go.RowKit SetP BrkP LexP AstP ParP
def wholeB (s : ByteArray) (i : Nat) : Bool := (parseF (s.extract 0 i)).2.1 == 0
def wholeV (s : ByteArray) (k : Nat) : List Value := (List.range k).map fun i => .bool (wholeB s i)
theorem wholeV_succ (s : ByteArray) (k : Nat) : wholeV s (k + 1) = wholeV s k ++ [.bool (wholeB s k)] := by unfold wholeV; rw [List.range_succ, List.map_append]; rfl
theorem wholeV_get (s : ByteArray) {k j : Nat} (h : j < k) : (wholeV s k)[j]? = some (.bool (wholeB s j)) := by unfold wholeV; rw [List.getElem?_map, List.getElem?_range h]; rfl
set_option maxRecDepth 100000 in
theorem info_bool : (Try.prog.info? 4).map (fun i => (i.zero, i.size, i.bytes)) = some (some (.bool false), 1, 1) := by kernel_rfl
set_option maxRecDepth 100000 in
set_option maxHeartbeats 2000000 in
theorem whole_any (s : ByteArray) (hs : s.size ≤ 200000) (w : World) : Calls Try.prog 8 #[.string s] w (RetRow 4 1 (s.size + 1) (wholeV s (s.size + 1)) w) := by
  obtain ⟨i0, hi, hz0, hz1, hz2⟩ := info_parts info_bool
  have HI := Lib.hid hi; clear hi
  have HZ0 := Lib.hid hz0; clear hz0
  have HZ1 := Lib.hid hz1; clear hz1
  have HZ2 := Lib.hid hz2; clear hz2
  go_enter Try.func8, Try.ntmps8
  go_wp2
  go_loopw [3, 11] (fun o i wr => ∃ (k : Nat) (A : Option Addr) (c : Nat), k ≤ s.size + 1 ∧ i = .int .i64 k ∧ o = .slice A k c ∧ wr.ownsRow w.heap.size 4 1 (.slice A k c) k (wholeV s k) ∧ Below w.heap.size w wr) (fun _ i _ => s.size + 1 - (intOf i).toNat)
  case atStart => exact ⟨0, none, 0, Nat.zero_le _, rfl, rfl, World.ownsRow_nil _ _ _ _, Below.refl _ _⟩
  case round =>
    obtain ⟨k, A, c, hk, rfl, rfl, hown, hB⟩ := hrel
    have HB := Lib.hid hB; clear hB
    by_cases hlt : k < s.size + 1
    · have C := pparse_any (s.extract 0 k) (by rw [ByteArray.size_extract]; omega)
      have hW := wholeV_succ s k
      unfold wholeB at hW
      obtain ⟨⟨L, er, p⟩, hR⟩ : ∃ R, parseF (s.extract 0 k) = R := ⟨_, rfl⟩
      rw [hR] at C hW
      simp only at hW
      obtain ⟨b, hbb⟩ : ∃ b, (er == 0) = b := ⟨_, rfl⟩
      rw [hbb] at hW
      have HW := Lib.hid hW
      have d1 : decide (s.size < k) = false := decide_eq_false (by omega)
      have d2 : (k : Int) ≤ (s.size : Int) := by omega
      have d3 : (k : Int) < (s.size : Int) + 1 := by omega
      have d4 : decide ((k : Int) ≤ (s.size : Int)) = true := decide_eq_true d2
      have d5 : decide ((k : Int) < (s.size : Int) + 1) = true := decide_eq_true d3
      clear hR hW
      go_wp2_with fail
      refine (C _).mono ?_
      rintro e1 w1 ⟨A1, c1, rfl, hown1, hb1⟩
      have hown2 := row_call hown hb1
      have HB1 := Lib.hid (below_then HB.out hb1)
      have hsz : w.heap.size ≤ w1.heap.size := HB1.out.size
      clear hown1 hb1 hown HB C
      go_wp2_with (at_builtin; go_must (refine wpList_append_elem _ rfl (.tmp 22) (.tmp 25) 31 rfl (w.heap.size) 4 i0 _ _ _ Try.underlying31 HI.out HZ0.out HZ1.out HZ2.out rfl (by decide) _ _ _ _ rfl hown2 #[.bool b] _ rfl (by first | rfl | simp) rfl (by simp [Value.oneCell']) (by unfold maxLen; omega) (by omega) (by first | omega | (simp; omega)) ?_); intro A4 q4 w4 hown4 hbl4)
      go_roundw
      case rel => exact ⟨k + 1, A4, q4, by omega, by go_num, rfl, by rw [HW.out]; exact hown4, HB1.out.trans hbl4⟩
      case measure => simp [intOf]; omega
    · have hke : k = s.size + 1 := by omega
      have d4 : decide ((k : Int) ≤ (s.size : Int)) = false := decide_eq_false (by omega)
      have d5 : decide ((k : Int) < (s.size : Int) + 1) = false := decide_eq_false (by omega)
      subst hke
      go_wp2
      go_ret
      exact ⟨A, c, rfl, hown, HB.out⟩
end Go.Proofs.Ytfcgmgpcbenfpaa

/- What must come whatever the input is, of beginnings; FinishTells, FinishMakes, walked. -/
namespace Go.Proofs.Ytfcgmgpcbenfpaa
open Go.RowKit SetP BrkP LexP AstP ParP
set_option maxRecDepth 100000 in
theorem fin8a (w : World) : Calls Try.prog 6 #[.string s8a] w fun e w' => (∃ t : ByteArray, t.size ≤ 500 ∧ (parseF (s8a ++ t)).2.1 = 0 ∧ e = .returned (.tuple #[.string t, .bool true])) ∧ Below w.heap.size w w' := by
  have := finish_any s8a (by decide) w
  unfold RetFin at this
  rw [beg8a] at this
  simp only [if_true] at this
  exact this
set_option maxRecDepth 100000 in
theorem fin8b (w : World) : Calls Try.prog 6 #[.string s7b] w fun e w' => e = .returned (.tuple #[.string ⟨#[]⟩, .bool false]) ∧ Below w.heap.size w w' := by
  have := finish_any s7b (by decide) w
  unfold RetFin at this
  rw [beg8b] at this
  simp only [Bool.false_eq_true, if_false] at this
  exact this
theorem whole8c : wholeV s8c 4 = [.bool true, .bool false, .bool (wholeB s8c 2), .bool true] := by
  have h0 : wholeB s8c 0 = true := by
    have : s8c.extract 0 0 = ⟨#[]⟩ := by rfl
    unfold wholeB; rw [this, parse8g]; rfl
  have h1 : wholeB s8c 1 = false := by
    have : s8c.extract 0 1 = s8f := by rfl
    unfold wholeB; rw [this, parse8f]; rfl
  have h3 : wholeB s8c 3 = true := by
    have : s8c.extract 0 3 = s8c := by rfl
    unfold wholeB; rw [this, parse8c]; rfl
  show [Value.bool (wholeB s8c 0), .bool (wholeB s8c 1), .bool (wholeB s8c 2), .bool (wholeB s8c 3)] = _
  rw [h0, h1, h3]
set_option maxRecDepth 100000 in
theorem whole8_any (w : World) : Calls Try.prog 8 #[.string s8c] w (RetRow 4 1 4 [.bool true, .bool false, .bool (wholeB s8c 2), .bool true] w) := by
  have := whole_any s8c (by decide) w
  rw [show s8c.size + 1 = 4 from rfl, whole8c] at this
  exact this
set_option maxRecDepth 100000 in
theorem beg8d_any (w : World) : Calls Try.prog 7 #[.string s8d] w fun e w' => e = .returned (.bool true) ∧ Below w.heap.size w w' := by
  have := begins8_any s8d (by decide) w; rwa [beg8d] at this
set_option maxRecDepth 100000 in
theorem beg8e_any (w : World) : Calls Try.prog 7 #[.string s8e] w fun e w' => e = .returned (.bool false) ∧ Below w.heap.size w w' := by
  have := begins8_any s8e (by decide) w; rwa [beg8e] at this
set_option maxRecDepth 100000 in
set_option maxHeartbeats 2000000 in
theorem sure8_any (w : World) : Calls Try.prog 4 #[] w fun e w' => e = .returned (.bool true) ∧ Below w.heap.size w w' := by
  go_enter Try.func4, Try.ntmps4
  go_wp2_with fail
  refine (fin8a _).mono ?_
  rintro e1 w1 ⟨⟨t, ht, hp, rfl⟩, hb1⟩
  have C3 := pparse_any (s8a ++ t) (by rw [ByteArray.size_append']; have : s8a.size = 4 := rfl; omega)
  obtain ⟨⟨L, er, p⟩, hR⟩ : ∃ R, parseF (s8a ++ t) = R := ⟨_, rfl⟩
  rw [hR] at C3 hp
  simp only at hp
  subst hp
  have HB1 := Lib.hid hb1
  clear hb1 hR
  go_wp2_with fail
  refine (fin8b _).mono ?_
  rintro e2 w2 ⟨rfl, hb2⟩
  have HB2 := Lib.hid (below_then HB1.out hb2)
  clear hb2 HB1
  go_wp2_with fail
  refine (C3 _).mono ?_
  rintro e3 w3 ⟨A3, c3, rfl, hown3, hb3⟩
  have HB3 := Lib.hid (below_then HB2.out hb3)
  clear hb3 HB2 hown3 C3
  go_wp2_with fail
  refine (whole8_any _).mono ?_
  rintro e4 w4 ⟨A4, c4, rfl, hown4, hb4⟩
  obtain ⟨g, rfl, hgb, hgl, hgc, hcell⟩ := row_cell hown4 (by decide)
  have k0 : w4.cell? ⟨g, 0, none⟩ = some (.bool true) := (hcell 0 (by decide)).trans rfl
  have k1 : w4.cell? ⟨g, 1, none⟩ = some (.bool false) := (hcell 1 (by decide)).trans rfl
  have k3 : w4.cell? ⟨g, 3, none⟩ = some (.bool true) := (hcell 3 (by decide)).trans rfl
  have hgc4 : 4 ≤ c4 := hgc
  have HB4 := Lib.hid (below_then HB3.out hb4)
  clear hb4 HB3 hown4 hcell hgc
  go_wp2_with fail
  refine (beg8d_any _).mono ?_
  rintro e5 w5 ⟨rfl, hb5⟩
  have fc5 := (bcell hb5).1
  rw [← fc5 g _ hgl] at k0 k1 k3
  have hgl5 : g < w5.heap.size := Nat.lt_of_lt_of_le hgl hb5.size
  have HB5 := Lib.hid (below_then HB4.out hb5)
  clear hb5 HB4 fc5 hgl
  go_wp2_with fail
  refine (beg8e_any _).mono ?_
  rintro e6 w6 ⟨rfl, hb6⟩
  have fc6 := (bcell hb6).1
  rw [← fc6 g _ hgl5] at k0 k1 k3
  have HB6 := Lib.hid (below_then HB5.out hb6)
  clear hb6 HB5 fc6
  go_wp2
  go_ret
  exact ⟨rfl, HB6.out⟩
end Go.Proofs.Ytfcgmgpcbenfpaa

/- FinishMakes, walked. -/
namespace Go.Proofs.Ytfcgmgpcbenfpaa
open Go.RowKit SetP BrkP LexP AstP ParP
end Go.Proofs.Ytfcgmgpcbenfpaa
