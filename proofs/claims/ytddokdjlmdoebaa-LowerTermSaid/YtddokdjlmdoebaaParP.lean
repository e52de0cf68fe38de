/- Plain facts: the tree of a pattern, word by word; what is wrong at a place is wrong there, whatever stands behind. No program is in sight. -/
import Derived.Test.YtddokdjlmdoebaaLexP
import Derived.Test.YtddokdjlmdoebaaMAsa
set_option linter.unusedVariables false
set_option linter.unusedSimpArgs false
namespace Go.Proofs.Ytddokdjlmdoebaa
open Go.RowKit SetP BrkP LexP AstP
namespace ParP
def ndS (f : Nat → Bool) : Nd := ⟨2, 0, 0, 0, f⟩
def ndE : Nd := ⟨1, 0, 0, 0, noSet⟩
def ndG : Nd := ⟨3, 1, 0, 0, noSet⟩
def ndR (n m : Int) : Nd := ⟨4, 1, n, m, noSet⟩
def ndC (k : Nat) : Nd := ⟨5, k, 0, 0, noSet⟩
def ndA (k : Nat) : Nd := ⟨6, k, 0, 0, noSet⟩
/-- What was read: the nodes; of each group that is open, the inmost one first, how many pieces its row has, and how many rows ended; how many groups. -/
structure PS where
  out : List Nd
  lv : List (Nat × Nat)
  groups : Nat
def rowN (p : Nat) : List Nd := if p = 0 then [ndE] else if 1 < p then [ndC p] else []
def rowsN (r : Nat) : List Nd := if 1 < r then [ndA r] else []
def endRow : PS → PS
  | ⟨o, (p, r) :: v, g⟩ => ⟨o ++ rowN p, (0, r + 1) :: v, g⟩
  | s => s
def endRows : PS → PS
  | ⟨o, (p, r) :: v, g⟩ => ⟨o ++ rowN p ++ rowsN (r + 1), v, g⟩
  | s => s
def addP : PS → PS
  | ⟨o, (p, r) :: v, g⟩ => ⟨o, (p + 1, r) :: v, g⟩
  | s => s
def putN (x : Nd) (s : PS) : PS := ⟨s.out ++ [x], s.lv, s.groups⟩
def takeF (s : PS) (w : Wd) : PS :=
  if w.kind == 1 then addP (putN (ndS w.set) s)
  else if w.kind == 2 then ⟨s.out, (0, 0) :: s.lv, s.groups + 1⟩
  else if w.kind == 3 then addP (putN ndG (endRows s))
  else if w.kind == 4 then endRow s
  else if w.kind == 5 then putN (ndR w.n w.m) s else s
def topP (s : PS) : Nat := match s.lv with | [] => 0 | (p, _) :: _ => p
/-- Why a word can't begin with a byte. -/
def barF (s : PS) (b : UInt8) : Int :=
  if isCnt b then (if topP s = 0 then 7 else 0) else if b == 41 then (if s.lv.length = 1 then 8 else 0) else if b == 40 then (if s.groups = 9 then 9 else 0) else 0
inductive PR where
  | ok (s : PS)
  | bad (e p : Int)
def readGo (s : ByteArray) (a : Nat) (x : PS) : PR :=
  if s.size ≤ a then .ok x
  else if barF x (bt s a) ≠ 0 then .bad (barF x (bt s a)) (a + 1)
  else if (nextW s a).err ≠ 0 then .bad (nextW s a).err (nextW s a).place
  else if a < (nextW s a).word.stop.toNat then readGo s (nextW s a).word.stop.toNat (takeF x (nextW s a).word) else .bad 0 0
termination_by s.size - a
def ps0 : PS := ⟨[], [(0, 0)], 0⟩
def parseR (n : Nat) : PR → List Nd × Int × Int
  | .bad e p => ([], e, p)
  | .ok x => if 1 < x.lv.length then ([], 2, n) else ((endRows x).out, 0, 0)
def openR : PR → Nat
  | .bad _ _ => 0
  | .ok x => x.lv.length - 1
def parseF (s : ByteArray) : List Nd × Int × Int := parseR s.size (readGo s 0 ps0)
def openF (s : ByteArray) : Nat := openR (readGo s 0 ps0)
theorem readGo_end {s : ByteArray} {a : Nat} {x : PS} (h : s.size ≤ a) : readGo s a x = .ok x := by rw [readGo, if_pos h]
theorem readGo_bar {s : ByteArray} {a : Nat} {x : PS} (h : a < s.size) (hb : barF x (bt s a) ≠ 0) : readGo s a x = .bad (barF x (bt s a)) (a + 1) := by
  rw [readGo, if_neg (by omega), if_pos hb]
theorem readGo_err {s : ByteArray} {a : Nat} {x : PS} (h : a < s.size) (hb : barF x (bt s a) = 0) (he : (nextW s a).err ≠ 0) : readGo s a x = .bad (nextW s a).err (nextW s a).place := by
  rw [readGo, if_neg (by omega), if_neg (by rw [hb]; simp), if_pos he]
theorem readGo_word {s : ByteArray} {a e : Nat} {x : PS} {w : Wd} (h : a < s.size) (hb : barF x (bt s a) = 0) (hw : nextW s a = ⟨w, 0, 0⟩) (he : w.stop = (e : Int)) : readGo s a x = readGo s e (takeF x w) := by
  have hlt : a < e := by
    have hf := nextW_fit h
    rw [hw] at hf
    generalize hr : (⟨w, 0, 0⟩ : WAns) = r at hf
    cases hf with
    | ok k e' f y z hk g1 g2 hc hn hf => cases hr; have : (e' : Int) = e := he; omega
    | short => cases hr
    | bad e' p hx g1 g2 => injection hr with h1 h2 h3; omega
  rw [readGo, if_neg (by omega), if_neg (by rw [hb]; simp), if_neg (by rw [hw]; simp), hw, he, Int.toNat_natCast, if_pos hlt]
/-- Words were read from a to b, one by one. -/
inductive Run (s : ByteArray) : Nat → PS → Nat → PS → Prop where
  | refl (a : Nat) (x : PS) : Run s a x a x
  | step {a e b : Nat} {x y : PS} {w : Wd} (ha : a < s.size) (hb : barF x (bt s a) = 0) (hw : nextW s a = ⟨w, 0, 0⟩) (he : w.stop = (e : Int)) (h : Run s e (takeF x w) b y) : Run s a x b y
theorem Run.trans {s : ByteArray} {a b c : Nat} {x y z : PS} (h : Run s a x b y) (k : Run s b y c z) : Run s a x c z := by
  induction h with
  | refl a x => exact k
  | step ha hb hw he h ih => exact .step ha hb hw he (ih k)
theorem stop_of {s : ByteArray} {a : Nat} {w : Wd} (h : a < s.size) (hw : nextW s a = ⟨w, 0, 0⟩) : ∃ e : Nat, w.stop = (e : Int) ∧ a < e ∧ e ≤ s.size := by
  have hf := nextW_fit h
  rw [hw] at hf
  generalize hr : (⟨w, 0, 0⟩ : WAns) = r at hf
  cases hf with
  | ok k e' f y z hk g1 g2 hc hn hf => cases hr; exact ⟨e', rfl, g1, g2⟩
  | short => cases hr
  | bad e' p hx g1 g2 => injection hr with h1 h2 h3; omega
theorem Run.le {s : ByteArray} {a b : Nat} {x y : PS} (h : Run s a x b y) : a ≤ b := by
  induction h with
  | refl a x => exact Nat.le_refl _
  | step ha hb hw he h ih =>
    obtain ⟨e, h1, h2, h3⟩ := stop_of ha hw
    omega
theorem Run.size {s : ByteArray} {a b : Nat} {x y : PS} (h : Run s a x b y) (hsz : a ≤ s.size) : b ≤ s.size := by
  induction h with
  | refl a x => exact hsz
  | step ha hb hw he h ih =>
    obtain ⟨e, h1, h2, h3⟩ := stop_of ha hw
    exact ih (by omega)
theorem Run.go {s : ByteArray} {a b : Nat} {x y : PS} (h : Run s a x b y) : readGo s a x = readGo s b y := by
  induction h with
  | refl a x => rfl
  | step ha hb hw he h ih => rw [readGo_word ha hb hw he, ih]
/-- How the reading ends: at the end; before a byte that can't begin a word; before a word that is none. -/
inductive Halt (s : ByteArray) (a : Nat) (x : PS) : Prop where
  | done (y : PS) (h : Run s a x s.size y) (e : readGo s a x = .ok y)
  | bar (b : Nat) (y : PS) (h : Run s a x b y) (hb : b < s.size) (h0 : barF y (bt s b) ≠ 0) (e : readGo s a x = .bad (barF y (bt s b)) (b + 1))
  | err (b : Nat) (y : PS) (h : Run s a x b y) (hb : b < s.size) (h0 : barF y (bt s b) = 0) (h1 : (nextW s b).err ≠ 0) (e : readGo s a x = .bad (nextW s b).err (nextW s b).place)
theorem halt (s : ByteArray) (a : Nat) (x : PS) (ha : a ≤ s.size) : Halt s a x := by
  induction hn : s.size - a using Nat.strongRecOn generalizing a x with
  | _ n ih =>
    by_cases h : s.size ≤ a
    · obtain rfl : a = s.size := by omega
      exact .done x (.refl _ _) (readGo_end (Nat.le_refl _))
    have h' : a < s.size := by omega
    by_cases hb : barF x (bt s a) ≠ 0
    · exact .bar a x (.refl _ _) h' hb (readGo_bar h' hb)
    have hb' : barF x (bt s a) = 0 := by simpa using hb
    by_cases h0 : (nextW s a).err ≠ 0
    · exact .err a x (.refl _ _) h' hb' h0 (readGo_err h' hb' h0)
    have h0' : (nextW s a).err = 0 := by simpa using h0
    obtain ⟨w, e, hw, he, g1, g2⟩ : ∃ w e, nextW s a = ⟨w, 0, 0⟩ ∧ w.stop = ((e : Nat) : Int) ∧ a < e ∧ e ≤ s.size := by
      have hf := nextW_fit h'
      generalize nextW s a = r at *
      cases hf with
      | ok k e f y z hk g1 g2 hc hn hf => exact ⟨_, e, rfl, rfl, g1, g2⟩
      | short => exact absurd h0' (by show ¬ (2 : Int) = 0; decide)
      | bad e p he g1 g2 => have : e = 0 := h0'; omega
    have hs := readGo_word h' hb' hw he
    cases ih (s.size - e) (by omega) e (takeF x w) g2 rfl with
    | done y h1 h2 => exact .done y (.step h' hb' hw he h1) (hs.trans h2)
    | bar b y h1 h2 h3 h4 => exact .bar b y (.step h' hb' hw he h1) h2 h3 (hs.trans h4)
    | err b y h1 h2 h3 h4 h5 => exact .err b y (.step h' hb' hw he h1) h2 h3 h4 (hs.trans h5)
theorem Run.alike {n : Nat} {s t : ByteArray} (h : BrkP.Alike n s t) {a b : Nat} {x y : PS} (hr : Run s a x b y) (hb : b ≤ n) : Run t a x b y := by
  induction hr with
  | refl a x => exact .refl a x
  | @step a e b x y w ha hb' hw he hr ih =>
    have hle := hr.le
    obtain ⟨e', h1, h2, h3⟩ := stop_of ha hw
    have ee : e = e' := by omega
    subst ee
    have hn := h.ht
    exact .step (by omega) (by rw [h.at_ a (by omega)]; exact hb') (by rw [nextW_alike h (by omega) (by rw [hw]; exact .inl ⟨rfl, by show w.stop ≤ n; omega⟩), hw]) he (ih hb)
theorem alike_symm {n : Nat} {s t : ByteArray} (h : BrkP.Alike n s t) : BrkP.Alike n t s := alike_list h.ht h.hs (alike_take h).symm
theorem alike_ext (s : ByteArray) (n : Nat) (h : n ≤ s.size) : BrkP.Alike n s (s.extract 0 n) := by
  have := alike_cut s ⟨#[]⟩ n h
  have e : s.extract 0 n ++ (⟨#[]⟩ : ByteArray) = s.extract 0 n := bytes_ext (by rw [ByteArray.data_append]; simp)
  rwa [e] at this
/-- What may come of a text: that it is a pattern; that it ends too early; an error at a place. -/
inductive Out (s : ByteArray) : Prop where
  | ok (y : PS) (h : Run s 0 ps0 s.size y) (h1 : ¬ 1 < y.lv.length) (e : parseF s = ((endRows y).out, 0, 0))
  | open_ (y : PS) (h : Run s 0 ps0 s.size y) (h1 : 1 < y.lv.length) (e : parseF s = ([], 2, (s.size : Int)))
  | short (b : Nat) (y : PS) (h : Run s 0 ps0 b y) (hb : b < s.size) (h0 : barF y (bt s b) = 0) (h2 : nextW s b = badA 2 s.size) (e : parseF s = ([], 2, (s.size : Int)))
  | bar (b : Nat) (y : PS) (h : Run s 0 ps0 b y) (hb : b < s.size) (h0 : barF y (bt s b) ≠ 0) (e : parseF s = ([], barF y (bt s b), ((b + 1 : Nat) : Int)))
  | bad (b : Nat) (y : PS) (h : Run s 0 ps0 b y) (hb : b < s.size) (h0 : barF y (bt s b) = 0) (er : Int) (p : Nat) (he : er = 3 ∨ er = 4 ∨ er = 5 ∨ er = 6) (hp : b < p) (hp2 : p ≤ s.size) (h2 : nextW s b = badA er p) (e : parseF s = ([], er, (p : Int)))
theorem outs (s : ByteArray) : Out s := by
  have hf : parseF s = parseR s.size (readGo s 0 ps0) := rfl
  cases halt s 0 ps0 (Nat.zero_le _) with
  | done y h e =>
    rw [e] at hf
    by_cases h1 : 1 < y.lv.length
    · exact .open_ y h h1 (by rw [hf]; show (if 1 < y.lv.length then _ else _) = _; rw [if_pos h1])
    · exact .ok y h h1 (by rw [hf]; show (if 1 < y.lv.length then _ else _) = _; rw [if_neg h1])
  | bar b y h hb h0 e => exact .bar b y h hb h0 (by rw [hf, e]; rfl)
  | err b y h hb h0 h1 e =>
    have hfit := nextW_fit hb
    generalize hr : nextW s b = r at *
    cases hfit with
    | ok k e f y z hk g1 g2 hc hn hf => exact absurd rfl h1
    | short => exact .short b y h hb h0 hr (by rw [hf, e]; rfl)
    | bad er p he g1 g2 => exact .bad b y h hb h0 er p he g1 g2 hr (by rw [hf, e]; rfl)
theorem bar_cases (y : PS) (b : UInt8) : barF y b = 0 ∨ barF y b = 7 ∨ barF y b = 8 ∨ barF y b = 9 := by
  unfold barF
  split
  · split <;> simp
  split
  · split <;> simp
  split
  · split <;> simp
  · simp
def BadE (e : Int) : Prop := e ≠ 0 ∧ e ≠ 2
/-- What is wrong is wrong within the text, there, whatever stands behind; nothing is wrong ahead of it. -/
theorem parse_bad {s : ByteArray} (h0 : (parseF s).2.1 ≠ 0) (h2 : (parseF s).2.1 ≠ 2) :
    ∃ k : Nat, (parseF s).2.2 = (k : Int) ∧ 0 < k ∧ k ≤ s.size ∧ (∀ t, BrkP.Alike k s t → (parseF t).2 = (parseF s).2) ∧ ∀ t n, n < k → BrkP.Alike n s t → t.size = n → ((parseF t).2.1 = 0 ∨ (parseF t).2.1 = 2) := by
  cases outs s with
  | ok y h h1 e => rw [e] at h0; exact absurd rfl h0
  | open_ y h h1 e => rw [e] at h2; exact absurd rfl h2
  | short b y h hb hbar hw e => rw [e] at h2; exact absurd rfl h2
  | bar b y h hb hbar e =>
    refine ⟨b + 1, by rw [e], by omega, by omega, fun t ht => ?_, fun t n hn ht hz => ?_⟩
    · have hr := h.alike ht (by omega)
      have h1 := ht.ht
      have := readGo_bar (x := y) (s := t) (a := b) (by omega) (by rw [ht.at_ b (by omega)]; exact hbar)
      rw [e]
      show (parseR t.size (readGo t 0 ps0)).2 = _
      rw [hr.go, this, ht.at_ b (by omega)]; rfl
    · cases outs t with
      | ok y h h1 e => rw [e]; exact .inl rfl
      | open_ y h h1 e => rw [e]; exact .inr rfl
      | short b y h hb hbar hw e => rw [e]; exact .inr rfl
      | bar b' y' h' hb' hbar' e' =>
        exfalso
        have hr := h'.alike (alike_symm ht) (by omega)
        have hs := readGo_bar (x := y') (s := s) (a := b') (by omega) (by rw [(alike_symm ht).at_ b' (by omega)]; exact hbar')
        have he : parseF s = ([], barF y' (bt s b'), ((b' + 1 : Nat) : Int)) := by
          show parseR s.size (readGo s 0 ps0) = _
          rw [hr.go, hs]; rfl
        rw [e] at he
        have := congrArg (fun x : List Nd × Int × Int => x.2.2) he
        simp only at this
        omega
      | bad b' y' h' hb' hbar' er p he hp hp2 hw e' =>
        exfalso
        have hsy := alike_symm ht
        have hr := h'.alike hsy (by omega)
        have hw' : nextW s b' = badA er p := by
          rw [nextW_alike hsy (by omega) (by rw [hw]; exact .inr ⟨by show er ≠ 0; omega, by show er ≠ 2; omega, by show (p : Int) ≤ n; omega⟩), hw]
        have hs := readGo_err (x := y') (s := s) (a := b') (by omega) (by rw [hsy.at_ b' (by omega)]; exact hbar') (by rw [hw']; show er ≠ 0; omega)
        have he : parseF s = ([], er, (p : Int)) := by
          show parseR s.size (readGo s 0 ps0) = _
          rw [hr.go, hs, hw']; rfl
        rw [e] at he
        have := congrArg (fun x : List Nd × Int × Int => x.2.2) he
        simp only at this
        omega
  | bad b y h hb hbar er p he hp hp2 hw e =>
    refine ⟨p, by rw [e], by omega, hp2, fun t ht => ?_, fun t n hn ht hz => ?_⟩
    · have hr := h.alike ht (by omega)
      have h1 := ht.ht
      have hw' : nextW t b = badA er p := by
        rw [nextW_alike ht (by omega) (by rw [hw]; exact .inr ⟨by show er ≠ 0; omega, by show er ≠ 2; omega, by show (p : Int) ≤ p; omega⟩), hw]
      have := readGo_err (x := y) (s := t) (a := b) (by omega) (by rw [ht.at_ b (by omega)]; exact hbar) (by rw [hw']; show er ≠ 0; omega)
      rw [e]
      show (parseR t.size (readGo t 0 ps0)).2 = _
      rw [hr.go, this, hw']; rfl
    · cases outs t with
      | ok y h h1 e => rw [e]; exact .inl rfl
      | open_ y h h1 e => rw [e]; exact .inr rfl
      | short b y h hb hbar hw e => rw [e]; exact .inr rfl
      | bar b' y' h' hb' hbar' e' =>
        exfalso
        have hr := h'.alike (alike_symm ht) (by omega)
        have hs := readGo_bar (x := y') (s := s) (a := b') (by omega) (by rw [(alike_symm ht).at_ b' (by omega)]; exact hbar')
        have he : parseF s = ([], barF y' (bt s b'), ((b' + 1 : Nat) : Int)) := by
          show parseR s.size (readGo s 0 ps0) = _
          rw [hr.go, hs]; rfl
        rw [e] at he
        have := congrArg (fun x : List Nd × Int × Int => x.2.2) he
        simp only at this
        omega
      | bad b' y' h' hb' hbar' er' p' he' hp' hp2' hw' e' =>
        exfalso
        have hsy := alike_symm ht
        have hr := h'.alike hsy (by omega)
        have hw2 : nextW s b' = badA er' p' := by
          rw [nextW_alike hsy (by omega) (by rw [hw']; exact .inr ⟨by show er' ≠ 0; omega, by show er' ≠ 2; omega, by show (p' : Int) ≤ n; omega⟩), hw']
        have hs := readGo_err (x := y') (s := s) (a := b') (by omega) (by rw [hsy.at_ b' (by omega)]; exact hbar') (by rw [hw2]; show er' ≠ 0; omega)
        have he2 : parseF s = ([], er', (p' : Int)) := by
          show parseR s.size (readGo s 0 ps0) = _
          rw [hr.go, hs, hw2]; rfl
        rw [e] at he2
        have := congrArg (fun x : List Nd × Int × Int => x.2.2) he2
        simp only at this
        omega
end ParP
end Go.Proofs.Ytddokdjlmdoebaa
