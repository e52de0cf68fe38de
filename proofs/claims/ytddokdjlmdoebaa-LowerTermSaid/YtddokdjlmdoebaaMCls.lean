/- A region that draws its order, walked operation by operation: each one leaves a value of which a word of its own holds, and goes on holding whatever blocks are laid later. No program is in sight. -/
import Derived.Orders
import Derived.Below
import Derived.WalkKit
import Derived.Test.YtddokdjlmdoebaaProg
import Derived.WalkSpells
import Derived.WalkLawsBesides
import Derived.Handy
import Derived.Lib.Hide
import Derived.Test.YtddokdjlmdoebaaMBset
import Derived.Test.YtddokdjlmdoebaaMMem
import Derived.Deep.MidRow
set_option linter.unusedVariables false
set_option linter.unusedSimpArgs false
namespace Go.Proofs.Ytddokdjlmdoebaa
open Go.RowKit

def upd (vs : Nat → Value) (i : Nat) (v : Value) : Nat → Value := fun j => if j = i then v else vs j
theorem upd_same (vs : Nat → Value) (i : Nat) (v : Value) : upd vs i v i = v := by simp [upd]
theorem upd_other (vs : Nat → Value) {i j : Nat} (v : Value) (h : j ≠ i) : upd vs i v j = vs j := by simp [upd, h]

def Steps (S : Nat → Oper → Prop) : Nat → List Oper → Prop
  | _, [] => True
  | k, o :: r => S k o ∧ Steps S (k + 1) r
theorem Steps.get {S : Nat → Oper → Prop} {k : Nat} {l : List Oper} (h : Steps S k l) (i : Nat) (o : Oper) (hi : l[i]? = some o) : S (k + i) o := by
  induction l generalizing k i with
  | nil => simp at hi
  | cons x r ih =>
    cases i with
    | zero => simp at hi; subst hi; exact h.1
    | succ i =>
      have := ih h.2 i (by simpa using hi)
      rwa [Nat.add_assoc, Nat.add_comm 1 i] at this

/-- One operation goes through, from the words of those that it waits for. -/
def StepOk (P : Program) (Q : Exit → Act → World → Prop) (F : (Nat → Value) → Act) (Inv : World → Prop) (Post : Nat → Value → World → Prop) (Rel : Nat → World → World → Prop) (i : Nat) (o : Oper) : Prop :=
  (o.guard = none ∧ (o.after.all fun e => decide (e.on < i)) = true) ∧ ∀ vs W, Inv W → (∀ e ∈ o.after, Region.binds .any e = true → Post e.on (vs e.on) W) →
    ∀ K : Act → World → Prop, (∀ v W', Post i v W' → Rel i W W' → K (F (upd vs i v)) W') → o.wp P (F vs) W K Q

section
variable {P : Program} {Q : Exit → Act → World → Prop} {l : List Oper} {w : World} {F : (Nat → Value) → Act} {Inv : World → Prop} {Post : Nat → Value → World → Prop} {Rel : Nat → World → World → Prop}

theorem all_listed {listed : Array Bool} (hs : Steps (StepOk P Q F Inv Post Rel) 0 l) (hz : listed.size = l.length) (hr : Region.ready .any l.toArray listed = []) (i : Nat) (hi : i < l.length) : listed.getD i false = true := by
  induction i using Nat.strongRecOn with
  | _ i ih =>
    cases hc : listed.getD i false with
    | true => rfl
    | false =>
      exfalso
      have ho : l[i]? = some l[i] := List.getElem?_eq_getElem hi
      have h1 := (hs.get i _ ho).1.2
      rw [Nat.zero_add] at h1
      have : i ∈ Region.ready .any l.toArray listed := by
        refine mem_ready.2 ⟨?_, l[i], by simp, fun e he _ => ?_⟩
        · have hlt : i < listed.size := by omega
          simp [hlt] at hc ⊢
          exact hc
        · have := (Array.all_eq_true_iff_forall_mem.1 h1) e he
          have hlt : e.on < i := by simpa using this
          exact ih _ hlt (by omega)
      rw [hr] at this
      cases this

theorem wpAny_posts (hs : Steps (StepOk P Q F Inv Post Rel) 0 l) (hinv : ∀ i W W', Inv W → Rel i W W' → Inv W') (hkeep : ∀ i j v W W', j ≠ i → Post j v W → Rel i W W' → Post j v W')
    (hend : ∀ vs W, Inv W → (∀ i, i < l.length → Post i (vs i) W) → Q .normal (F vs) W) :
    ∀ (fuel : Nat) (listed : Array Bool) (vs : Nat → Value) (W : World), listed.size = l.length → listed.toList.count false ≤ fuel → Inv W →
      (∀ i, listed.getD i false = true → Post i (vs i) W) → wpAny P .any l.toArray Q fuel listed (F vs) W
  | 0, listed, vs, W, hz, hf, hB, hp => by
    have hall : ∀ i, i < l.length → listed.getD i false = true := fun i hi => by
      have hlt : i < listed.size := by omega
      cases hc : listed.getD i false with
      | true => rfl
      | false =>
        exfalso
        have h0 : listed.toList.count false = 0 := by omega
        rw [List.count_eq_zero] at h0
        apply h0
        simp [hlt] at hc
        rw [← hc]
        simp
    refine ⟨List.eq_nil_iff_forall_not_mem.2 fun j hj => ?_, hend vs W hB fun i hi => hp i (hall i hi)⟩
    obtain ⟨hju, o, ho, _⟩ := mem_ready.1 hj
    have hlt : j < l.length := by
      have := (Array.getElem?_eq_some_iff.1 ho).1
      simpa using this
    have h1 := hall j hlt
    have hlt' : j < listed.size := by omega
    simp [hlt'] at h1 hju
    rw [h1] at hju
    cases hju
  | fuel + 1, listed, vs, W, hz, hf, hB, hp => by
    refine ⟨fun hr => hend vs W hB fun i hi => hp i (all_listed hs hz hr i hi), fun i hi => ?_⟩
    obtain ⟨hju, o, ho, hdep⟩ := mem_ready.1 hi
    have ho' : l[i]? = some o := by simpa using ho
    have hlt : i < l.length := (List.getElem?_eq_some_iff.1 ho').1
    have hlt' : i < listed.size := by omega
    obtain ⟨⟨hg, _⟩, hst⟩ := hs.get i o ho'
    rw [Nat.zero_add] at hst
    unfold wpOp
    rw [ho]
    have hw : Region.wanted o (yielded l.toArray (F vs).tmps) = true := by unfold Region.wanted; rw [hg]
    simp only [hw, if_true]
    refine .inl (hst vs W hB (fun e he hb => hp _ (hdep e he hb)) _ fun v W' hv hb => ?_)
    have hfalse : listed[i] = false := by simpa [hlt'] using hju
    refine wpAny_posts hs hinv hkeep hend fuel _ _ W' (by simpa using hz) ?_ (hinv i W W' hB hb) fun j hj => ?_
    · have hpos : 0 < listed.toList.count false := List.count_pos_iff.2 (by rw [← hfalse]; simp)
      rw [Array.toList_setIfInBounds, List.count_set (by simpa using hlt')]
      rw [show (listed.toList[i]'(by simpa using hlt') == false) = true by simp [hfalse]]
      rw [if_pos rfl, if_neg (by decide)]
      omega
    · by_cases hji : j = i
      · subst hji; rw [upd_same]; exact hv
      · rw [upd_other vs v hji]
        rw [getD_set_ne false (Ne.symm hji)] at hj
        exact hkeep i j _ _ _ hji (hp j hj) hb

/-- A region that draws its order. -/
theorem wp_region_posts {id : Nat} (F : (Nat → Value) → Act) (v0 : Nat → Value) (Inv : World → Prop) (Post : Nat → Value → World → Prop) (Rel : Nat → World → World → Prop) (hm : P.follows .mixedOrders = true)
    (h0 : Inv { w with drawn := w.drawn + 1 }) (hinv : ∀ i W W', Inv W → Rel i W W' → Inv W') (hkeep : ∀ i j v W W', j ≠ i → Post j v W → Rel i W W' → Post j v W')
    (hs : Steps (StepOk P Q F Inv Post Rel) 0 l)
    (hend : ∀ vs W, Inv W → (∀ i, i < l.length → Post i (vs i) W) → Q .normal (F vs) W) : (Code.region id l.toArray true).wp P Q (F v0) w := by
  refine wp_region_any hm ?_
  have := wpAny_posts hs hinv hkeep hend l.length (Array.replicate l.length false) v0 _ (by simp) (by simp) h0 (fun i hi => by
    exfalso
    by_cases h : i < l.length <;> simp [h] at hi)
  simpa using this
end
end Go.Proofs.Ytddokdjlmdoebaa

/- Walks of the package class: the table of all classes. -/
namespace Go.Proofs.Ytddokdjlmdoebaa
open Go.RowKit SetP
def digitF : Nat → Bool := rangeF 48 57
def upperF : Nat → Bool := rangeF 65 90
def lowerF : Nat → Bool := rangeF 97 122
def alphaF : Nat → Bool := fun x => upperF x || lowerF x
def alnumF : Nat → Bool := fun x => alphaF x || digitF x
def graphF : Nat → Bool := rangeF 33 126
def cn0F : Nat → Bool := rangeF 0 31
def sp0F : Nat → Bool := rangeF 9 13
def xuF : Nat → Bool := rangeF 65 70
def xlF : Nat → Bool := rangeF 97 102
def xaF : Nat → Bool := fun x => xuF x || xlF x
def xdigitF : Nat → Bool := fun x => digitF x || xaF x
def cntrlF : Nat → Bool := addB cn0F 127
def spaceF : Nat → Bool := addB sp0F 32
def printF : Nat → Bool := addB graphF 32
def punctF : Nat → Bool := fun x => graphF x && !alnumF x
def blankF : Nat → Bool := addL (fun _ => false) [9, 32]
set_option maxRecDepth 100000 in
theorem digit_anyr (w : World) : Calls Try.prog 205 #[.int .u8 48, .int .u8 57] w fun e w' => e = .returned (setV digitF) ∧ Below w.heap.size w w' := range_any 48 57 (by decide) (by decide) (by decide) (by decide) w
set_option maxRecDepth 100000 in
theorem upper_anyr (w : World) : Calls Try.prog 205 #[.int .u8 65, .int .u8 90] w fun e w' => e = .returned (setV upperF) ∧ Below w.heap.size w w' := range_any 65 90 (by decide) (by decide) (by decide) (by decide) w
set_option maxRecDepth 100000 in
theorem lower_anyr (w : World) : Calls Try.prog 205 #[.int .u8 97, .int .u8 122] w fun e w' => e = .returned (setV lowerF) ∧ Below w.heap.size w w' := range_any 97 122 (by decide) (by decide) (by decide) (by decide) w
set_option maxRecDepth 100000 in
theorem graph_anyr (w : World) : Calls Try.prog 205 #[.int .u8 33, .int .u8 126] w fun e w' => e = .returned (setV graphF) ∧ Below w.heap.size w w' := range_any 33 126 (by decide) (by decide) (by decide) (by decide) w
set_option maxRecDepth 100000 in
theorem cn0_anyr (w : World) : Calls Try.prog 205 #[.int .u8 0, .int .u8 31] w fun e w' => e = .returned (setV cn0F) ∧ Below w.heap.size w w' := range_any 0 31 (by decide) (by decide) (by decide) (by decide) w
set_option maxRecDepth 100000 in
theorem sp0_anyr (w : World) : Calls Try.prog 205 #[.int .u8 9, .int .u8 13] w fun e w' => e = .returned (setV sp0F) ∧ Below w.heap.size w w' := range_any 9 13 (by decide) (by decide) (by decide) (by decide) w
set_option maxRecDepth 100000 in
theorem xu_anyr (w : World) : Calls Try.prog 205 #[.int .u8 65, .int .u8 70] w fun e w' => e = .returned (setV xuF) ∧ Below w.heap.size w w' := range_any 65 70 (by decide) (by decide) (by decide) (by decide) w
set_option maxRecDepth 100000 in
theorem xl_anyr (w : World) : Calls Try.prog 205 #[.int .u8 97, .int .u8 102] w fun e w' => e = .returned (setV xlF) ∧ Below w.heap.size w w' := range_any 97 102 (by decide) (by decide) (by decide) (by decide) w
set_option maxRecDepth 100000 in
theorem alpha_any (w : World) : Calls Try.prog 204 #[setV upperF, setV lowerF] w fun e w' => e = .returned (setV alphaF) ∧ Below w.heap.size w w' := or_any _ _ w
set_option maxRecDepth 100000 in
theorem alnum_any (w : World) : Calls Try.prog 204 #[setV alphaF, setV digitF] w fun e w' => e = .returned (setV alnumF) ∧ Below w.heap.size w w' := or_any _ _ w
set_option maxRecDepth 100000 in
theorem xa_any (w : World) : Calls Try.prog 204 #[setV xuF, setV xlF] w fun e w' => e = .returned (setV xaF) ∧ Below w.heap.size w w' := or_any _ _ w
set_option maxRecDepth 100000 in
theorem xdigit_any (w : World) : Calls Try.prog 204 #[setV digitF, setV xaF] w fun e w' => e = .returned (setV xdigitF) ∧ Below w.heap.size w w' := or_any _ _ w
set_option maxRecDepth 100000 in
theorem cntrl_any (b : Nat) (w : World) (o : Slab w b #[.int .u8 127] 5) : Calls Try.prog 124 #[setV cn0F, .slice (some ⟨b, 0, none⟩) 1 1] w fun e w' => e = .returned (setV cntrlF) ∧ Below w.heap.size w w' :=
  with_one cn0F 127 (by decide) (by decide) b 1 w (o.cell 0) o.lt
set_option maxRecDepth 100000 in
theorem space_any (b : Nat) (w : World) (o : Slab w b #[.int .u8 32] 5) : Calls Try.prog 124 #[setV sp0F, .slice (some ⟨b, 0, none⟩) 1 1] w fun e w' => e = .returned (setV spaceF) ∧ Below w.heap.size w w' :=
  with_one sp0F 32 (by decide) (by decide) b 1 w (o.cell 0) o.lt
set_option maxRecDepth 100000 in
theorem print_any (b : Nat) (w : World) (o : Slab w b #[.int .u8 32] 5) : Calls Try.prog 124 #[setV graphF, .slice (some ⟨b, 0, none⟩) 1 1] w fun e w' => e = .returned (setV printF) ∧ Below w.heap.size w w' :=
  with_one graphF 32 (by decide) (by decide) b 1 w (o.cell 0) o.lt
set_option maxRecDepth 100000 in
theorem punct_any (w : World) : Calls Try.prog 123 #[setV graphF, setV alnumF] w fun e w' => e = .returned (setV punctF) ∧ Below w.heap.size w w' := less_any _ _ w
set_option maxRecDepth 100000 in
theorem blank_any (b : Nat) (w : World) (o : Slab w b #[.int .u8 9, .int .u8 32] 5) : Calls Try.prog 124 #[.agg #[.int .u64 0, .int .u64 0, .int .u64 0, .int .u64 0], .slice (some ⟨b, 0, none⟩) 2 2] w fun e w' => e = .returned (setV blankF) ∧ Below w.heap.size w w' := by
  have h := with_some (fun _ => false) b 0 2 [9, 32] w (by simp) o.lt (fun i hi => by
    have : i = 0 ∨ i = 1 := by simp at hi; omega
    rcases this with rfl | rfl
    · exact o.cell 0
    · exact o.cell 1) (fun i hi => by
    have : i = 0 ∨ i = 1 := by simp at hi; omega
    rcases this with rfl | rfl <;> decide)
  have e : setV (fun _ => false) = .agg #[.int .u64 0, .int .u64 0, .int .u64 0, .int .u64 0] := by simp only [setV, wd_zero]
  rw [e] at h
  exact h

theorem there_slab {w : World} {g : Nat} {cs : Array Value} {t : TypeId} (h : Slab w g cs t) {n : Nat} (hn : n = cs.size) : w.there g 0 n := fun j hj => by
  have hj' : j < cs.size := by omega
  rw [Nat.zero_add, h.cell, h.frozen]
  simp [hj']
theorem slab_setCells_at (g : Nat) (t : TypeId) : ∀ (vs : List Value) (o : Nat) (w : World) (cs : Array Value), Slab w g cs t → o + vs.length ≤ cs.size →
    ∃ cs' : Array Value, Slab (w.setCells g o vs) g cs' t ∧ cs'.size = cs.size ∧ (∀ j, j < o → cs'[j]? = cs[j]?) ∧ (∀ j, j < vs.length → cs'[o + j]? = vs[j]?)
  | [], _, _, cs, h, _ => ⟨cs, h, rfl, fun _ _ => rfl, fun j hj => by simp at hj⟩
  | v :: r, o, w, cs, h, hz => by
    obtain ⟨cs', h1, h2, h3, h4⟩ := slab_setCells_at g t r (o + 1) _ _ (h.set o v) (by simp at hz ⊢; omega)
    refine ⟨cs', h1, by simpa using h2, fun j hj => ?_, fun j hj => ?_⟩
    · rw [h3 j (by omega), Array.getElem?_setIfInBounds_ne (by omega)]
    · cases j with
      | zero =>
        have : o < cs.size := by simp at hz; omega
        rw [Nat.add_zero, h3 o (by omega)]
        simp [this]
      | succ j =>
        have := h4 j (by simpa using hj)
        rw [show o + (j + 1) = o + 1 + j by omega, this]
        simp
theorem slab_setCells {w : World} {g : Nat} {cs vs : Array Value} {t : TypeId} (h : Slab w g cs t) (hz : vs.size = cs.size) : Slab (w.setCells g 0 vs.toList) g vs t := by
  obtain ⟨cs', h1, h2, _, h4⟩ := slab_setCells_at g t vs.toList 0 w cs h (by simp; omega)
  have e : cs' = vs := by
    apply Array.ext_getElem?
    intro j
    by_cases hj : j < vs.size
    · have := h4 j (by simpa using hj)
      rw [Nat.zero_add] at this
      rw [this]; simp
    · rw [Array.getElem?_eq_none (by omega), Array.getElem?_eq_none (by omega)]
  rw [e] at h1; exact h1
theorem slab_setCells_far {g g' : Nat} {cs : Array Value} {t : TypeId} (hne : g' ≠ g) : ∀ (vs : List Value) (o : Nat) (w : World), Slab w g' cs t → Slab (w.setCells g o vs) g' cs t
  | [], _, _, h => h
  | _ :: r, o, _, h => slab_setCells_far hne r (o + 1) _ (h.far hne _)
theorem below_setCells {B g : Nat} (hg : B ≤ g) : ∀ (vs : List Value) (o : Nat) (a w : World), Below B a w → Below B a (w.setCells g o vs)
  | [], _, _, _, h => h
  | _ :: r, o, a, _, h => below_setCells hg r (o + 1) a _ (below_set h hg _)

theorem load_slab {P : Program} {w : World} {g : Nat} {cs : Array Value} {t : TypeId} (h : Slab w g cs t) (ty : TypeId) {d : TypeDesc} (hu : P.underlying ty = some d) (hd : d.isRow = true) (hi : (P.info? ty).map (·.size) = some cs.size) :
    (loadVar ty ⟨g, 0, none⟩).run P w = .ok (.agg cs) w := by
  have := run_loadVar_mid (P := P) w g 0 ty cs.toList d (fun j v hv => by rw [Nat.zero_add, h.cell]; simpa using hv) hu hd (by simpa using hi)
  simpa using this
theorem results_cell {P : Program} {fn : Func} {t : TypeId} {a : Tmp} (h : fn.results = #[.cell a t]) {tmps : Array Value} {w : World} {p : Addr} {v : Value} (hp : tmps.getD a undef = .pointer (some p))
    (hl : (loadVar t p).run P w = .ok v w) : (results fn tmps).run P w = .ok v w := by
  have hp' : tmps[a]?.getD undef = .pointer (some p) := by simpa using hp
  simp [results, h, hp', asAddr, hl]
def SlP (g0 : Nat) (cs : Array Value) (n : Nat) (v : Value) (W : World) : Prop := ∃ b, v = .slice (some ⟨b, 0, none⟩) n n ∧ g0 < b ∧ Slab W b cs 5
def tblCells : Array Value := #[.string ⟨#[97, 108, 110, 117, 109]⟩, .int .u64 (wd alnumF 0), .int .u64 (wd alnumF 1), .int .u64 (wd alnumF 2), .int .u64 (wd alnumF 3), .string ⟨#[97, 108, 112, 104, 97]⟩, .int .u64 (wd alphaF 0), .int .u64 (wd alphaF 1), .int .u64 (wd alphaF 2), .int .u64 (wd alphaF 3), .string ⟨#[98, 108, 97, 110, 107]⟩, .int .u64 (wd blankF 0), .int .u64 (wd blankF 1), .int .u64 (wd blankF 2), .int .u64 (wd blankF 3), .string ⟨#[99, 110, 116, 114, 108]⟩, .int .u64 (wd cntrlF 0), .int .u64 (wd cntrlF 1), .int .u64 (wd cntrlF 2), .int .u64 (wd cntrlF 3), .string ⟨#[100, 105, 103, 105, 116]⟩, .int .u64 (wd digitF 0), .int .u64 (wd digitF 1), .int .u64 (wd digitF 2), .int .u64 (wd digitF 3), .string ⟨#[103, 114, 97, 112, 104]⟩, .int .u64 (wd graphF 0), .int .u64 (wd graphF 1), .int .u64 (wd graphF 2), .int .u64 (wd graphF 3), .string ⟨#[108, 111, 119, 101, 114]⟩, .int .u64 (wd lowerF 0), .int .u64 (wd lowerF 1), .int .u64 (wd lowerF 2), .int .u64 (wd lowerF 3), .string ⟨#[112, 114, 105, 110, 116]⟩, .int .u64 (wd printF 0), .int .u64 (wd printF 1), .int .u64 (wd printF 2), .int .u64 (wd printF 3), .string ⟨#[112, 117, 110, 99, 116]⟩, .int .u64 (wd punctF 0), .int .u64 (wd punctF 1), .int .u64 (wd punctF 2), .int .u64 (wd punctF 3), .string ⟨#[115, 112, 97, 99, 101]⟩, .int .u64 (wd spaceF 0), .int .u64 (wd spaceF 1), .int .u64 (wd spaceF 2), .int .u64 (wd spaceF 3), .string ⟨#[117, 112, 112, 101, 114]⟩, .int .u64 (wd upperF 0), .int .u64 (wd upperF 1), .int .u64 (wd upperF 2), .int .u64 (wd upperF 3), .string ⟨#[120, 100, 105, 103, 105, 116]⟩, .int .u64 (wd xdigitF 0), .int .u64 (wd xdigitF 1), .int .u64 (wd xdigitF 2), .int .u64 (wd xdigitF 3)]
def tv : Nat → Value
  | 0 => setV alnumF
  | 1 => .agg #[.string ⟨#[97, 108, 110, 117, 109]⟩, .int .u64 (wd alnumF 0), .int .u64 (wd alnumF 1), .int .u64 (wd alnumF 2), .int .u64 (wd alnumF 3)]
  | 2 => setV alphaF
  | 3 => .agg #[.string ⟨#[97, 108, 112, 104, 97]⟩, .int .u64 (wd alphaF 0), .int .u64 (wd alphaF 1), .int .u64 (wd alphaF 2), .int .u64 (wd alphaF 3)]
  | 4 => .agg #[.int .u64 0, .int .u64 0, .int .u64 0, .int .u64 0]
  | 6 => setV blankF
  | 7 => .agg #[.string ⟨#[98, 108, 97, 110, 107]⟩, .int .u64 (wd blankF 0), .int .u64 (wd blankF 1), .int .u64 (wd blankF 2), .int .u64 (wd blankF 3)]
  | 8 => setV cn0F
  | 10 => setV cntrlF
  | 11 => .agg #[.string ⟨#[99, 110, 116, 114, 108]⟩, .int .u64 (wd cntrlF 0), .int .u64 (wd cntrlF 1), .int .u64 (wd cntrlF 2), .int .u64 (wd cntrlF 3)]
  | 12 => setV digitF
  | 13 => .agg #[.string ⟨#[100, 105, 103, 105, 116]⟩, .int .u64 (wd digitF 0), .int .u64 (wd digitF 1), .int .u64 (wd digitF 2), .int .u64 (wd digitF 3)]
  | 14 => setV graphF
  | 15 => .agg #[.string ⟨#[103, 114, 97, 112, 104]⟩, .int .u64 (wd graphF 0), .int .u64 (wd graphF 1), .int .u64 (wd graphF 2), .int .u64 (wd graphF 3)]
  | 16 => setV lowerF
  | 17 => .agg #[.string ⟨#[108, 111, 119, 101, 114]⟩, .int .u64 (wd lowerF 0), .int .u64 (wd lowerF 1), .int .u64 (wd lowerF 2), .int .u64 (wd lowerF 3)]
  | 18 => setV graphF
  | 20 => setV printF
  | 21 => .agg #[.string ⟨#[112, 114, 105, 110, 116]⟩, .int .u64 (wd printF 0), .int .u64 (wd printF 1), .int .u64 (wd printF 2), .int .u64 (wd printF 3)]
  | 22 => setV graphF
  | 23 => setV alnumF
  | 24 => setV punctF
  | 25 => .agg #[.string ⟨#[112, 117, 110, 99, 116]⟩, .int .u64 (wd punctF 0), .int .u64 (wd punctF 1), .int .u64 (wd punctF 2), .int .u64 (wd punctF 3)]
  | 26 => setV sp0F
  | 28 => setV spaceF
  | 29 => .agg #[.string ⟨#[115, 112, 97, 99, 101]⟩, .int .u64 (wd spaceF 0), .int .u64 (wd spaceF 1), .int .u64 (wd spaceF 2), .int .u64 (wd spaceF 3)]
  | 30 => setV upperF
  | 31 => .agg #[.string ⟨#[117, 112, 112, 101, 114]⟩, .int .u64 (wd upperF 0), .int .u64 (wd upperF 1), .int .u64 (wd upperF 2), .int .u64 (wd upperF 3)]
  | 32 => setV digitF
  | 33 => setV xuF
  | 34 => setV xlF
  | 35 => setV xaF
  | 36 => setV xdigitF
  | 37 => .agg #[.string ⟨#[120, 100, 105, 103, 105, 116]⟩, .int .u64 (wd xdigitF 0), .int .u64 (wd xdigitF 1), .int .u64 (wd xdigitF 2), .int .u64 (wd xdigitF 3)]
  | 38 => .agg tblCells
  | _ => undef
def tPost (g0 : Nat) (i : Nat) (v : Value) (W : World) : Prop :=
  if i = 5 then SlP g0 #[.int .u8 9, .int .u8 32] 2 v W else if i = 9 then SlP g0 #[.int .u8 127] 1 v W else if i = 19 then SlP g0 #[.int .u8 32] 1 v W else if i = 27 then SlP g0 #[.int .u8 32] 1 v W else if i = 39 then Slab W g0 tblCells 232 else v = tv i
structure TInv (w : World) (g g4 g5 g6 : Nat) (W : World) : Prop where
  n1 : w.heap.size < g
  n4 : w.heap.size < g4
  n5 : w.heap.size < g5
  n6 : w.heap.size < g6
  below : Below w.heap.size w W
  s0 : ∃ cs : Array Value, cs.size = 60 ∧ Slab W w.heap.size cs 232
  s1 : Slab W g (cells4 digitF) 41
  s2 : Slab W (g + 1) (cells4 upperF) 41
  s3 : Slab W (g + 1 + 1) (cells4 lowerF) 41
  s4 : Slab W g4 (cells4 alphaF) 41
  s5 : Slab W g5 (cells4 alnumF) 41
  s6 : Slab W g6 (cells4 graphF) 41
def TRel (g0 : Nat) (i : Nat) (W W' : World) : Prop := if i = 39 then W' = W.setCells g0 0 tblCells.toList else Below W.heap.size W W'
theorem TInv.drew {w : World} {g g4 g5 g6 : Nat} {W : World} (h : TInv w g g4 g5 g6 W) : TInv w g g4 g5 g6 { W with drawn := W.drawn + 1 } :=
  ⟨h.n1, h.n4, h.n5, h.n6, h.below.drew, h.s0, h.s1, h.s2, h.s3, h.s4, h.s5, h.s6⟩
theorem TInv.keep {w : World} {g g4 g5 g6 : Nat} {W W' : World} {i : Nat} (h : TInv w g g4 g5 g6 W) (hr : TRel w.heap.size i W W') : TInv w g g4 g5 g6 W' := by
  have n1 := h.n1; have n4 := h.n4; have n5 := h.n5; have n6 := h.n6
  unfold TRel at hr
  obtain ⟨cs, hz, o0⟩ := h.s0
  split at hr
  · subst hr
    exact ⟨n1, n4, n5, n6, below_setCells (Nat.le_refl _) _ _ _ _ h.below, ⟨tblCells, by kernel_rfl, slab_setCells o0 (by rw [hz]; kernel_rfl)⟩,
      slab_setCells_far (by omega) _ _ _ h.s1, slab_setCells_far (by omega) _ _ _ h.s2, slab_setCells_far (by omega) _ _ _ h.s3, slab_setCells_far (by omega) _ _ _ h.s4, slab_setCells_far (by omega) _ _ _ h.s5, slab_setCells_far (by omega) _ _ _ h.s6⟩
  · exact ⟨n1, n4, n5, n6, h.below.trans (hr.mono h.below.size), ⟨cs, hz, o0.call hr⟩, h.s1.call hr, h.s2.call hr, h.s3.call hr, h.s4.call hr, h.s5.call hr, h.s6.call hr⟩
theorem SlP.keep {g0 i n : Nat} {cs : Array Value} {v : Value} {W W' : World} (h : SlP g0 cs n v W) (hr : TRel g0 i W W') : SlP g0 cs n v W' := by
  obtain ⟨b, rfl, hb, o⟩ := h
  unfold TRel at hr
  split at hr
  · subst hr; exact ⟨b, rfl, hb, slab_setCells_far (by omega) _ _ _ o⟩
  · exact ⟨b, rfl, hb, o.call hr⟩
theorem tPost_keep {g0 i j : Nat} {v : Value} {W W' : World} (hne : j ≠ i) (h : tPost g0 j v W) (hr : TRel g0 i W W') : tPost g0 j v W' := by
  unfold tPost at h ⊢
  split
  · rename_i e; rw [if_pos e] at h; exact h.keep hr
  rename_i e; rw [if_neg e] at h
  split
  · rename_i e; rw [if_pos e] at h; exact h.keep hr
  rename_i e; rw [if_neg e] at h
  split
  · rename_i e; rw [if_pos e] at h; exact h.keep hr
  rename_i e; rw [if_neg e] at h
  split
  · rename_i e; rw [if_pos e] at h; exact h.keep hr
  rename_i e; rw [if_neg e] at h
  split
  · rename_i e
    rw [if_pos e] at h
    unfold TRel at hr
    rw [if_neg (by omega)] at hr
    exact h.call hr
  · rename_i e; rw [if_neg e] at h; exact h
set_option maxRecDepth 100000 in
set_option maxHeartbeats 2000000 in
theorem table_any (w : World) :
    Calls Try.prog 200 #[] w fun e w' => e = .returned (.agg tblCells) ∧ Below w.heap.size w w' := by
  go_enter Try.func200, Try.ntmps200
  go_wp2_with fail
  refine (digit_anyr _).mono ?_
  rintro e1 w1 ⟨rfl, hb1⟩
  go_wp2_with fail
  refine (upper_anyr _).mono ?_
  rintro e2 w2 ⟨rfl, hb2⟩
  go_wp2_with fail
  refine (lower_anyr _).mono ?_
  rintro e3 w3 ⟨rfl, hb3⟩
  have o0 : Slab w3 w.heap.size _ 232 := (((Slab.new w _ _).call hb1).call hb2).call hb3
  have HB3 := Lib.hid (below_then (below_then (below_then ((Below.refl _ w).alloc (Nat.le_refl _) _) hb1) hb2) hb3)
  clear hb1 hb2 hb3
  go_wp2_with fail
  refine (alpha_any _).mono ?_
  rintro e4 w4 ⟨rfl, hb4⟩
  have o1 : Slab w4 w3.heap.size (cells4 digitF) 41 := (((Slab.new w3 _ _).alloc _).alloc _).call hb4
  have o2 : Slab w4 (w3.heap.size + 1) (cells4 upperF) 41 := ((Slab.newAt _ _ _ (by simp)).alloc _).call hb4
  have o3 : Slab w4 (w3.heap.size + 1 + 1) (cells4 lowerF) 41 := (Slab.newAt _ _ _ (by simp)).call hb4
  have o0' : Slab w4 w.heap.size _ 232 := (((o0.alloc _).alloc _).alloc _).call hb4
  have HB4 := Lib.hid (below_then (((HB3.out.alloc HB3.out.size _).alloc (Nat.le_trans HB3.out.size (by simp)) _).alloc (Nat.le_trans HB3.out.size (by simp; omega)) _) hb4)
  have n1 := o0.lt
  have n4 := o0'.lt
  clear hb4 o0 HB3
  generalize hg : w3.heap.size = g at *
  clear hg
  obtain ⟨c1, f1⟩ := Slab.facts (o1.alloc (.cells (cells4 alphaF) 41))
  go_wp2_with fail
  refine (alnum_any _).mono ?_
  rintro e5 w5 ⟨rfl, hb5⟩
  have p1 := (o1.alloc (.cells (cells4 alphaF) 41)).call hb5
  have p2 := (o2.alloc (.cells (cells4 alphaF) 41)).call hb5
  have p3 := (o3.alloc (.cells (cells4 alphaF) 41)).call hb5
  have p0 := (o0'.alloc (.cells (cells4 alphaF) 41)).call hb5
  have p4 : Slab w5 w4.heap.size (cells4 alphaF) 41 := (Slab.new _ _ _).call hb5
  have HB5 := Lib.hid (below_then (HB4.out.alloc HB4.out.size (.cells (cells4 alphaF) 41)) hb5)
  have n5 := p0.lt
  clear hb5 o1 o2 o3 o0' c1 f1 HB4
  generalize hg : w4.heap.size = g4 at *
  clear hg
  go_wp2_with fail
  refine (graph_anyr _).mono ?_
  rintro e6 w6 ⟨rfl, hb6⟩
  have q1 := ((p1.alloc (.cells (cells4 alnumF) 41)).call hb6).alloc (.cells (cells4 graphF) 41)
  have q2 := ((p2.alloc (.cells (cells4 alnumF) 41)).call hb6).alloc (.cells (cells4 graphF) 41)
  have q3 := ((p3.alloc (.cells (cells4 alnumF) 41)).call hb6).alloc (.cells (cells4 graphF) 41)
  have q0 := ((p0.alloc (.cells (cells4 alnumF) 41)).call hb6).alloc (.cells (cells4 graphF) 41)
  have q4 := ((p4.alloc (.cells (cells4 alnumF) 41)).call hb6).alloc (.cells (cells4 graphF) 41)
  have q5 : Slab (w6.alloc (.cells (cells4 graphF) 41)) w5.heap.size (cells4 alnumF) 41 := ((Slab.new _ _ _).call hb6).alloc _
  have q6 : Slab (w6.alloc (.cells (cells4 graphF) 41)) w6.heap.size (cells4 graphF) 41 := Slab.new _ _ _
  have HB6' := below_then (HB5.out.alloc HB5.out.size (.cells (cells4 alnumF) 41)) hb6
  have HB6 := Lib.hid (HB6'.alloc HB6'.size (.cells (cells4 graphF) 41))
  have n6 := ((p0.alloc (.cells (cells4 alnumF) 41)).call hb6).lt
  clear hb6 p1 p2 p3 p0 p4 HB5 HB6'
  go_wp2_with fail
  generalize hg : w5.heap.size = g5 at *
  clear hg
  generalize hg : w6.heap.size = g6 at *
  clear hg
  have hI : TInv w g g4 g5 g6 (w6.alloc (.cells (cells4 graphF) 41)) := ⟨n1, n4, n5, n6, HB6.out, ⟨_, by rfl, q0⟩, q1, q2, q3, q4, q5, q6⟩
  clear n1 n4 n5 n6 q0 q1 q2 q3 q4 q5 q6 HB6
  generalize hw : w6.alloc (.cells (cells4 graphF) 41) = W6 at *
  clear hw
  refine wp_region_posts (fun vs => { tmps := #[.pointer (some ⟨w.heap.size, 0, none⟩), .pointer (some ⟨g, 0, none⟩), .pointer (some ⟨g + 1, 0, none⟩), .pointer (some ⟨g + 1 + 1, 0, none⟩), .pointer (some ⟨g4, 0, none⟩), .pointer (some ⟨g5, 0, none⟩), .pointer (some ⟨g6, 0, none⟩), setV digitF, setV upperF, setV lowerF, setV upperF, setV lowerF, setV alphaF, setV alphaF, setV digitF, setV alnumF, setV graphF, vs 0, vs 1, vs 2, vs 3, vs 4, vs 5, vs 6, vs 7, vs 8, vs 9, vs 10, vs 11, vs 12, vs 13, vs 14, vs 15, vs 16, vs 17, vs 18, vs 19, vs 20, vs 21, vs 22, vs 23, vs 24, vs 25, vs 26, vs 27, vs 28, vs 29, vs 30, vs 31, vs 32, vs 33, vs 34, vs 35, vs 36, vs 37, vs 38], defers := [] }) (fun _ => undef) (TInv w g g4 g5 g6) (tPost w.heap.size) (TRel w.heap.size) (by kernel_rfl) ?h0 ?hinv ?hkeep ⟨?_, ?_, ?_, ?_, ?_, ?_, ?_, ?_, ?_, ?_, ?_, ?_, ?_, ?_, ?_, ?_, ?_, ?_, ?_, ?_, ?_, ?_, ?_, ?_, ?_, ?_, ?_, ?_, ?_, ?_, ?_, ?_, ?_, ?_, ?_, ?_, ?_, ?_, ?_, ?_, trivial⟩ ?hend
  case h0 => exact hI.drew
  case hinv => exact fun i W W' h1 h2 => h1.keep h2
  case hkeep => exact fun i j v W W' hne h1 h2 => tPost_keep hne h1 h2
  case hend =>
    intro vs W hI hp
    have o0 : Slab W w.heap.size tblCells 232 := hp 39 (by simp)
    have HB := Lib.hid hI.below
    clear hp hI
    have hld := load_slab (P := Try.prog) o0 232 Try.underlying232 rfl (by kernel_rfl)
    clear o0
    have HL := Lib.hid hld; clear hld
    go_wp2
    have hld := HL.out
    refine bodyPost_ret (v := .agg tblCells) (results_cell rfl rfl hld) rfl ⟨rfl, HB.out⟩
  · -- 0 ('load', 'alnum', 's5')
    refine ⟨⟨rfl, by kernel_rfl⟩, fun vs W hI hd K hK => ?_⟩
    obtain ⟨c0, f0⟩ := hI.s5.facts
    clear hd
    simp only [upd, Nat.reduceAdd, Nat.reduceEqDiff, reduceIte] at hK
    go_simp
    exact hK _ _ rfl (show Below _ _ _ from Below.refl _ _)
  · -- 1 ('build', 'alnum', 0)
    refine ⟨⟨rfl, by kernel_rfl⟩, fun vs W hI hd K hK => ?_⟩
    have d0 : vs 0 = setV alnumF := hd ⟨0, .data⟩ (by simp) rfl
    clear hd
    simp only [upd, Nat.reduceAdd, Nat.reduceEqDiff, reduceIte, d0] at hK
    go_simp
    exact hK _ _ rfl (show Below _ _ _ from Below.refl _ _)
  · -- 2 ('load', 'alpha', 's4')
    refine ⟨⟨rfl, by kernel_rfl⟩, fun vs W hI hd K hK => ?_⟩
    obtain ⟨c0, f0⟩ := hI.s4.facts
    clear hd
    simp only [upd, Nat.reduceAdd, Nat.reduceEqDiff, reduceIte] at hK
    go_simp
    exact hK _ _ rfl (show Below _ _ _ from Below.refl _ _)
  · -- 3 ('build', 'alpha', 2)
    refine ⟨⟨rfl, by kernel_rfl⟩, fun vs W hI hd K hK => ?_⟩
    have d0 : vs 2 = setV alphaF := hd ⟨2, .data⟩ (by simp) rfl
    clear hd
    simp only [upd, Nat.reduceAdd, Nat.reduceEqDiff, reduceIte, d0] at hK
    go_simp
    exact hK _ _ rfl (show Below _ _ _ from Below.refl _ _)
  · -- 4 ('zero',)
    refine ⟨⟨rfl, by kernel_rfl⟩, fun vs W hI hd K hK => ?_⟩
    clear hd
    simp only [upd, Nat.reduceAdd, Nat.reduceEqDiff, reduceIte] at hK
    go_simp
    exact hK _ _ rfl (show Below _ _ _ from Below.refl _ _)
  · -- 5 ('slice', [9, 32])
    refine ⟨⟨rfl, by kernel_rfl⟩, fun vs W hI hd K hK => ?_⟩
    clear hd
    simp only [upd, Nat.reduceAdd, Nat.reduceEqDiff, reduceIte] at hK
    go_simp
    exact hK _ _ ⟨_, rfl, (by obtain ⟨_, _, o0⟩ := hI.s0; exact o0.lt), Slab.newAt _ _ _ (by simp)⟩ (show Below _ _ _ by (repeat' (first | (with_reducible exact Below.refl _ _) | (with_reducible assumption) | (with_reducible refine Below.alloc ?_ ?_ _) | (with_reducible refine Below.drew ?_) | (with_reducible refine below_set ?_ ?_ _) | (with_reducible refine below_call ?_ ?_ (by assumption)) | (with_reducible exact Below.size (by assumption)) | omega | go_size)))
  · -- 6 ('call', 'blank_any _ _ sl', [4, 5], 'blank')
    refine ⟨⟨rfl, by kernel_rfl⟩, fun vs W hI hd K hK => ?_⟩
    have d4 : vs 4 = tv 4 := hd ⟨4, .data⟩ (by simp) rfl
    simp only [tv] at d4
    obtain ⟨b, d5, _, sl⟩ : SlP w.heap.size #[.int .u8 9, .int .u8 32] 2 (vs 5) W := hd ⟨5, .data⟩ (by simp) rfl
    clear hd
    have SL := Lib.hid sl; clear sl
    simp only [upd, Nat.reduceAdd, Nat.reduceEqDiff, reduceIte, d4, d5] at hK
    go_simp
    refine (blank_any _ _ SL.out).mono ?_
    rintro e1 w1 ⟨rfl, hb1⟩
    exact hK _ _ rfl (show Below _ _ _ from hb1)
  · -- 7 ('build', 'blank', 6)
    refine ⟨⟨rfl, by kernel_rfl⟩, fun vs W hI hd K hK => ?_⟩
    have d0 : vs 6 = setV blankF := hd ⟨6, .data⟩ (by simp) rfl
    clear hd
    simp only [upd, Nat.reduceAdd, Nat.reduceEqDiff, reduceIte, d0] at hK
    go_simp
    exact hK _ _ rfl (show Below _ _ _ from Below.refl _ _)
  · -- 8 ('call', 'cn0_anyr _', [], 'cn0')
    refine ⟨⟨rfl, by kernel_rfl⟩, fun vs W hI hd K hK => ?_⟩
    clear hd
    simp only [upd, Nat.reduceAdd, Nat.reduceEqDiff, reduceIte] at hK
    go_simp
    refine (cn0_anyr _).mono ?_
    rintro e1 w1 ⟨rfl, hb1⟩
    exact hK _ _ rfl (show Below _ _ _ from hb1)
  · -- 9 ('slice', [127])
    refine ⟨⟨rfl, by kernel_rfl⟩, fun vs W hI hd K hK => ?_⟩
    clear hd
    simp only [upd, Nat.reduceAdd, Nat.reduceEqDiff, reduceIte] at hK
    go_simp
    exact hK _ _ ⟨_, rfl, (by obtain ⟨_, _, o0⟩ := hI.s0; exact o0.lt), Slab.newAt _ _ _ (by simp)⟩ (show Below _ _ _ by (repeat' (first | (with_reducible exact Below.refl _ _) | (with_reducible assumption) | (with_reducible refine Below.alloc ?_ ?_ _) | (with_reducible refine Below.drew ?_) | (with_reducible refine below_set ?_ ?_ _) | (with_reducible refine below_call ?_ ?_ (by assumption)) | (with_reducible exact Below.size (by assumption)) | omega | go_size)))
  · -- 10 ('call', 'cntrl_any _ _ sl', [8, 9], 'cntrl')
    refine ⟨⟨rfl, by kernel_rfl⟩, fun vs W hI hd K hK => ?_⟩
    have d8 : vs 8 = tv 8 := hd ⟨8, .data⟩ (by simp) rfl
    simp only [tv] at d8
    obtain ⟨b, d9, _, sl⟩ : SlP w.heap.size #[.int .u8 127] 1 (vs 9) W := hd ⟨9, .data⟩ (by simp) rfl
    clear hd
    have SL := Lib.hid sl; clear sl
    simp only [upd, Nat.reduceAdd, Nat.reduceEqDiff, reduceIte, d8, d9] at hK
    go_simp
    refine (cntrl_any _ _ SL.out).mono ?_
    rintro e1 w1 ⟨rfl, hb1⟩
    exact hK _ _ rfl (show Below _ _ _ from hb1)
  · -- 11 ('build', 'cntrl', 10)
    refine ⟨⟨rfl, by kernel_rfl⟩, fun vs W hI hd K hK => ?_⟩
    have d0 : vs 10 = setV cntrlF := hd ⟨10, .data⟩ (by simp) rfl
    clear hd
    simp only [upd, Nat.reduceAdd, Nat.reduceEqDiff, reduceIte, d0] at hK
    go_simp
    exact hK _ _ rfl (show Below _ _ _ from Below.refl _ _)
  · -- 12 ('load', 'digit', 's1')
    refine ⟨⟨rfl, by kernel_rfl⟩, fun vs W hI hd K hK => ?_⟩
    obtain ⟨c0, f0⟩ := hI.s1.facts
    clear hd
    simp only [upd, Nat.reduceAdd, Nat.reduceEqDiff, reduceIte] at hK
    go_simp
    exact hK _ _ rfl (show Below _ _ _ from Below.refl _ _)
  · -- 13 ('build', 'digit', 12)
    refine ⟨⟨rfl, by kernel_rfl⟩, fun vs W hI hd K hK => ?_⟩
    have d0 : vs 12 = setV digitF := hd ⟨12, .data⟩ (by simp) rfl
    clear hd
    simp only [upd, Nat.reduceAdd, Nat.reduceEqDiff, reduceIte, d0] at hK
    go_simp
    exact hK _ _ rfl (show Below _ _ _ from Below.refl _ _)
  · -- 14 ('load', 'graph', 's6')
    refine ⟨⟨rfl, by kernel_rfl⟩, fun vs W hI hd K hK => ?_⟩
    obtain ⟨c0, f0⟩ := hI.s6.facts
    clear hd
    simp only [upd, Nat.reduceAdd, Nat.reduceEqDiff, reduceIte] at hK
    go_simp
    exact hK _ _ rfl (show Below _ _ _ from Below.refl _ _)
  · -- 15 ('build', 'graph', 14)
    refine ⟨⟨rfl, by kernel_rfl⟩, fun vs W hI hd K hK => ?_⟩
    have d0 : vs 14 = setV graphF := hd ⟨14, .data⟩ (by simp) rfl
    clear hd
    simp only [upd, Nat.reduceAdd, Nat.reduceEqDiff, reduceIte, d0] at hK
    go_simp
    exact hK _ _ rfl (show Below _ _ _ from Below.refl _ _)
  · -- 16 ('load', 'lower', 's3')
    refine ⟨⟨rfl, by kernel_rfl⟩, fun vs W hI hd K hK => ?_⟩
    obtain ⟨c0, f0⟩ := hI.s3.facts
    clear hd
    simp only [upd, Nat.reduceAdd, Nat.reduceEqDiff, reduceIte] at hK
    go_simp
    exact hK _ _ rfl (show Below _ _ _ from Below.refl _ _)
  · -- 17 ('build', 'lower', 16)
    refine ⟨⟨rfl, by kernel_rfl⟩, fun vs W hI hd K hK => ?_⟩
    have d0 : vs 16 = setV lowerF := hd ⟨16, .data⟩ (by simp) rfl
    clear hd
    simp only [upd, Nat.reduceAdd, Nat.reduceEqDiff, reduceIte, d0] at hK
    go_simp
    exact hK _ _ rfl (show Below _ _ _ from Below.refl _ _)
  · -- 18 ('load', 'graph', 's6')
    refine ⟨⟨rfl, by kernel_rfl⟩, fun vs W hI hd K hK => ?_⟩
    obtain ⟨c0, f0⟩ := hI.s6.facts
    clear hd
    simp only [upd, Nat.reduceAdd, Nat.reduceEqDiff, reduceIte] at hK
    go_simp
    exact hK _ _ rfl (show Below _ _ _ from Below.refl _ _)
  · -- 19 ('slice', [32])
    refine ⟨⟨rfl, by kernel_rfl⟩, fun vs W hI hd K hK => ?_⟩
    clear hd
    simp only [upd, Nat.reduceAdd, Nat.reduceEqDiff, reduceIte] at hK
    go_simp
    exact hK _ _ ⟨_, rfl, (by obtain ⟨_, _, o0⟩ := hI.s0; exact o0.lt), Slab.newAt _ _ _ (by simp)⟩ (show Below _ _ _ by (repeat' (first | (with_reducible exact Below.refl _ _) | (with_reducible assumption) | (with_reducible refine Below.alloc ?_ ?_ _) | (with_reducible refine Below.drew ?_) | (with_reducible refine below_set ?_ ?_ _) | (with_reducible refine below_call ?_ ?_ (by assumption)) | (with_reducible exact Below.size (by assumption)) | omega | go_size)))
  · -- 20 ('call', 'print_any _ _ sl', [18, 19], 'print')
    refine ⟨⟨rfl, by kernel_rfl⟩, fun vs W hI hd K hK => ?_⟩
    have d18 : vs 18 = tv 18 := hd ⟨18, .data⟩ (by simp) rfl
    simp only [tv] at d18
    obtain ⟨b, d19, _, sl⟩ : SlP w.heap.size #[.int .u8 32] 1 (vs 19) W := hd ⟨19, .data⟩ (by simp) rfl
    clear hd
    have SL := Lib.hid sl; clear sl
    simp only [upd, Nat.reduceAdd, Nat.reduceEqDiff, reduceIte, d18, d19] at hK
    go_simp
    refine (print_any _ _ SL.out).mono ?_
    rintro e1 w1 ⟨rfl, hb1⟩
    exact hK _ _ rfl (show Below _ _ _ from hb1)
  · -- 21 ('build', 'print', 20)
    refine ⟨⟨rfl, by kernel_rfl⟩, fun vs W hI hd K hK => ?_⟩
    have d0 : vs 20 = setV printF := hd ⟨20, .data⟩ (by simp) rfl
    clear hd
    simp only [upd, Nat.reduceAdd, Nat.reduceEqDiff, reduceIte, d0] at hK
    go_simp
    exact hK _ _ rfl (show Below _ _ _ from Below.refl _ _)
  · -- 22 ('load', 'graph', 's6')
    refine ⟨⟨rfl, by kernel_rfl⟩, fun vs W hI hd K hK => ?_⟩
    obtain ⟨c0, f0⟩ := hI.s6.facts
    clear hd
    simp only [upd, Nat.reduceAdd, Nat.reduceEqDiff, reduceIte] at hK
    go_simp
    exact hK _ _ rfl (show Below _ _ _ from Below.refl _ _)
  · -- 23 ('load', 'alnum', 's5')
    refine ⟨⟨rfl, by kernel_rfl⟩, fun vs W hI hd K hK => ?_⟩
    obtain ⟨c0, f0⟩ := hI.s5.facts
    clear hd
    simp only [upd, Nat.reduceAdd, Nat.reduceEqDiff, reduceIte] at hK
    go_simp
    exact hK _ _ rfl (show Below _ _ _ from Below.refl _ _)
  · -- 24 ('call', 'punct_any _', [22, 23], 'punct')
    refine ⟨⟨rfl, by kernel_rfl⟩, fun vs W hI hd K hK => ?_⟩
    have d22 : vs 22 = tv 22 := hd ⟨22, .data⟩ (by simp) rfl
    simp only [tv] at d22
    have d23 : vs 23 = tv 23 := hd ⟨23, .data⟩ (by simp) rfl
    simp only [tv] at d23
    clear hd
    simp only [upd, Nat.reduceAdd, Nat.reduceEqDiff, reduceIte, d22, d23] at hK
    go_simp
    refine (punct_any _).mono ?_
    rintro e1 w1 ⟨rfl, hb1⟩
    exact hK _ _ rfl (show Below _ _ _ from hb1)
  · -- 25 ('build', 'punct', 24)
    refine ⟨⟨rfl, by kernel_rfl⟩, fun vs W hI hd K hK => ?_⟩
    have d0 : vs 24 = setV punctF := hd ⟨24, .data⟩ (by simp) rfl
    clear hd
    simp only [upd, Nat.reduceAdd, Nat.reduceEqDiff, reduceIte, d0] at hK
    go_simp
    exact hK _ _ rfl (show Below _ _ _ from Below.refl _ _)
  · -- 26 ('call', 'sp0_anyr _', [], 'sp0')
    refine ⟨⟨rfl, by kernel_rfl⟩, fun vs W hI hd K hK => ?_⟩
    clear hd
    simp only [upd, Nat.reduceAdd, Nat.reduceEqDiff, reduceIte] at hK
    go_simp
    refine (sp0_anyr _).mono ?_
    rintro e1 w1 ⟨rfl, hb1⟩
    exact hK _ _ rfl (show Below _ _ _ from hb1)
  · -- 27 ('slice', [32])
    refine ⟨⟨rfl, by kernel_rfl⟩, fun vs W hI hd K hK => ?_⟩
    clear hd
    simp only [upd, Nat.reduceAdd, Nat.reduceEqDiff, reduceIte] at hK
    go_simp
    exact hK _ _ ⟨_, rfl, (by obtain ⟨_, _, o0⟩ := hI.s0; exact o0.lt), Slab.newAt _ _ _ (by simp)⟩ (show Below _ _ _ by (repeat' (first | (with_reducible exact Below.refl _ _) | (with_reducible assumption) | (with_reducible refine Below.alloc ?_ ?_ _) | (with_reducible refine Below.drew ?_) | (with_reducible refine below_set ?_ ?_ _) | (with_reducible refine below_call ?_ ?_ (by assumption)) | (with_reducible exact Below.size (by assumption)) | omega | go_size)))
  · -- 28 ('call', 'space_any _ _ sl', [26, 27], 'space')
    refine ⟨⟨rfl, by kernel_rfl⟩, fun vs W hI hd K hK => ?_⟩
    have d26 : vs 26 = tv 26 := hd ⟨26, .data⟩ (by simp) rfl
    simp only [tv] at d26
    obtain ⟨b, d27, _, sl⟩ : SlP w.heap.size #[.int .u8 32] 1 (vs 27) W := hd ⟨27, .data⟩ (by simp) rfl
    clear hd
    have SL := Lib.hid sl; clear sl
    simp only [upd, Nat.reduceAdd, Nat.reduceEqDiff, reduceIte, d26, d27] at hK
    go_simp
    refine (space_any _ _ SL.out).mono ?_
    rintro e1 w1 ⟨rfl, hb1⟩
    exact hK _ _ rfl (show Below _ _ _ from hb1)
  · -- 29 ('build', 'space', 28)
    refine ⟨⟨rfl, by kernel_rfl⟩, fun vs W hI hd K hK => ?_⟩
    have d0 : vs 28 = setV spaceF := hd ⟨28, .data⟩ (by simp) rfl
    clear hd
    simp only [upd, Nat.reduceAdd, Nat.reduceEqDiff, reduceIte, d0] at hK
    go_simp
    exact hK _ _ rfl (show Below _ _ _ from Below.refl _ _)
  · -- 30 ('load', 'upper', 's2')
    refine ⟨⟨rfl, by kernel_rfl⟩, fun vs W hI hd K hK => ?_⟩
    obtain ⟨c0, f0⟩ := hI.s2.facts
    clear hd
    simp only [upd, Nat.reduceAdd, Nat.reduceEqDiff, reduceIte] at hK
    go_simp
    exact hK _ _ rfl (show Below _ _ _ from Below.refl _ _)
  · -- 31 ('build', 'upper', 30)
    refine ⟨⟨rfl, by kernel_rfl⟩, fun vs W hI hd K hK => ?_⟩
    have d0 : vs 30 = setV upperF := hd ⟨30, .data⟩ (by simp) rfl
    clear hd
    simp only [upd, Nat.reduceAdd, Nat.reduceEqDiff, reduceIte, d0] at hK
    go_simp
    exact hK _ _ rfl (show Below _ _ _ from Below.refl _ _)
  · -- 32 ('load', 'digit', 's1')
    refine ⟨⟨rfl, by kernel_rfl⟩, fun vs W hI hd K hK => ?_⟩
    obtain ⟨c0, f0⟩ := hI.s1.facts
    clear hd
    simp only [upd, Nat.reduceAdd, Nat.reduceEqDiff, reduceIte] at hK
    go_simp
    exact hK _ _ rfl (show Below _ _ _ from Below.refl _ _)
  · -- 33 ('call', 'xu_anyr _', [], 'xu')
    refine ⟨⟨rfl, by kernel_rfl⟩, fun vs W hI hd K hK => ?_⟩
    clear hd
    simp only [upd, Nat.reduceAdd, Nat.reduceEqDiff, reduceIte] at hK
    go_simp
    refine (xu_anyr _).mono ?_
    rintro e1 w1 ⟨rfl, hb1⟩
    exact hK _ _ rfl (show Below _ _ _ from hb1)
  · -- 34 ('call', 'xl_anyr _', [], 'xl')
    refine ⟨⟨rfl, by kernel_rfl⟩, fun vs W hI hd K hK => ?_⟩
    clear hd
    simp only [upd, Nat.reduceAdd, Nat.reduceEqDiff, reduceIte] at hK
    go_simp
    refine (xl_anyr _).mono ?_
    rintro e1 w1 ⟨rfl, hb1⟩
    exact hK _ _ rfl (show Below _ _ _ from hb1)
  · -- 35 ('call', 'xa_any _', [33, 34], 'xa')
    refine ⟨⟨rfl, by kernel_rfl⟩, fun vs W hI hd K hK => ?_⟩
    have d33 : vs 33 = tv 33 := hd ⟨33, .data⟩ (by simp) rfl
    simp only [tv] at d33
    have d34 : vs 34 = tv 34 := hd ⟨34, .data⟩ (by simp) rfl
    simp only [tv] at d34
    clear hd
    simp only [upd, Nat.reduceAdd, Nat.reduceEqDiff, reduceIte, d33, d34] at hK
    go_simp
    refine (xa_any _).mono ?_
    rintro e1 w1 ⟨rfl, hb1⟩
    exact hK _ _ rfl (show Below _ _ _ from hb1)
  · -- 36 ('call', 'xdigit_any _', [32, 35], 'xdigit')
    refine ⟨⟨rfl, by kernel_rfl⟩, fun vs W hI hd K hK => ?_⟩
    have d32 : vs 32 = tv 32 := hd ⟨32, .data⟩ (by simp) rfl
    simp only [tv] at d32
    have d35 : vs 35 = tv 35 := hd ⟨35, .data⟩ (by simp) rfl
    simp only [tv] at d35
    clear hd
    simp only [upd, Nat.reduceAdd, Nat.reduceEqDiff, reduceIte, d32, d35] at hK
    go_simp
    refine (xdigit_any _).mono ?_
    rintro e1 w1 ⟨rfl, hb1⟩
    exact hK _ _ rfl (show Below _ _ _ from hb1)
  · -- 37 ('build', 'xdigit', 36)
    refine ⟨⟨rfl, by kernel_rfl⟩, fun vs W hI hd K hK => ?_⟩
    have d0 : vs 36 = setV xdigitF := hd ⟨36, .data⟩ (by simp) rfl
    clear hd
    simp only [upd, Nat.reduceAdd, Nat.reduceEqDiff, reduceIte, d0] at hK
    go_simp
    exact hK _ _ rfl (show Below _ _ _ from Below.refl _ _)
  · -- 38 ('all',)
    refine ⟨⟨rfl, by kernel_rfl⟩, fun vs W hI hd K hK => ?_⟩
    have d1 : vs 1 = tv 1 := hd ⟨1, .data⟩ (by simp) rfl
    simp only [tv] at d1
    have d3 : vs 3 = tv 3 := hd ⟨3, .data⟩ (by simp) rfl
    simp only [tv] at d3
    have d7 : vs 7 = tv 7 := hd ⟨7, .data⟩ (by simp) rfl
    simp only [tv] at d7
    have d11 : vs 11 = tv 11 := hd ⟨11, .data⟩ (by simp) rfl
    simp only [tv] at d11
    have d13 : vs 13 = tv 13 := hd ⟨13, .data⟩ (by simp) rfl
    simp only [tv] at d13
    have d15 : vs 15 = tv 15 := hd ⟨15, .data⟩ (by simp) rfl
    simp only [tv] at d15
    have d17 : vs 17 = tv 17 := hd ⟨17, .data⟩ (by simp) rfl
    simp only [tv] at d17
    have d21 : vs 21 = tv 21 := hd ⟨21, .data⟩ (by simp) rfl
    simp only [tv] at d21
    have d25 : vs 25 = tv 25 := hd ⟨25, .data⟩ (by simp) rfl
    simp only [tv] at d25
    have d29 : vs 29 = tv 29 := hd ⟨29, .data⟩ (by simp) rfl
    simp only [tv] at d29
    have d31 : vs 31 = tv 31 := hd ⟨31, .data⟩ (by simp) rfl
    simp only [tv] at d31
    have d37 : vs 37 = tv 37 := hd ⟨37, .data⟩ (by simp) rfl
    simp only [tv] at d37
    clear hd
    simp only [upd, Nat.reduceAdd, Nat.reduceEqDiff, reduceIte, d1, d3, d7, d11, d13, d15, d17, d21, d25, d29, d31, d37] at hK
    go_simp
    exact hK _ _ rfl (show Below _ _ _ from Below.refl _ _)
  · -- 39 ('store',)
    refine ⟨⟨rfl, by kernel_rfl⟩, fun vs W hI hd K hK => ?_⟩
    have d38 : vs 38 = .agg tblCells := hd ⟨38, .data⟩ (by simp) rfl
    clear hd
    obtain ⟨cs, hz, o0⟩ := hI.s0
    refine wp_store_mid 232 (.tmp 0) (.tmp 55) rfl w.heap.size 0 tblCells rfl d38 (there_slab o0 (by rw [hz]; decide)) (by kernel_rfl) (by kernel_rfl) ?_
    simp only [upd, Nat.reduceAdd, Nat.reduceEqDiff, reduceIte] at hK
    exact hK undef _ (slab_setCells o0 (by rw [hz]; decide)) rfl

end Go.Proofs.Ytddokdjlmdoebaa
