/- Words for the memory of a maker of terms; its walks: put, over. -/
import Derived.Test.YtddokdjlmdoebaaProg
import Derived.WalkKit
import Derived.WalkSpells
import Derived.WalkLawsBesides
import Derived.Handy
import Derived.Lib.Hide
import Derived.Test.YtddokdjlmdoebaaMLoA
import Derived.Test.YtddokdjlmdoebaaParA
import Derived.Deep.RegionLaw
import Derived.Deep.QuietTactic
import Derived.Deep.RegionWith
import Derived.Deep.DeepMust
import Derived.Deep.RegionHeld3
set_option linter.unusedVariables false
set_option linter.unusedSimpArgs false
namespace Go.Proofs.Ytddokdjlmdoebaa
open Go.RowKit SetP AstP LowP ParP
/-- A term's node, as cells. -/
abbrev tmCells (x : Tm) : Array Value := #[.int .i64 x.kind, .int .i64 x.a, .int .i64 x.b, .int .i64 x.n, .int .u64 (wd x.set 0), .int .u64 (wd x.set 1), .int .u64 (wd x.set 2), .int .u64 (wd x.set 3)]
def flatT (L : List Tm) : List Value := L.flatMap fun x => (tmCells x).toList
theorem flatT_snoc (L : List Tm) (x : Tm) : flatT (L ++ [x]) = flatT L ++ (tmCells x).toList := by unfold flatT; rw [List.flatMap_append]; simp
def tmZero : Value := .agg #[.int .i64 0, .int .i64 0, .int .i64 0, .int .i64 0, .int .u64 0, .int .u64 0, .int .u64 0, .int .u64 0]
set_option maxRecDepth 100000 in
theorem info_term : (Try.prog.info? 47).map (fun i => (i.zero, i.size, i.bytes)) = some (some tmZero, 8, 64) := by kernel_rfl
/-- What a maker is told: the tree, which nodes may be nothing, the groups' numbers. -/
structure Told where
  l : Value
  null : Value
  nums : Value
  mem : World → Prop
/-- A maker in memory, with the term so far. -/
structure MkAt (w : World) (B g : Nat) (V : Told) (O : List Tm) (Ab : Option Addr) (cb : Nat) : Prop where
  slab : Slab w g #[V.l, V.null, V.nums, .slice Ab O.length cb] 88
  row : w.ownsRow B 47 8 (.slice Ab O.length cb) O.length (flatT O)
  hB : B ≤ g
  mem : V.mem w
  keeps : ∀ u u', Below B u u' → V.mem u → V.mem u'
abbrev Mk (w : World) (B g : Nat) (V : Told) (O : List Tm) : Prop := ∃ Ab cb, MkAt w B g V O Ab cb
theorem row_not {w : World} {base n size g : Nat} {e t : TypeId} {v : Value} {xs : List Value} {cs : Array Value} (h : w.ownsRow base e size v n xs) (hs : Slab w g cs t) (ht : t ≠ e) : v.ownBlock ≠ some g := by
  intro hk
  rcases h.2 with ⟨rfl, _⟩ | ⟨g', cap, cur, rfl, hg, hh, _⟩
  · cases hk
  · have : g' = g := by injection hk
    subst this
    unfold Slab at hs
    rw [hs] at hh
    injection hh with hh
    injection hh with _ h2
    exact ht h2
/-- But for block g and rows of terms, all blocks are as they were. -/
def KeptM (g : Nat) (w w' : World) : Prop := ∀ k cs t, Slab w k cs t → k ≠ g → t ≠ 47 → Slab w' k cs t
theorem KeptM.refl (g : Nat) (w : World) : KeptM g w w := fun _ _ _ h _ _ => h
theorem KeptM.trans {g : Nat} {u v w : World} (h : KeptM g u v) (k : KeptM g v w) : KeptM g u w := fun b cs t hb hg ht => k b cs t (h b cs t hb hg ht) hg ht
theorem KeptM.of {g : Nat} {w w' : World} (h : Below w.heap.size w w') : KeptM g w w' := fun _ _ _ hb _ _ => hb.call h
theorem MkAt.keep {w w' : World} {B g : Nat} {V : Told} {O : List Tm} {Ab : Option Addr} {cb : Nat} (h : MkAt w B g V O Ab cb) (hb : Below w.heap.size w w') : MkAt w' B g V O Ab cb :=
  ⟨h.slab.call hb, row_call h.row hb, h.hB, h.keeps _ _ (hb.mono (Nat.le_trans h.hB (Nat.le_of_lt h.slab.lt))) h.mem, h.keeps⟩
theorem MkAt.le {w : World} {B g : Nat} {V : Told} {O : List Tm} {Ab : Option Addr} {cb : Nat} (h : MkAt w B g V O Ab cb) : B ≤ w.heap.size := Nat.le_trans h.hB (Nat.le_of_lt h.slab.lt)
theorem Mk.keep {w w' : World} {B g : Nat} {V : Told} {O : List Tm} (h : Mk w B g V O) (hb : Below w.heap.size w w') : Mk w' B g V O := by
  obtain ⟨Ab, cb, h⟩ := h; exact ⟨Ab, cb, h.keep hb⟩
theorem Mk.le {w : World} {B g : Nat} {V : Told} {O : List Tm} (h : Mk w B g V O) : B ≤ w.heap.size := by obtain ⟨_, _, h⟩ := h; exact h.le
/-- What a method leaves: the term's nodes are O, the last one of them is told. -/
def Made (B g : Nat) (V : Told) (O : List Tm) (w : World) (e : Ending) (w' : World) : Prop := e = .returned (.int .i64 ((O.length : Int) - 1)) ∧ Below B w w' ∧ KeptM g w w' ∧ Mk w' B g V O
set_option maxRecDepth 100000 in
set_option maxHeartbeats 2000000 in
theorem mput_any {w : World} {B g : Nat} {V : Told} {O : List Tm} (h : Mk w B g V O) (x : Tm) (cs : Array Value) (hcs : tmCells x = cs) (hn : O.length ≤ 1000000) :
    Calls Try.prog 90 #[pp g, .agg cs] w (Made B g V (O ++ [x]) w) := by
  obtain ⟨i0, hi, hz0, hz1, hz2⟩ := info_parts info_term
  have HI := Lib.hid hi; clear hi
  have HZ0 := Lib.hid hz0; clear hz0
  have HZ1 := Lib.hid hz1; clear hz1
  have HZ2 := Lib.hid hz2; clear hz2
  obtain ⟨Ab, cb, h⟩ := h
  subst hcs
  have HV := Lib.hid (And.intro h.mem h.keeps)
  obtain ⟨v0, v1, v2, v3⟩ := V
  have h0 := h.keep ((Below.refl w.heap.size w).alloc (Nat.le_refl _) (.cells (tmCells x) 47))
  have hle := h.le
  have HB0 := Lib.hid ((Below.refl B w).alloc h.le (.cells (tmCells x) 47))
  have hsz : B ≤ (w.alloc (.cells (tmCells x) 47)).heap.size := by simp; omega
  have p0 : Slab (w.alloc (.cells (tmCells x) 47)) w.heap.size (tmCells x) 47 := Slab.new _ _ _
  have H0 := Lib.hid h0
  obtain ⟨N, hN⟩ : ∃ N, O.length = N := ⟨_, rfl⟩
  have HN := Lib.hid hN
  have hs0 := h0.slab
  rw [hN] at hs0 hn
  obtain ⟨c0, f0⟩ := hs0.facts
  obtain ⟨c1, f1⟩ := p0.facts
  clear h0 h p0 hN hs0
  go_enter Try.func90, Try.ntmps90
  go_wp2_with fail
  have p2 : Slab ((w.alloc (.cells (tmCells x) 47)).alloc (.cells (tmCells x) 47)) (w.heap.size + 1) (tmCells x) 47 := Slab.newAt _ _ _ (by simp)
  have H1 := Lib.hid (H0.out.keep ((Below.refl _ _).alloc (Nat.le_refl _) (.cells (tmCells x) 47)))
  have hs1 := H1.out.slab
  have hr1 := H1.out.row
  rw [HN.out] at hs1 hr1
  have HS1 := Lib.hid hs1
  have HR1 := Lib.hid hr1
  obtain ⟨c2, f2⟩ := hs1.facts
  clear hs1 hr1
  go_region_law (refine step_append_at ((w.alloc (.cells (tmCells x) 47)).alloc (.cells (tmCells x) 47)) w rfl (.tmp 9) (.tmp 11) 31 rfl B 47 i0 _ _ _ Try.underlying31 HI.out HZ0.out HZ1.out HZ2.out rfl (by decide) rfl (by have hb := HB0.out; (repeat' (first | (with_reducible exact Below.refl _ _) | (with_reducible assumption) | (with_reducible refine Below.alloc ?_ ?_ _) | (with_reducible refine Below.drew ?_) | (with_reducible refine below_set ?_ ?_ _) | (with_reducible refine below_call ?_ ?_ (by assumption)) | (with_reducible exact Below.size (by assumption)) | omega | go_size))) _ _ _ _ (by simp [Act.eval, Act.put]) HR1.out (w.heap.size + 1) (tmCells x) (by simp [Act.eval, Act.put]) p2 rfl (by simp [Value.oneCell']) (by unfold maxLen; omega) (by omega) (by first | omega | (simp; omega)) ?_; intro A5 q5 w5 hown5 hbl5 has5; obtain ⟨o5, hx5⟩ := has5 _ _ _ HS1.out (row_not HR1.out HS1.out (by decide)); obtain ⟨c5, f5⟩ := o5.facts; have HB5 := Lib.hid hbl5; have HAS := Lib.hid has5; clear hbl5 has5)
  all_goals
    go_wp2_with fail
    have e : (O ++ [x]).length = N + 1 := by rw [List.length_append, HN.out]; rfl
    refine bodyPost_ret (v := .int .i64 (N : Int)) (by simp [results, Try.results90, go_sem]) rfl ⟨by rw [e]; exact ret_v (by congr 1; omega), below_set HB5.out H0.out.hB _, ?_, A5, q5, ?_, ?_, H0.out.hB, HV.out.2 _ _ (below_set HB5.out H0.out.hB _) HV.out.1, HV.out.2⟩
    · intro k cs t hk hg ht
      exact Slab.far (HAS.out k cs t ((hk.alloc _).alloc _) (row_not HR1.out ((hk.alloc _).alloc _) ht)).1 hg _
    · rw [e]; exact o5.set 3 _
    · rw [e, flatT_snoc]; exact row_far hown5 hx5 _ _
theorem wd_zSet (i : Nat) : wd zSet i = 0 := wd_zero i
set_option maxRecDepth 100000 in
set_option maxHeartbeats 2000000 in
theorem over_any {w : World} {B g : Nat} {V : Told} {O : List Tm} (h : Mk w B g V O) (k a n : Int) (hn : O.length ≤ 1000000) :
    Calls Try.prog 91 #[pp g, .int .i64 k, .int .i64 a, .int .i64 n] w (Made B g V (O ++ [tmU k a n]) w) := by
  have C := mput_any h (tmU k a n) #[.int .i64 k, .int .i64 a, .int .i64 (-1), .int .i64 n, .int .u64 0, .int .u64 0, .int .u64 0, .int .u64 0] (by simp [tmCells, tmU, wd_zSet]) hn
  generalize O ++ [tmU k a n] = O' at *
  clear h
  go_enter Try.func91, Try.ntmps91
  go_wp2_with fail
  refine C.mono ?_
  rintro e1 w1 ⟨rfl, hb1, hk1, h1⟩
  clear C
  go_wp2_with fail
  go_ret
  exact ⟨rfl, hb1, hk1, h1⟩
end Go.Proofs.Ytddokdjlmdoebaa

/- Walks of the package lower: join. -/
namespace Go.Proofs.Ytddokdjlmdoebaa
open Go.RowKit SetP AstP LowP ParP
/-- A function with a body: a call enters it. -/
def Enters (n : FuncId) : Prop := ∀ args w, (callFunc n args).run Try.prog w = .ok (.enter n args) w
set_option maxRecDepth 100000 in
theorem enters_of {n : FuncId} {fn : Func} {c : Code} (hf : Try.prog.funcs[n]? = some fn) (hname : (fn.name == "runtime.NumGoroutine") = false) (hb : fn.body = some c) : Enters n := by
  intro args w
  have h1 : fn.name ≠ "runtime.NumGoroutine" := by simpa using hname
  simp [callFunc, hf, h1, hb]
/-- A function value that makes X, wherever it is called. -/
def Makes (B g : Nat) (V : Told) (w : World) (F : Value) (X : List Tm) : Prop :=
  ∃ n cap, F = .func (.func n) #[] cap ∧ Enters n ∧ 0 < X.length ∧ ∀ O w1, KeptM g w w1 → Mk w1 B g V O → O.length + X.length ≤ 1000000 → Calls Try.prog n cap w1 (Made B g V (O ++ shL O.length X) w1)
theorem Makes.keep {B g : Nat} {V : Told} {w w' : World} {F : Value} {X : List Tm} (h : Makes B g V w F X) (hk : KeptM g w w') : Makes B g V w' F X := by
  obtain ⟨n, cap, rfl, he, h0, h⟩ := h
  exact ⟨n, cap, rfl, he, h0, fun O w1 h1 => h O w1 (hk.trans h1)⟩
/-- A slice of function values. -/
structure PartsAt (w : World) (g b off : Nat) (Fs : List Value) (cs : Array Value) : Prop where
  slab : Slab w b cs 129
  ne : b ≠ g
  get : ∀ j, j < Fs.length → cs[off + j]? = Fs[j]?
theorem PartsAt.keep {w w' : World} {g b off : Nat} {Fs : List Value} {cs : Array Value} (h : PartsAt w g b off Fs cs) (hk : KeptM g w w') : PartsAt w' g b off Fs cs :=
  ⟨hk _ _ _ h.slab h.ne (by decide), h.ne, h.get⟩
theorem PartsAt.tail {w : World} {g b off : Nat} {F : Value} {Fs : List Value} {cs : Array Value} (h : PartsAt w g b off (F :: Fs) cs) : PartsAt w g b (off + 1) Fs cs :=
  ⟨h.slab, h.ne, fun j hj => by have := h.get (j + 1) (by simp; omega); rw [show off + 1 + j = off + (j + 1) by omega, this]; rfl⟩
theorem Made.then {B g : Nat} {V : Told} {O : List Tm} {u w w' : World} {e : Ending} (h : Made B g V O w e w') (hb : Below B u w) (hk : KeptM g u w) : Made B g V O u e w' :=
  ⟨h.1, hb.trans h.2.1, hk.trans h.2.2.1, h.2.2.2⟩
set_option maxRecDepth 100000 in
set_option maxHeartbeats 2000000 in
theorem join_any (B g : Nat) (V : Told) (k : Int) (PF : List (Value × List Tm)) : ∀ (b off c : Nat) (cs : Array Value) (O : List Tm) (w : World), PF ≠ [] → (∀ p ∈ PF, Makes B g V w p.1 p.2) → PartsAt w g b off (PF.map Prod.fst) cs → PF.length ≤ c → PF.length ≤ 100000 → Mk w B g V O →
    O.length + (joinT k (PF.map Prod.snd)).length ≤ 1000000 →
    Calls Try.prog 94 #[pp g, .int .i64 k, .slice (some ⟨b, off, none⟩) PF.length c] w (Made B g V (O ++ shL O.length (joinT k (PF.map Prod.snd))) w) := by
  induction PF with
  | nil => intro b off c cs O w h; exact absurd rfl h
  | cons p PF ih =>
    intro b off c cs O w _ hM hP hc hlen hO hl
    obtain ⟨F, X⟩ := p
    obtain ⟨n, cap, hF, hE, hX0, C⟩ := hM (F, X) (by simp)
    simp only at hF hX0 C
    subst hF
    have HE := Lib.hid hE
    clear hE
    have ca : w.cell? ⟨b, off, none⟩ = some (.func (.func n) #[] cap) := by
      have := hP.get 0 (by simp)
      rw [hP.slab.cell]; exact this
    have hfz := hP.slab.frozen off
    cases PF with
    | nil =>
      have C1 := C O w (KeptM.refl _ _) hO (by simpa [joinT] using hl)
      show Calls _ _ _ _ (Made B g V (O ++ shL O.length X) w)
      generalize O ++ shL O.length X = O1 at *
      clear hM hP hO hl ih C
      go_enter Try.func94, Try.ntmps94
      go_wp2_with fail
      rw [HE.out, Oper.upon_enter]
      refine C1.mono ?_
      rintro e1 w1 ⟨rfl, hb1, hk1, h1⟩
      go_wp2_with fail
      go_ret
      exact ⟨rfl, hb1, hk1, h1⟩
    | cons q PF =>
      have hjt : joinT k (((.func (.func n) #[] cap, X) :: q :: PF).map Prod.snd) = twoT k X (joinT k ((q :: PF).map Prod.snd)) := rfl
      rw [hjt] at hl ⊢
      have hR0 := joinT_pos k ((q :: PF).map Prod.snd) (by simp) (fun r hr => by
        obtain ⟨p, hp, rfl⟩ := List.mem_map.1 hr
        obtain ⟨_, _, _, _, h0, _⟩ := hM p (List.mem_cons_of_mem _ hp)
        exact h0)
      have C2 := fun (w1 : World) (hk : KeptM g w w1) (hO1 : Mk w1 B g V (O ++ shL O.length X)) => ih b (off + 1) (c - 1) cs (O ++ shL O.length X) w1 (by simp) (fun p hp => (hM p (List.mem_cons_of_mem _ hp)).keep hk) (PartsAt.tail hP |>.keep hk) (by simp at hc ⊢; omega) (by simp at hlen ⊢; omega) hO1
      have hts := two_sh O X (joinT k ((q :: PF).map Prod.snd)) k hX0 hR0
      rw [twoT_length] at hl
      rw [hts]
      have hml : (((.func (.func n) #[] cap, X) :: q :: PF : List (Value × List Tm))).length = (q :: PF).length + 1 := rfl
      rw [hml] at hc hlen ⊢
      have hm1 : 1 ≤ (q :: PF).length := by simp
      generalize (q :: PF).length = m at *
      generalize joinT k ((q :: PF).map Prod.snd) = R at *
      have C1 := C O w (KeptM.refl _ _) hO (by omega)
      have hl1 : (O ++ shL O.length X).length = O.length + X.length := by rw [List.length_append, shL_length]
      have hl2 : ((O ++ shL O.length X) ++ shL (O ++ shL O.length X).length R).length = O.length + X.length + R.length := by rw [List.length_append, shL_length, hl1]
      have C3 := fun (w2 : World) (h2 : Mk w2 B g V ((O ++ shL O.length X) ++ shL (O ++ shL O.length X).length R)) => mput_any h2 (tmB k ((O ++ shL O.length X).length - 1) (((O ++ shL O.length X) ++ shL (O ++ shL O.length X).length R).length - 1)) #[.int .i64 k, .int .i64 ((O ++ shL O.length X).length - 1), .int .i64 (((O ++ shL O.length X) ++ shL (O ++ shL O.length X).length R).length - 1), .int .i64 0, .int .u64 0, .int .u64 0, .int .u64 0, .int .u64 0] (by simp [tmCells, tmB, wd_zSet]) (by omega)
      generalize ((O ++ shL O.length X) ++ shL (O ++ shL O.length X).length R) = O2 at *
      generalize (O ++ shL O.length X) = O1 at *
      have C4 := fun w1 hk h1 => C2 w1 hk h1 (by omega)
      generalize hn1 : (O1.length : Int) - 1 = n1 at *
      generalize hn2 : (O2.length : Int) - 1 = n2 at *
      generalize O2 ++ [tmB k n1 n2] = O3 at *
      have HN1 := Lib.hid hn1
      have HN2 := Lib.hid hn2
      clear hM hP hO ih C hts hml C2 hjt hl hl1 hl2 hn1 hn2 hX0 hR0
      have hc1 : (m : Int) + 1 ≤ c := by omega
      go_enter Try.func94, Try.ntmps94
      go_wp2_with fail
      rw [HE.out, Oper.upon_enter]
      refine C1.mono ?_
      rintro e1 w1 ⟨he1, hb1, hk1, h1⟩
      rw [HN1.out] at he1
      subst he1
      go_wp2_with fail
      refine (C4 w1 hk1 h1).mono ?_
      rintro e2 w2 ⟨he2, hb2, hk2, h2⟩
      rw [HN2.out] at he2
      subst he2
      go_wp2_with fail
      refine (C3 w2 h2).mono ?_
      rintro e3 w3 ⟨rfl, hb3, hk3, h3⟩
      clear C1 C3 C4
      go_wp2_with fail
      go_ret
      exact ⟨rfl, (hb1.trans hb2).trans hb3, (hk1.trans hk2).trans hk3, h3⟩
end Go.Proofs.Ytddokdjlmdoebaa

/- Walks of the package lower: lacks. -/
namespace Go.Proofs.Ytddokdjlmdoebaa
open Go.RowKit SetP AstP LowP ParP
theorem KeptM.drew {g : Nat} {u w : World} (h : KeptM g u w) : KeptM g u w.drew := h
theorem Mk.drew {w : World} {B g : Nat} {V : Told} {O : List Tm} (h : Mk w B g V O) : Mk w.drew B g V O := by
  obtain ⟨Ab, cb, h⟩ := h; exact ⟨Ab, cb, h.slab, h.row, h.hB, h.keeps _ _ (Below.drew (Below.refl _ _)) h.mem, h.keeps⟩
theorem Mk.lt {w : World} {B g : Nat} {V : Told} {O : List Tm} (h : Mk w B g V O) : g < w.heap.size := by obtain ⟨_, _, h⟩ := h; exact h.slab.lt
theorem Mk.hB {w : World} {B g : Nat} {V : Told} {O : List Tm} (h : Mk w B g V O) : B ≤ g := by obtain ⟨_, _, h⟩ := h; exact h.hB
/-- The function value that lacks hands on. -/
abbrev F2 (s : Nat) : Value := .func (.func 150) #[] #[.pointer (some ⟨s, 0, none⟩), .pointer (some ⟨s + 1, 0, none⟩), .pointer (some ⟨s + 1 + 1, 0, none⟩)]
set_option maxRecDepth 100000 in
set_option maxHeartbeats 2000000 in
theorem lacks1_any (B g : Nat) (V : Told) (m : Nat)
    (ih : ∀ (F : Value) (X : List Tm) (O : List Tm) (w : World), Makes B g V w F X → Mk w B g V O → O.length + (lacksT X m).length ≤ 1000000 → m ≤ 1000 →
      Calls Try.prog 139 #[pp g, F, .int .i64 ((m : Int) + 1)] w (Made B g V (O ++ shL O.length (lacksT X m)) w))
    (F : Value) (X : List Tm) (w : World) (s : Nat) (q : Int) (hq : q - 1 = (m : Int) + 1) (h0 : Slab w s #[pp g] 85) (h1 : Slab w (s + 1) #[F] 129) (h2 : Slab w (s + 1 + 1) #[.int .i64 q] 3)
    (n0 : s ≠ g) (n1 : s + 1 ≠ g) (n2 : s + 1 + 1 ≠ g) (hM : Makes B g V w F X) (hm : m ≤ 1000) : Makes B g V w (F2 s) (lacksT X m) := by
  refine ⟨_, _, rfl, enters_of Try.func150 (by kernel_rfl) rfl, lacksT_pos _ _, ?_⟩
  intro O w1 hk hO hl
  have C := ih F X O w1 (hM.keep hk) hO hl hm
  generalize O ++ shL O.length (lacksT X m) = O1 at *
  have a0 := hk _ _ _ h0 n0 (by decide)
  have a1 := hk _ _ _ h1 n1 (by decide)
  have a2 := hk _ _ _ h2 n2 (by decide)
  obtain ⟨c0, f0⟩ := a0.facts
  obtain ⟨c1, f1⟩ := a1.facts
  obtain ⟨c2, f2⟩ := a2.facts
  have hq0 : q ≤ 2000 ∧ 0 ≤ q := by omega
  obtain ⟨hq1, hq2⟩ := hq0
  rw [← hq] at C
  clear ih h0 h1 h2 hM hl hO hk hq a0 a1 a2
  go_enter Try.func150, Try.ntmps150
  go_wp2_with fail
  refine C.mono ?_
  rintro e1 w2 ⟨rfl, hb1, hk1, h1⟩
  clear C
  go_wp2_with fail
  go_ret
  exact ⟨rfl, hb1, hk1, h1⟩
set_option maxRecDepth 100000 in
set_option maxHeartbeats 2000000 in
theorem lacks_any (B g : Nat) (V : Told) (m : Nat) : ∀ (F : Value) (X : List Tm) (O : List Tm) (w : World), Makes B g V w F X → Mk w B g V O → O.length + (lacksT X m).length ≤ 1000000 → m ≤ 1000 →
    Calls Try.prog 139 #[pp g, F, .int .i64 ((m : Int) + 1)] w (Made B g V (O ++ shL O.length (lacksT X m)) w) := by
  induction m with
  | zero =>
    intro F X O w hM hO hl _
    have h1 : lacksT X 0 = unaT X 6 0 := rfl
    obtain ⟨n, cap, rfl, hE, hX0, C⟩ := hM
    rw [h1] at hl ⊢
    rw [una_sh O X 6 0 hX0]
    rw [unaT_length] at hl
    have hl1 : (O ++ shL O.length X).length = O.length + X.length := by rw [List.length_append, shL_length]
    have hlt := hO.lt
    have hbx : Below w.heap.size w (((w.alloc (.cells #[pp g] 85)).alloc (.cells #[.func (.func n) #[] cap] 129)).alloc (.cells #[.int .i64 1] 3)) := (((Below.refl _ _).alloc (by simp) _).alloc (by simp) _).alloc (by simp; omega) _
    have C1 := fun w1 hk h => C O w1 hk h (by omega)
    have C3 := fun (w2 : World) (h2 : Mk w2 B g V (O ++ shL O.length X)) => over_any h2 6 ((O ++ shL O.length X).length - 1) 0 (by omega)
    have HO := Lib.hid (hO.keep hbx)
    have HK := Lib.hid (KeptM.of (g := g) hbx)
    have HB := Lib.hid ((Below.refl B w).trans (hbx.mono hO.le))
    have s0 : Slab (((w.alloc (.cells #[pp g] 85)).alloc (.cells #[.func (.func n) #[] cap] 129)).alloc (.cells #[.int .i64 1] 3)) w.heap.size #[pp g] 85 := ((Slab.new _ _ _).alloc _).alloc _
    have HS0 := Lib.hid s0
    have hne : w.heap.size ≠ g := by omega
    generalize O ++ shL O.length X = O1 at *
    generalize hn1 : (O1.length : Int) - 1 = n1 at *
    have HN1 := Lib.hid hn1
    generalize O1 ++ [tmU 6 n1 0] = O2 at *
    clear hO hbx C hl hl1 hn1 h1 s0
    show Calls _ _ #[pp g, .func (.func n) #[] cap, .int .i64 1] _ _
    have HE := Lib.hid hE
    unfold Enters at hE
    go_enter Try.func139, Try.ntmps139
    go_wp2_with fail
    go_region_with (first | ((with_reducible refine Calls.mono (C1 _ HK.out.drew HO.out.drew) ?_); go_must (rintro e1 w1 ⟨he1, hb1, hk1, h1⟩; rw [HN1.out] at he1; subst he1; have HS1 := Lib.hid (hk1 _ _ _ HS0.out.drew hne (by decide)); obtain ⟨cs1, fs1⟩ := HS1.out.facts)) | (go_at_call 91; refine (C3 _ h1).mono ?_; rintro e2 w2 ⟨rfl, hb2, hk2, h2⟩))
    all_goals
      clear C1 C3
      go_wp2_with fail
      go_ret
      exact ⟨rfl, (HB.out.drew.trans hb1).trans hb2, (HK.out.drew.trans hk1).trans hk2, h2⟩
  | succ m ih =>
    intro F X O w hM hO hl hm
    have hM0 := hM
    obtain ⟨n, cap, rfl, hE, hX0, C⟩ := hM
    have e0 : lacksT X (m + 1) = unaT (twoT 3 X (lacksT X m)) 6 0 := rfl
    have e1 : twoT 3 X (lacksT X m) = joinT 3 ([((.func (.func n) #[] cap : Value), X), (F2 w.heap.size, lacksT X m)].map Prod.snd) := rfl
    have hp0 : 0 < (twoT 3 X (lacksT X m)).length := by rw [twoT_length]; omega
    rw [e0] at hl ⊢
    rw [una_sh O _ 6 0 hp0]
    rw [unaT_length] at hl
    have hlt := hO.lt
    obtain ⟨q, hq⟩ : ∃ q : Int, ((m + 1 : Nat) : Int) + 1 = q := ⟨_, rfl⟩
    rw [hq]
    have hq1 : q - 1 = (m : Int) + 1 := by omega
    have hbx : Below w.heap.size w (((w.alloc (.cells #[pp g] 85)).alloc (.cells #[.func (.func n) #[] cap] 129)).alloc (.cells #[.int .i64 q] 3)) := (((Below.refl _ _).alloc (by simp) _).alloc (by simp) _).alloc (by simp; omega) _
    have s0 : Slab (((w.alloc (.cells #[pp g] 85)).alloc (.cells #[.func (.func n) #[] cap] 129)).alloc (.cells #[.int .i64 q] 3)) w.heap.size #[pp g] 85 := ((Slab.new _ _ _).alloc _).alloc _
    have s1 : Slab (((w.alloc (.cells #[pp g] 85)).alloc (.cells #[.func (.func n) #[] cap] 129)).alloc (.cells #[.int .i64 q] 3)) (w.heap.size + 1) #[.func (.func n) #[] cap] 129 := (Slab.newAt _ _ _ (by simp)).alloc _
    have s2 : Slab (((w.alloc (.cells #[pp g] 85)).alloc (.cells #[.func (.func n) #[] cap] 129)).alloc (.cells #[.int .i64 q] 3)) (w.heap.size + 1 + 1) #[.int .i64 q] 3 := Slab.newAt _ _ _ (by simp)
    have hM2 := lacks1_any B g V m ih (.func (.func n) #[] cap) X (((w.alloc (.cells #[pp g] 85)).alloc (.cells #[.func (.func n) #[] cap] 129)).alloc (.cells #[.int .i64 q] 3)) w.heap.size q hq1 s0 s1 s2 (by omega) (by omega) (by omega) (hM0.keep (KeptM.of hbx)) (by omega)
    have C2 := fun (b : Nat) (w4 : World) (hk : KeptM g (((w.alloc (.cells #[pp g] 85)).alloc (.cells #[.func (.func n) #[] cap] 129)).alloc (.cells #[.int .i64 q] 3)) w4) (h4 : Mk w4 B g V O) (hP : PartsAt w4 g b 0 ([((.func (.func n) #[] cap : Value), X), (F2 w.heap.size, lacksT X m)].map Prod.fst) #[.func (.func n) #[] cap, F2 w.heap.size]) =>
      join_any B g V 3 [((.func (.func n) #[] cap : Value), X), (F2 w.heap.size, lacksT X m)] b 0 2 #[.func (.func n) #[] cap, F2 w.heap.size] O w4 (by simp) (by
        intro p hp
        rcases List.mem_cons.1 hp with rfl | hp
        · exact hM0.keep ((KeptM.of hbx).trans hk)
        · rw [List.mem_singleton.1 hp]; exact hM2.keep hk) hP (by simp) (by simp) h4 (by rw [← e1]; omega)
    rw [← e1] at C2
    have hl1 : (O ++ shL O.length (twoT 3 X (lacksT X m))).length ≤ 1000000 := by rw [List.length_append, shL_length]; omega
    have C3 := fun (w2 : World) (h2 : Mk w2 B g V (O ++ shL O.length (twoT 3 X (lacksT X m)))) => over_any h2 6 ((O ++ shL O.length (twoT 3 X (lacksT X m))).length - 1) 0 hl1
    have HO := Lib.hid (hO.keep hbx)
    have HK := Lib.hid (KeptM.of (g := g) hbx)
    have HB := Lib.hid ((Below.refl B w).trans (hbx.mono hO.le))
    have HS0 := Lib.hid s0
    have HS1 := Lib.hid s1
    have HS2 := Lib.hid s2
    have hne : w.heap.size ≠ g := by omega
    generalize O ++ shL O.length (twoT 3 X (lacksT X m)) = O1 at *
    generalize hn1 : (O1.length : Int) - 1 = n1 at *
    have HN1 := Lib.hid hn1
    generalize O1 ++ [tmU 6 n1 0] = O2 at *
    have hqq : (q == 1) = false := beq_eq_false_iff_ne.2 (by omega)
    clear hO hbx C hl hl1 hn1 e0 e1 s0 s1 s2 hp0 hM2 hM0 hE ih hq1
    have hmf : ∀ (fn : Fn) (first cap : Array Value) (w : World), (Instr.makeFunc fn first cap).run Try.prog w = .ok (.func fn first cap) w := fun _ _ _ _ => rfl
    have hb4 : Below ((((w.alloc (.cells #[pp g] 85)).alloc (.cells #[.func (.func n) #[] cap] 129)).alloc (.cells #[.int .i64 q] 3))).heap.size ((((w.alloc (.cells #[pp g] 85)).alloc (.cells #[.func (.func n) #[] cap] 129)).alloc (.cells #[.int .i64 q] 3))) ((((((w.alloc (.cells #[pp g] 85)).alloc (.cells #[.func (.func n) #[] cap] 129)).alloc (.cells #[.int .i64 q] 3))).drew.alloc (.cells #[.func (.func n) #[] cap, F2 w.heap.size] 129))) := ((Below.refl _ _).drew).alloc (by simp) _
    have HO4 := Lib.hid (HO.out.keep hb4)
    have HK4 := Lib.hid (KeptM.of (g := g) hb4)
    have HB4 := Lib.hid (HB.out.trans (hb4.mono (by simp; have := HO.out.le; simp at this; omega)))
    have hp4 : Slab ((((((w.alloc (.cells #[pp g] 85)).alloc (.cells #[.func (.func n) #[] cap] 129)).alloc (.cells #[.int .i64 q] 3))).drew.alloc (.cells #[.func (.func n) #[] cap, F2 w.heap.size] 129))) (w.heap.size + 1 + 1 + 1) #[.func (.func n) #[] cap, F2 w.heap.size] 129 := Slab.newAt _ _ _ (by simp)
    have HP4 : Hid (PartsAt ((((((w.alloc (.cells #[pp g] 85)).alloc (.cells #[.func (.func n) #[] cap] 129)).alloc (.cells #[.int .i64 q] 3))).drew.alloc (.cells #[.func (.func n) #[] cap, F2 w.heap.size] 129))) g (w.heap.size + 1 + 1 + 1) 0 ([((.func (.func n) #[] cap : Value), X), (F2 w.heap.size, lacksT X m)].map Prod.fst) #[.func (.func n) #[] cap, F2 w.heap.size]) := Lib.hid ⟨hp4, by omega, fun j hj => by rw [Nat.zero_add]; simp⟩
    have HS4 := Lib.hid (HS0.out.call hb4)
    have HU4 := Lib.hid (HS1.out.call hb4)
    have hne1 : w.heap.size + 1 ≠ g := by omega
    have HC2 := Lib.hid C2
    have HC3 := Lib.hid C3
    clear hb4 hp4 C2 C3 hm hX0 hlt hq
    go_enter Try.func139, Try.ntmps139
    go_wp2_with fail
    go_region_held3 (fun w' => (∀ i, w'.cell? ⟨w.heap.size, i, none⟩ = (#[pp g])[i]?) ∧ (∀ i, w'.cell? ⟨w.heap.size + 1, i, none⟩ = (#[Value.func (.func n) #[] cap])[i]?)) (first | exact ⟨HT7.out.cell, HU7.out.cell⟩ | exact ⟨HT5.out.cell, HU5.out.cell⟩ | exact ⟨HS4.out.cell, HU4.out.cell⟩ | exact ⟨HS0.out.cell, HS1.out.cell⟩) (first | (go_at_call 94; go_must (refine (HC2.out _ _ HK4.out HO4.out HP4.out).mono ?_; rintro e1 w1 ⟨he1, hb1, hk1, h1⟩; rw [HN1.out] at he1; subst he1; have HT5 := Lib.hid (hk1 _ _ _ HS4.out hne (by decide)); have HU5 := Lib.hid (hk1 _ _ _ HU4.out hne1 (by decide)))) | (go_at_call 91; go_must (refine (HC3.out _ h1).mono ?_; rintro e2 w2 ⟨rfl, hb2, hk2, h2⟩; have HT7 := Lib.hid (hk2 _ _ _ HT5.out hne (by decide)); have HU7 := Lib.hid (hk2 _ _ _ HU5.out hne1 (by decide)))))
    all_goals
      clear HC2 HC3
      go_wp2_with fail
      go_ret
      exact ⟨rfl, (HB4.out.trans hb1).trans hb2, ((HK.out.trans HK4.out).trans hk1).trans hk2, h2⟩
end Go.Proofs.Ytddokdjlmdoebaa

/- Walks of the package lower: the function values that rep makes. -/
namespace Go.Proofs.Ytddokdjlmdoebaa
open Go.RowKit SetP AstP LowP ParP
/-- The method node makes X of node k, wherever it is called. -/
def NodeMakes (B g : Nat) (V : Told) (w : World) (k : Nat) (X : List Tm) : Prop :=
  0 < X.length ∧ ∀ O w1, KeptM g w w1 → Mk w1 B g V O → O.length + X.length ≤ 1000000 → Calls Try.prog 54 #[pp g, .int .i64 k] w1 (Made B g V (O ++ shL O.length X) w1)
theorem NodeMakes.keep {B g : Nat} {V : Told} {w w' : World} {k : Nat} {X : List Tm} (h : NodeMakes B g V w k X) (hk : KeptM g w w') : NodeMakes B g V w' k X :=
  ⟨h.1, fun O w1 h1 => h.2 O w1 (hk.trans h1)⟩
abbrev q0 (s : Nat) : Value := .pointer (some ⟨s, 0, none⟩)
abbrev Fone (s k : Nat) : Value := .func (.func 136) #[] #[q0 s, q0 k]
abbrev Fstar (s o : Nat) : Value := .func (.func 137) #[] #[q0 s, q0 o]
abbrev Flack (s o p : Nat) : Value := .func (.func 138) #[] #[q0 s, q0 o, q0 p]
abbrev Fnode (s k : Nat) : Value := .func (.func 93) #[] #[q0 s, q0 k]
set_option maxRecDepth 100000 in
set_option maxHeartbeats 2000000 in
theorem rep1_any (B g : Nat) (V : Told) (k : Nat) (X : List Tm) (w : World) (s t : Nat) (h0 : Slab w s #[pp g] 85) (h1 : Slab w t #[.int .i64 k] 3) (n0 : s ≠ g) (n1 : t ≠ g) (hM : NodeMakes B g V w k X) : Makes B g V w (Fone s t) (unaT X 8 0) := by
  refine ⟨_, _, rfl, enters_of Try.func136 (by kernel_rfl) rfl, by rw [unaT_length]; omega, ?_⟩
  intro O w1 hk hO hl
  rw [unaT_length] at hl
  obtain ⟨hX0, C⟩ := hM
  rw [una_sh O X 8 0 hX0]
  have C1 := C O w1 hk hO (by omega)
  have hl1 : (O ++ shL O.length X).length ≤ 1000000 := by rw [List.length_append, shL_length]; omega
  have C3 := fun (w2 : World) (h2 : Mk w2 B g V (O ++ shL O.length X)) => over_any h2 8 ((O ++ shL O.length X).length - 1) 0 hl1
  have C1 := fun w2 (hk2 : KeptM g w w2) (h2 : Mk w2 B g V O) => C O w2 hk2 h2 (by omega)
  generalize O ++ shL O.length X = O1 at *
  generalize hn1 : (O1.length : Int) - 1 = m1 at *
  have HN1 := Lib.hid hn1
  generalize O1 ++ [tmU 8 m1 0] = O2 at *
  have HA0 := Lib.hid (hk _ _ _ h0 n0 (by decide))
  have HA1 := Lib.hid (hk _ _ _ h1 n1 (by decide))
  have HC1 := Lib.hid C1
  have HC3 := Lib.hid C3
  have HO := Lib.hid hO
  have HK := Lib.hid hk
  obtain ⟨c0, f0⟩ := HA0.out.facts
  obtain ⟨c1, f1⟩ := HA1.out.facts
  clear C C1 C3 hO hk h0 h1 hl hl1 hX0 hn1
  go_enter Try.func136, Try.ntmps136
  go_wp2_with fail
  go_region_held3 (fun w' => (∀ i, w'.cell? ⟨s, i, none⟩ = (#[pp g])[i]?) ∧ (∀ i, w'.cell? ⟨t, i, none⟩ = (#[Value.int .i64 k])[i]?)) (first | exact ⟨HT7.out.cell, HU7.out.cell⟩ | exact ⟨HT5.out.cell, HU5.out.cell⟩ | exact ⟨HA0.out.cell, HA1.out.cell⟩) (first | (go_at_call 54; go_must (refine (HC1.out _ HK.out.drew HO.out.drew).mono ?_; rintro e1 w2 ⟨he1, hb1, hk1, h1⟩; rw [HN1.out] at he1; subst he1; have HT5 := Lib.hid (hk1 _ _ _ HA0.out.drew n0 (by decide)); have HU5 := Lib.hid (hk1 _ _ _ HA1.out.drew n1 (by decide)))) | (go_at_call 91; go_must (refine (HC3.out _ h1).mono ?_; rintro e2 w3 ⟨rfl, hb2, hk2, h2⟩; have HT7 := Lib.hid (hk2 _ _ _ HT5.out n0 (by decide)); have HU7 := Lib.hid (hk2 _ _ _ HU5.out n1 (by decide)))))
  all_goals
    clear HC1 HC3 c0 c1 f0 f1
    go_wp2_with fail
    go_ret
    exact ⟨rfl, Below.trans (Below.drew (Below.refl _ _)) (hb1.trans hb2), hk1.trans hk2, h2⟩
set_option maxRecDepth 100000 in
set_option maxHeartbeats 2000000 in
theorem rep2_any (B g : Nat) (V : Told) (F : Value) (X : List Tm) (w : World) (s t : Nat) (h0 : Slab w s #[pp g] 85) (h1 : Slab w t #[F] 129) (n0 : s ≠ g) (n1 : t ≠ g) (hM : Makes B g V w F X) : Makes B g V w (Fstar s t) (unaT X 5 0) := by
  refine ⟨_, _, rfl, enters_of Try.func137 (by kernel_rfl) rfl, by rw [unaT_length]; omega, ?_⟩
  intro O w1 hk hO hl
  rw [unaT_length] at hl
  obtain ⟨n, cap, rfl, hE, hX0, C⟩ := hM
  rw [una_sh O X 5 0 hX0]
  have hl1 : (O ++ shL O.length X).length ≤ 1000000 := by rw [List.length_append, shL_length]; omega
  have C3 := fun (w2 : World) (h2 : Mk w2 B g V (O ++ shL O.length X)) => over_any h2 5 ((O ++ shL O.length X).length - 1) 0 hl1
  have C1 := fun w2 (hk2 : KeptM g w w2) (h2 : Mk w2 B g V O) => C O w2 hk2 h2 (by omega)
  generalize O ++ shL O.length X = O1 at *
  generalize hn1 : (O1.length : Int) - 1 = m1 at *
  have HN1 := Lib.hid hn1
  generalize O1 ++ [tmU 5 m1 0] = O2 at *
  have HA0 := Lib.hid (hk _ _ _ h0 n0 (by decide))
  have HA1 := Lib.hid (hk _ _ _ h1 n1 (by decide))
  have HC1 := Lib.hid C1
  have HC3 := Lib.hid C3
  have HO := Lib.hid hO
  have HK := Lib.hid hk
  obtain ⟨c0, f0⟩ := HA0.out.facts
  obtain ⟨c1, f1⟩ := HA1.out.facts
  clear C C1 C3 hO hk h0 h1 hl hl1 hX0 hn1
  unfold Enters at hE
  go_enter Try.func137, Try.ntmps137
  go_wp2_with fail
  go_region_with (first | ((with_reducible refine Calls.mono (HC1.out _ HK.out.drew HO.out.drew) ?_); go_must (rintro e1 w2 ⟨he1, hb1, hk1, h1⟩; rw [HN1.out] at he1; subst he1; have HT5 := Lib.hid (hk1 _ _ _ HA0.out.drew n0 (by decide)); obtain ⟨ct5, ft5⟩ := HT5.out.facts)) | (go_at_call 91; go_must (refine (HC3.out _ h1).mono ?_; rintro e2 w3 ⟨rfl, hb2, hk2, h2⟩)))
  all_goals
    clear HC1 HC3 c0 c1 f0 f1
    go_wp2_with fail
    go_ret
    exact ⟨rfl, Below.trans (Below.drew (Below.refl _ _)) (hb1.trans hb2), hk1.trans hk2, h2⟩
set_option maxRecDepth 100000 in
set_option maxHeartbeats 2000000 in
theorem rep3_any (B g : Nat) (V : Told) (F : Value) (X : List Tm) (w : World) (s t p m : Nat) (mu ma : Int) (e : Bool) (hm : ma = (m : Int) + 1) (hm2 : m ≤ 1000) (h0 : Slab w s #[pp g] 85) (h1 : Slab w t #[F] 129)
    (h2 : Slab w p #[.int .i64 mu, .int .i64 ma, .bool e] 187) (n0 : s ≠ g) (n1 : t ≠ g) (n2 : p ≠ g) (hM : Makes B g V w F X) : Makes B g V w (Flack s t p) (lacksT X m) := by
  refine ⟨_, _, rfl, enters_of Try.func138 (by kernel_rfl) rfl, lacksT_pos _ _, ?_⟩
  intro O w1 hk hO hl
  have C := lacks_any B g V m F X O w1 (hM.keep hk) hO hl hm2
  rw [← hm] at C
  generalize O ++ shL O.length (lacksT X m) = O1 at *
  obtain ⟨c0, f0⟩ := (hk _ _ _ h0 n0 (by decide)).facts
  obtain ⟨c1, f1⟩ := (hk _ _ _ h1 n1 (by decide)).facts
  obtain ⟨c2, f2⟩ := (hk _ _ _ h2 n2 (by decide)).facts
  clear hO hk h0 h1 h2 hl hM hm
  go_enter Try.func138, Try.ntmps138
  go_wp2_with fail
  refine C.mono ?_
  rintro e1 w2 ⟨rfl, hb1, hk1, h1⟩
  clear C
  go_wp2_with fail
  go_ret
  exact ⟨rfl, hb1, hk1, h1⟩
set_option maxRecDepth 100000 in
set_option maxHeartbeats 2000000 in
theorem node1_any (B g : Nat) (V : Told) (k : Nat) (X : List Tm) (w : World) (s t : Nat) (h0 : Slab w s #[pp g] 85) (h1 : Slab w t #[.int .i64 k] 3) (n0 : s ≠ g) (n1 : t ≠ g) (hM : NodeMakes B g V w k X) : Makes B g V w (Fnode s t) X := by
  refine ⟨_, _, rfl, enters_of Try.func93 (by kernel_rfl) rfl, hM.1, ?_⟩
  intro O w1 hk hO hl
  have C := hM.2 O w1 hk hO hl
  generalize O ++ shL O.length X = O1 at *
  obtain ⟨c0, f0⟩ := (hk _ _ _ h0 n0 (by decide)).facts
  obtain ⟨c1, f1⟩ := (hk _ _ _ h1 n1 (by decide)).facts
  clear hO hk h0 h1 hl hM
  go_enter Try.func93, Try.ntmps93
  go_wp2_with fail
  refine C.mono ?_
  rintro e1 w2 ⟨rfl, hb1, hk1, h1⟩
  clear C
  go_wp2_with fail
  go_ret
  exact ⟨rfl, hb1, hk1, h1⟩
end Go.Proofs.Ytddokdjlmdoebaa
