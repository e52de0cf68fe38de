/- Walks of gimletref11: join, lacks. -/
import Derived.Test.YtddokdjlmdoebaaProg
import Derived.WalkKit
import Derived.WalkSpells
import Derived.WalkLawsBesides
import Derived.Handy
import Derived.Lib.Hide
import Derived.Test.YtddokdjlmdoebaaRloA
set_option linter.unusedVariables false
set_option linter.unusedSimpArgs false
namespace Go.Proofs.Ytddokdjlmdoebaa
open Go.RowKit SetP AstP LowP ParP
/-- Terms in a slice of slices. -/
structure RowsAt (w : World) (base B b off : Nat) (PV : List (Value × List Tm)) : Prop where
  lt : b < w.heap.size
  get : ∀ j, j < PV.length → w.cell? ⟨b, off + j, none⟩ = (PV.map Prod.fst)[j]?
  row : ∀ p ∈ PV, w.ownsRow base 47 8 p.1 p.2.length (flatT p.2) ∧ ∀ k, p.1.ownBlock = some k → k < B
theorem RowsAt.call {w w' : World} {base B b off : Nat} {PV : List (Value × List Tm)} (h : RowsAt w base B b off PV) (hb : Below w.heap.size w w') : RowsAt w' base B b off PV :=
  ⟨Nat.lt_of_lt_of_le h.lt hb.size, fun j hj => (hb.cell (p := ⟨b, off + j, none⟩) h.lt).trans (h.get j hj), fun p hp => ⟨row_call (h.row p hp).1 hb, (h.row p hp).2⟩⟩
theorem RowsAt.tail {w : World} {base B b off : Nat} {p : Value × List Tm} {PV : List (Value × List Tm)} (h : RowsAt w base B b off (p :: PV)) : RowsAt w base B b (off + 1) PV :=
  ⟨h.lt, fun j hj => by have := h.get (j + 1) (by simp; omega); rw [show off + 1 + j = off + (j + 1) by omega, this]; rfl, fun p hp => h.row p (List.mem_cons_of_mem _ hp)⟩
set_option maxRecDepth 100000 in
/-- A term of its own, put into a new one. -/
theorem shift0_any (bl : Nat) (Al : Option Addr) (cl : Nat) (L : List Tm) (w : World) (hl : L.length ≤ 1000000) (hbd : Bnd L) (hL : w.ownsRow bl 47 8 (.slice Al L.length cl) L.length (flatT L)) :
    Calls Try.prog 97 #[.slice none 0 0, .slice Al L.length cl] w (RetT w.heap.size L w) := by
  have := shift_any w.heap.size bl none 0 [] Al cl L w (Nat.le_refl _) (by simpa using hl) hbd (World.ownsRow_nil _ _ _ _) hL (fun k hk => by cases hk)
  simpa [shL_zero] using this
/-- What join hands back. -/
def JoinPost (k : Int) (PV : List (Value × List Tm)) (w : World) (e : Ending) (w' : World) : Prop :=
  (∃ V X, PV = [(V, X)] ∧ e = .returned V ∧ Below w.heap.size w w') ∨ (2 ≤ PV.length ∧ RetT w.heap.size (joinT k (PV.map Prod.snd)) w e w')
set_option maxRecDepth 100000 in
set_option maxHeartbeats 2000000 in
theorem rjoin_any (k : Int) (base B : Nat) (PV : List (Value × List Tm)) : ∀ (b off c : Nat) (w : World), PV ≠ [] → RowsAt w base B b off PV → B ≤ w.heap.size → PV.length ≤ c → PV.length ≤ 100000 → (∀ p ∈ PV, Bnd p.2 ∧ 0 < p.2.length) → (joinT k (PV.map Prod.snd)).length ≤ 1000000 →
    Calls Try.prog 96 #[.slice (some ⟨b, off, none⟩) PV.length c, .int .i64 k] w (JoinPost k PV w) := by
  induction PV with
  | nil => intro b off c w h; exact absurd rfl h
  | cons p PV ih =>
    intro b off c w _ hP hB hc hlen hX hl
    obtain ⟨V, X⟩ := p
    have ca : w.cell? ⟨b, off, none⟩ = some V := hP.get 0 (by simp)
    obtain ⟨hrow, hown⟩ := hP.row (V, X) (by simp)
    obtain ⟨hbd, hX0⟩ := hX (V, X) (by simp)
    simp only at hrow hown hbd hX0
    have hbw := hP.lt
    cases PV with
    | nil =>
      clear ih hP hX hl
      obtain ⟨A, c', rfl⟩ := row_shape hrow
      go_enter Try.func96, Try.ntmps96
      go_wp2_with fail
      go_ret
      exact .inl ⟨_, _, rfl, rfl, Below.refl _ _⟩
    | cons q PV =>
      have hjt : joinT k (((V, X) :: q :: PV).map Prod.snd) = twoT k X (joinT k ((q :: PV).map Prod.snd)) := rfl
      have hR0 := joinT_pos k ((q :: PV).map Prod.snd) (by simp) (fun r hr => by
        obtain ⟨p, hp, rfl⟩ := List.mem_map.1 hr
        exact (hX p (List.mem_cons_of_mem _ hp)).2)
      have hRB : Bnd (joinT k ((q :: PV).map Prod.snd)) := Bnd.join _ (fun r hr => by
        obtain ⟨p, hp, rfl⟩ := List.mem_map.1 hr
        exact (hX p (List.mem_cons_of_mem _ hp)).1)
      rw [hjt, twoT_length] at hl
      have C2 := fun (w1 : World) (hb : Below w.heap.size w w1) => ih b (off + 1) (c - 1) w1 (by simp) (hP.call hb).tail (Nat.le_trans hB hb.size) (by simp at hc ⊢; omega) (by simp at hlen ⊢; omega) (fun p hp => hX p (List.mem_cons_of_mem _ hp)) (by omega)
      have hrow2 := fun (w1 : World) (hb : Below w.heap.size w w1) p (hp : p ∈ q :: PV) => (hP.call hb).row p (List.mem_cons_of_mem _ hp)
      have hpost : ∀ e w', RetT w.heap.size (twoT k X (joinT k ((q :: PV).map Prod.snd))) w e w' → JoinPost k ((V, X) :: q :: PV) w e w' := fun e w' h => .inr ⟨by simp, h⟩
      refine Calls.mono ?_ hpost
      have hml : (((V, X) :: q :: PV : List (Value × List Tm))).length = (q :: PV).length + 1 := rfl
      rw [hml] at hc hlen ⊢
      have hm1 : 1 ≤ (q :: PV).length := by simp
      have HJ : ∀ (w1 : World) (hb : Below w.heap.size w w1) e w', JoinPost k (q :: PV) w1 e w' → ∃ A' c' bl', e = .returned (.slice A' (joinT k ((q :: PV).map Prod.snd)).length c') ∧ w'.ownsRow bl' 47 8 (.slice A' (joinT k ((q :: PV).map Prod.snd)).length c') (joinT k ((q :: PV).map Prod.snd)).length (flatT (joinT k ((q :: PV).map Prod.snd))) ∧ Below w1.heap.size w1 w' ∧ (∀ g, (Value.slice A' (joinT k ((q :: PV).map Prod.snd)).length c').ownBlock = some g → g < w.heap.size ∨ w1.heap.size ≤ g) := by
        intro w1 hb e w' h
        rcases h with ⟨V', X', he, rfl, hb2⟩ | ⟨_, A', c', rfl, ho, hb2⟩
        · obtain ⟨hr, hk⟩ := hrow2 w1 hb (V', X') (by rw [he]; simp)
          simp only at hr hk
          obtain ⟨A', c', rfl⟩ := row_shape hr
          have ej : joinT k ((q :: PV).map Prod.snd) = X' := by rw [he]; rfl
          rw [ej]
          exact ⟨A', c', _, rfl, row_call hr hb2, hb2, fun g hg => .inl (Nat.lt_of_lt_of_le (hk g hg) hB)⟩
        · exact ⟨A', c', _, rfl, ho, hb2, fun g hg => .inr (own_lt ho hg).1⟩
      have hx1 := twoT_length k X (joinT k ((q :: PV).map Prod.snd))
      have C4 := fun (w1 : World) (hb : Below w.heap.size w w1) => (C2 w1 hb).mono (HJ w1 hb)
      have hfl : flatT (twoT k X (joinT k ((q :: PV).map Prod.snd))) = flatT (X ++ shL X.length (joinT k ((q :: PV).map Prod.snd))) ++ (#[.int .i64 k, .int .i64 ((X.length : Int) - 1), .int .i64 ((X.length : Int) + (joinT k ((q :: PV).map Prod.snd)).length - 1), .int .i64 0, .int .u64 0, .int .u64 0, .int .u64 0, .int .u64 0] : Array Value).toList := by
        unfold twoT
        rw [flatT_snoc]
        simp [tmCells, tmB, wd_zSet]
      unfold RetT
      rw [hfl, hx1]
      generalize (q :: PV).length = m at *
      generalize joinT k ((q :: PV).map Prod.snd) = R at *
      obtain ⟨A0, c0, rfl⟩ := row_shape hrow
      have C1 := shift0_any base A0 c0 X w (by omega) hbd hrow
      have C3 := fun (A1 : Option Addr) (c1 : Nat) (A2 : Option Addr) (c2 bl2 : Nat) (w2 : World) (hb : w.heap.size ≤ w2.heap.size) h1 h2 h3 => shift_any w.heap.size bl2 A1 c1 X A2 c2 R w2 hb (by omega) hRB h1 h2 h3
      clear hfl C2 hrow2 HJ hX ih hjt hpost hP hx1 hbd
      obtain ⟨i0, hi, hz0, hz1, hz2⟩ := info_parts info_term
      have HI := Lib.hid hi; clear hi
      have HZ0 := Lib.hid hz0; clear hz0
      have HZ1 := Lib.hid hz1; clear hz1
      have HZ2 := Lib.hid hz2; clear hz2
      obtain ⟨Q, hQ⟩ : ∃ Q, X.length + R.length = Q := ⟨_, rfl⟩
      have hlx : (X ++ shL X.length R).length = Q := by rw [List.length_append, shL_length, hQ]
      have hq1 : (X.length : Int) + (R.length : Int) = (Q : Int) := by omega
      rw [hq1, hQ]
      unfold RetT at C1 C3
      rw [hlx] at C3
      obtain ⟨S, hS⟩ : ∃ S, flatT (X ++ shL X.length R) = S := ⟨_, rfl⟩
      rw [hS] at C3 ⊢
      generalize hN : X.length = N at *
      generalize hM : R.length = M at *
      have HC1 := Lib.hid C1
      have HC3 := Lib.hid C3
      have HC4 := Lib.hid C4
      have hq2 : Q ≤ 1000000 := by omega
      have hq3 : N ≤ 1000000 := by omega
      clear C1 C3 C4 hlx hS hN hM hrow hown hQ hq1 hl
      have hc1 : (m : Int) + 1 ≤ c := by omega
      have hm2 : ((m : Int) + 1 == 1) = false := beq_eq_false_iff_ne.2 (by omega)
      go_enter Try.func96, Try.ntmps96
      go_wp2_with fail
      refine HC1.out.mono ?_
      rintro e1 w1 ⟨A1, c1, rfl, hown1, hb1⟩
      have H1 := Lib.hid hown1
      have HB1 := Lib.hid hb1
      clear hb1 hown1
      go_wp2_with fail
      refine (HC4.out _ HB1.out).mono ?_
      rintro e2 w2 ⟨A2, c2, bl2, rfl, hown2, hb2, hap2⟩
      have hown1 := row_call H1.out hb2
      have hap : Apart (.slice A1 N c1) (.slice A2 M c2) := fun g h1 h2 => by
        have l1 := own_lt H1.out h1
        rcases hap2 g h2 with h | h <;> omega
      have HB2 := Lib.hid (below_then HB1.out hb2)
      have C3 := HC3.out A1 c1 A2 c2 bl2 w2 HB2.out.size hown1 hown2 hap
      clear hown1 hown2 hap hap2 hb2 H1
      go_wp2_with fail
      refine C3.mono ?_
      rintro e3 w3 ⟨A3, c3, rfl, hown3, hb3⟩
      have HB3 := Lib.hid (HB2.out.trans hb3)
      have hsz3 : w.heap.size ≤ w3.heap.size := HB3.out.size
      clear C3 hb3
      go_wp2_with (at_builtin; go_must (refine wpList_append_elem _ rfl (.tmp 26) (.tmp 33) 31 rfl (w.heap.size) 47 i0 _ _ _ Try.underlying31 HI.out HZ0.out HZ1.out HZ2.out rfl (by decide) _ _ _ _ rfl hown3 #[.int .i64 k, .int .i64 ((N : Int) - 1), .int .i64 ((Q : Int) - 1), .int .i64 0, .int .u64 0, .int .u64 0, .int .u64 0, .int .u64 0] _ rfl (by first | rfl | simp) rfl (by simp [Value.oneCell']) (by unfold maxLen; omega) (by omega) (by first | omega | (simp; omega)) ?_); intro A4 q4 w4 hown4 hbl4)
      go_ret
      exact ⟨A4, q4, rfl, hown4, HB3.out.trans hbl4⟩
set_option maxRecDepth 100000 in
set_option maxHeartbeats 2000000 in
theorem rlacks_any (base : Nat) (one : List Tm) (hbd : Bnd one) (h0 : 0 < one.length) (n : Nat) : ∀ (A : Option Addr) (c : Nat) (w : World), base ≤ w.heap.size → w.ownsRow base 47 8 (.slice A one.length c) one.length (flatT one) → n ≤ 100 → (lacksT one n).length ≤ 1000000 →
    Calls Try.prog 98 #[.slice A one.length c, .int .i64 ((n : Int) + 1)] w (RetT w.heap.size (lacksT one n) w) := by
  induction n with
  | zero =>
    intro A c w hbw hown hn hl
    have hl1 : one.length ≤ 1000000 := by rw [lacksT, unaT_length] at hl; omega
    have C1 := shift0_any base A c one w hl1 hbd hown
    have C2 := fun A1 c1 (w1 : World) (hs : w.heap.size ≤ w1.heap.size) h => unary_any w.heap.size A1 c1 one 6 0 w1 hs hl1 h
    unfold RetT at C1
    show Calls _ _ _ _ (RetT w.heap.size (unaT one 6 0) w)
    generalize unaT one 6 0 = Y at *
    generalize one.length = N at *
    have HC1 := Lib.hid C1
    have HC2 := Lib.hid C2
    clear C1 C2 hown hbd hl
    go_enter Try.func98, Try.ntmps98
    go_wp2_with fail
    refine HC1.out.mono ?_
    rintro e1 w1 ⟨A1, c1, rfl, hown1, hb1⟩
    have C2 := HC2.out A1 c1 w1 hb1.size hown1
    have HB1 := Lib.hid hb1
    clear hb1 hown1
    go_wp2_with fail
    refine C2.mono ?_
    rintro e2 w2 ⟨A2, c2, rfl, hown2, hb2⟩
    have HB2 := Lib.hid (HB1.out.trans hb2)
    have H2 := Lib.hid hown2
    clear hb2 hown2 C2 HC1 HC2
    go_wp2_with fail
    go_ret
    exact ⟨A2, c2, rfl, H2.out, HB2.out⟩
  | succ n ih =>
    intro A c w hbw hown hn hl
    have e1 : lacksT one (n + 1) = unaT (twoT 3 one (lacksT one n)) 6 0 := rfl
    rw [e1] at hl ⊢
    have hlt : (twoT 3 one (lacksT one n)).length ≤ 1000000 := by rw [unaT_length] at hl; omega
    have hll : (lacksT one n).length ≤ 1000000 := by rw [twoT_length] at hlt; omega
    have hl1 : one.length ≤ 1000000 := by rw [twoT_length] at hlt; omega
    have C1 := ih A c w hbw hown (by omega) hll
    have hRB := hbd.lacks n
    have hRp := lacksT_pos one n
    have C3 := fun A1 c1 (w1 : World) (hs : w.heap.size ≤ w1.heap.size) h => unary_any w.heap.size A1 c1 (twoT 3 one (lacksT one n)) 6 0 w1 hs hlt h
    have C2 := fun (V : Value) (b : Nat) (w1 : World) (hP : RowsAt w1 base b b 0 [(.slice A one.length c, one), (V, lacksT one n)]) (hb : b ≤ w1.heap.size) => rjoin_any 3 base b [(.slice A one.length c, one), (V, lacksT one n)] b 0 2 w1 (by simp) hP hb (by simp) (by simp) (by
      intro p hp
      simp only [List.mem_cons, List.not_mem_nil, or_false] at hp
      rcases hp with rfl | rfl
      · exact ⟨hbd, h0⟩
      · exact ⟨hRB, hRp⟩) hlt
    have hJ : ∀ (V : Value) (w1 : World) e w', JoinPost 3 [(.slice A one.length c, one), (V, lacksT one n)] w1 e w' → RetT w1.heap.size (twoT 3 one (lacksT one n)) w1 e w' := fun V w1 e w' h => by
      rcases h with ⟨_, _, he, _⟩ | ⟨_, h⟩
      · cases he
      · exact h
    have C4 := fun V b w1 hP hb => (C2 V b w1 hP hb).mono (hJ V w1)
    have x1 : ((n + 1 : Nat) : Int) + 1 - 1 = (n : Int) + 1 := by omega
    have x2 : (((n + 1 : Nat) : Int) + 1 == 1) = false := beq_eq_false_iff_ne.2 (by omega)
    have HOWN := Lib.hid hown
    unfold RetT at C1 C4
    clear hJ C2 ih e1 hRB hRp hbd hl hown
    generalize unaT (twoT 3 one (lacksT one n)) 6 0 = Y at *
    generalize twoT 3 one (lacksT one n) = T2 at *
    obtain ⟨R, hR⟩ : ∃ R, lacksT one n = R := ⟨_, rfl⟩
    rw [hR] at C1 C4
    generalize hNN : one.length = N at *
    have HNN := Lib.hid hNN
    generalize T2.length = M2 at *
    have HC1 := Lib.hid C1
    have HC3 := Lib.hid C3
    have HC4 := Lib.hid C4
    clear C1 C3 C4 hR hll hNN
    generalize ((n + 1 : Nat) : Int) + 1 = n2 at *
    go_enter Try.func98, Try.ntmps98
    go_wp2_with fail
    refine HC1.out.mono ?_
    rintro e1 w1 ⟨A1, c1, rfl, hown1, hb1⟩
    have hw1 := hb1.size
    have hb2 := hb1.alloc hw1 (.cells #[.slice A N c, .slice A1 R.length c1] 31)
    have hP : RowsAt (w1.alloc (.cells #[.slice A N c, .slice A1 R.length c1] 31)) base w1.heap.size w1.heap.size 0 [(.slice A N c, one), (.slice A1 R.length c1, R)] := by
      have s := Slab.new w1 #[.slice A N c, .slice A1 R.length c1] 31
      refine ⟨s.lt, fun j hj => ?_, fun p hp => ?_⟩
      · rw [s.cell, Nat.zero_add]; simp
      · simp only [List.mem_cons, List.not_mem_nil, or_false] at hp
        rcases hp with rfl | rfl
        · refine ⟨?_, fun k hk => Nat.lt_of_lt_of_le (own_lt HOWN.out hk).2 hw1⟩
          show World.ownsRow _ _ _ _ _ one.length _
          rw [HNN.out]
          exact (row_call HOWN.out hb1).alloc _
        · exact ⟨row_mono (hown1.alloc _) hbw, fun k hk => (own_lt hown1 hk).2⟩
    have C2 := HC4.out _ _ _ hP (by simp)
    have HB2 := Lib.hid hb2
    clear HC1 HC4 hown1 hb1 hP hb2
    go_wp2_with fail
    refine C2.mono ?_
    rintro e2 w2 ⟨A2, c2, rfl, hown2, hb3⟩
    have hs3 := Nat.le_trans HB2.out.size hb3.size
    have C3 := HC3.out A2 c2 w2 hs3 (row_mono hown2 HB2.out.size)
    have HB3 := Lib.hid (below_then HB2.out hb3)
    clear C2 HC3 hown2 hb3
    unfold RetT at C3
    go_wp2_with fail
    refine C3.mono ?_
    rintro e3 w3 ⟨A3, c3, rfl, hown3, hb4⟩
    have HB4 := Lib.hid (HB3.out.trans hb4)
    have H3 := Lib.hid hown3
    clear C3 hown3 hb4
    go_wp2_with fail
    go_ret
    exact ⟨A3, c3, rfl, H3.out, HB4.out⟩
end Go.Proofs.Ytddokdjlmdoebaa
