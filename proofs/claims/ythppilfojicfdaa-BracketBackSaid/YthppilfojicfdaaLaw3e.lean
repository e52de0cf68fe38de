/- BracketBack, walked. -/
import Derived.Test.YthppilfojicfdaaProg
import Derived.WalkKit
import Derived.WalkSpells
import Derived.WalkLawsBesides
import Derived.Handy
import Derived.Lib.Hide
import Derived.Test.YthppilfojicfdaaLaw3
import Derived.Test.YthppilfojicfdaaBrkV
import Derived.Test.YthppilfojicfdaaEqA
import Derived.Deep.QuietTactic
import Derived.Deep.RegionHeld3
import Derived.BigQuiet
namespace Go.Proofs.Ythppilfojicfdaa
open Go.RowKit SetP BrkP
attribute [local go_sem] run_eq_set
theorem textB_len (f : Nat → Bool) : (textB f).length ≤ 1000 := by
  have hopt : ∀ b c, (optB b c).length ≤ 1 := fun b c => by cases b <;> simp [optB]
  have h1 := runsT_len (runsF (restF f))
  have h2 := runsB_length (restF f) 256
  have h3 : (runsF (restF f)).length ≤ 256 := h2
  have ho : (outB f).length ≤ 1 + 768 + 1 := by
    unfold outB
    rw [List.length_append, List.length_append]
    have := hopt (f 93) 93
    have := hopt (f 91) 91
    omega
  have hl : (lastB f).length ≤ 2 := by
    unfold lastB
    have := hopt (f 94) 94
    have := hopt (f 45) 45
    split
    · rw [List.length_cons]; omega
    · rw [List.length_append]; omega
  unfold textB
  split
  · decide
  · split
    · decide
    · simp only [List.length_cons, List.length_append, List.length_nil]; omega
theorem with1_any (g c : Nat) (w : World) (o : Slab w g #[.int .u8 94] 5) :
    Calls Try.prog 28 #[.agg #[.int .u64 0, .int .u64 0, .int .u64 0, .int .u64 0], .slice (some ⟨g, 0, none⟩) 1 c] w fun e w' => e = .returned (setV upF) ∧ Below w.heap.size w w' := by
  have h := with_some (fun _ => false) g 0 c [94] w (by decide) o.lt (fun i hi => by
    have hi' : i < 1 := hi
    obtain rfl : i = 0 := by omega
    rw [Nat.zero_add, o.cell]; rfl) (fun i hi => by
    have hi' : i < 1 := hi
    obtain rfl : i = 0 := by omega
    exact ⟨by decide, by decide⟩)
  have e : addL (fun _ => false) [94] = upF := by
    funext x
    unfold addL upF
    simp only [List.foldl_cons, List.foldl_nil, addB]
    simp
  rw [e] at h
  unfold setV at h
  rw [wd_zero, wd_zero, wd_zero, wd_zero] at h
  exact h
set_option maxRecDepth 100000 in
set_option maxHeartbeats 2000000 in
theorem backk_any (f : Nat → Bool) (A : ByteArray) (w : World) :
    Calls Try.prog 15 #[setV f, .string A] w fun e w' => e = .returned (.bool true) ∧ Below w.heap.size w w' := by
  have o0 : Slab (w.alloc (.cells (cells4 f) 24)) w.heap.size (cells4 f) 24 := Slab.new _ _ _
  have HB0 := Lib.hid ((Below.refl w.heap.size w).alloc (Nat.le_refl _) (.cells (cells4 f) 24))
  cases h : decide (100 < (A.size : Int)) with
  | true =>
    go_enter Try.func15, Try.ntmps15
    go_wp2_with fail
    refine (sure3_any _).mono ?_
    rintro e1 w1 ⟨rfl, hb1⟩
    have HB1 := below_then HB0.out hb1
    go_wp2
    go_ret
    exact ⟨rfl, HB1⟩
  | false =>
  have hA : A.size ≤ 100 := by simp at h; omega
  have C1 := btext_any f
  have C2 := rtext_any f
  obtain ⟨T, hT⟩ : ∃ T, strB (textB f) = T := ⟨_, rfl⟩
  have hTz : T.size ≤ 1000 := by rw [← hT, strB_size]; exact textB_len f
  have hnil : (T.toList == []) = (textB f).isEmpty := by rw [← hT]; exact strB_nil _
  have hnil2 : T.toList.isEmpty = (textB f).isEmpty := by rw [← hT, ByteArray.toList_eq]
  rw [hT] at C1 C2
  cases he : (textB f).isEmpty with
  | true =>
    rw [he] at hnil hnil2
    have htb : textB f = [] := by simpa using he
    have hU : same f upF = true := by
      rw [up_same]
      unfold textB at htb
      split at htb
      · cases htb
      · split at htb
        · assumption
        · cases htb
    have kE := fun w => run_eq_set w f upF
    rw [hU] at kE
    clear hT he htb hU
    go_enter Try.func15, Try.ntmps15
    go_wp2_with fail
    refine (C1 _).mono ?_
    rintro e1 w1 ⟨rfl, hb1⟩
    have o1 := o0.call hb1
    have HB1 := Lib.hid (below_then HB0.out hb1)
    obtain ⟨c1, f1⟩ := o1.facts
    clear hb1 o0 HB0
    go_wp2_with fail
    refine (C2 _).mono ?_
    rintro e2 w2 ⟨rfl, hb2⟩
    have o2 := o1.call hb2
    have HB2 := Lib.hid (below_then HB1.out hb2)
    clear hb2 o1 HB1 c1 f1 C1 C2
    go_wp2_with fail
    go_region_held3 (fun w' => (∀ i, w'.cell? ⟨w.heap.size, i, none⟩ = (cells4 f)[i]?)) (first | exact o2.cell | exact (o2.alloc _).cell | exact ((o2.drewN _).alloc _).cell) (first | (go_at_call 28; refine (with1_any _ _ _ (by first | exact Slab.new _ _ _ | exact Slab.newAt _ _ _ (by simp))).mono ?_; rintro e3 w3 ⟨rfl, hb3⟩; replace HB2 := Lib.hid (below_then (by first | exact below_da HB2.out _ _ | exact HB2.out.alloc HB2.out.size _) hb3); replace o2 := Slab.call (by first | exact (o2.drewN _).alloc _ | exact o2.alloc _) hb3; clear hb3) | (go_at_call 46; refine (sure3_any _).mono ?_; rintro e4 w4 ⟨rfl, hb4⟩; replace HB2 := Lib.hid (below_then (by first | exact HB2.out | exact HB2.out.drew | exact below_drewN HB2.out _) hb4); replace o2 := o2.callD hb4 rfl; clear hb4))
    go_wp2
    go_ret
    exact ⟨rfl, HB2.out⟩
  | false =>
    rw [he] at hnil hnil2
    have hne : textB f ≠ [] := by intro h; rw [h] at he; cases he
    obtain ⟨g, hg, hs⟩ := text_read f A hne
    have hlt : 0 < (textB f).length := by cases hq : textB f with | nil => exact absurd hq hne | cons _ _ => simp
    have hsz : (A ++ T).size = A.size + T.size := ByteArray.size_append' ..
    have hTl : T.size = (textB f).length := by rw [← hT]; exact strB_size _
    have hr : readB ((A ++ T) ++ A) A.size = ⟨g, ((A.size + T.size : Nat) : Int), 0, 0⟩ := by
      have hg' : readB (A ++ T) A.size = ⟨g, ((A.size + (textB f).length : Nat) : Int), 0, 0⟩ := by rw [← hT]; exact hg
      have h2 := readB_alike (alike_app (A ++ T) A) A.size (by omega) (by rw [hsz]; omega) (by
        rw [hg']; left; refine ⟨rfl, ?_⟩; rw [hsz, hTl]; simp)
      rw [h2, hg', hTl]
    have C3 := bread_any ((A ++ T) ++ A) A.size (by rw [ByteArray.size_append', hsz]; omega)
    rw [hr] at C3
    have kE := fun w => run_eq_set w g f
    rw [hs] at kE
    have hsum : IntKind.i64.wrap ((A.size : Int) + (T.size : Int)) = ((A.size + T.size : Nat) : Int) := by rw [IntWalk.i64_in _ (by omega)]; simp
    clear hT he hne hg hs hlt hTl hr
    go_enter Try.func15, Try.ntmps15
    go_wp2_with fail
    refine (C1 _).mono ?_
    rintro e1 w1 ⟨rfl, hb1⟩
    have o1 := o0.call hb1
    have HB1 := Lib.hid (below_then HB0.out hb1)
    obtain ⟨c1, f1⟩ := o1.facts
    clear hb1 o0 HB0
    go_wp2_with fail
    refine (C2 _).mono ?_
    rintro e2 w2 ⟨rfl, hb2⟩
    have o2 := o1.call hb2
    have HB2 := Lib.hid (below_then HB1.out hb2)
    clear hb2 o1 HB1 c1 f1 C1 C2
    go_wp2_with fail
    refine (C3 _).mono ?_
    rintro e3 w3 ⟨rfl, hb3⟩
    have o3 := (o2.call hb3).alloc (.cells (cells4 g) 24)
    have HB3' := below_then HB2.out hb3
    have HB3 := Lib.hid (HB3'.alloc HB3'.size (.cells (cells4 g) 24))
    obtain ⟨c3, f3⟩ := o3.facts
    clear hb3 o2 HB2 HB3' C3
    go_wp2_with fail
    refine (sure3_any _).mono ?_
    rintro e4 w4 ⟨rfl, hb4⟩
    have HB4 := below_then HB3.out hb4
    go_wp2
    go_ret
    exact ⟨rfl, HB4⟩
end Go.Proofs.Ythppilfojicfdaa
