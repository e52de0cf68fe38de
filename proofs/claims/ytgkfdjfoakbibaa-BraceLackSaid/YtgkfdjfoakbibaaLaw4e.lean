/- BraceLack, walked. -/
import Derived.Test.YtgkfdjfoakbibaaProg
import Derived.WalkKit
import Derived.WalkSpells
import Derived.WalkLawsBesides
import Derived.Handy
import Derived.Lib.Hide
import Derived.Test.YtgkfdjfoakbibaaLaw4b
import Derived.Test.YtgkfdjfoakbibaaBraceR
namespace Go.Proofs.Ytgkfdjfoakbibaa
open Go.RowKit BraceP
attribute [local go_sem] run_eq_span

/-- What may lack, in order. -/
def lkB : Nat → ByteArray
  | 0 => ⟨#[125]⟩ | 1 => ⟨#[48, 125]⟩ | _ => ⟨#[57, 125]⟩
theorem lkB_size (k : Nat) : 0 < (lkB k).size ∧ (lkB k).size ≤ 2 := by unfold lkB; split <;> decide
def EndsB (s : ByteArray) (i : Int) (c : ByteArray) : Prop := Ends (readF (s ++ c).data.toList i) (s.size + c.size)
def LackAns (s : ByteArray) (i : Int) (c : ByteArray) : Prop :=
  ((readF s.data.toList i).2.2.2.1 ≠ 2 ∧ c = ⟨#[]⟩) ∨ ((readF s.data.toList i).2.2.2.1 = 2 ∧ 0 < c.size ∧ c.size ≤ 2 ∧ EndsB s i c)
theorem lack_found {s : ByteArray} {i : Int} (h : (readF s.data.toList i).2.2.2.1 = 2) : ∃ k, k < 3 ∧ EndsB s i (lkB k) := by
  obtain ⟨c, hc, he⟩ := readF_lack _ _ h
  have key : ∀ k : Nat, (lkB k).data.toList = c → EndsB s i (lkB k) := fun k hk => by
    unfold EndsB
    have e : (s ++ lkB k).data.toList = s.data.toList ++ c := by simp [ByteArray.data_append, hk]
    have e2 : (lkB k).size = c.length := by rw [← hk]; simp
    rw [e, e2]
    simpa using he
  simp only [lacks, List.mem_cons, List.not_mem_nil, or_false] at hc
  rcases hc with rfl | rfl | rfl
  · exact ⟨0, by omega, key 0 rfl⟩
  · exact ⟨1, by omega, key 1 rfl⟩
  · exact ⟨2, by omega, key 2 rfl⟩
abbrev lkCells : Array Value := #[.string (lkB 0), .string (lkB 1), .string (lkB 2)]
theorem lkCells_at (k : Nat) (h : k < 3) : lkCells[k]? = some (.string (lkB k)) := by
  have h : k = 0 ∨ k = 1 ∨ k = 2 := by omega
  rcases h with rfl | rfl | rfl <;> rfl

set_option maxRecDepth 100000 in
set_option maxHeartbeats 2000000 in
theorem lack_any (s : ByteArray) (i : Int) (hs : s.size ≤ 400) (w : World) :
    Calls Try.prog 19 #[.string s, .int .i64 i] w fun e w' => ∃ c, e = .returned (.string c) ∧ LackAns s i c ∧ Below w.heap.size w w' := by
  obtain ⟨r, hr⟩ : ∃ r, readF s.data.toList i = r := ⟨_, rfl⟩
  have C1 := read_any s i (by omega)
  rw [hr] at C1
  obtain ⟨n, m, to, er, k⟩ := r
  have HR := Lib.hid hr; clear hr
  go_enter Try.func19, Try.ntmps19
  go_wp2_with fail
  refine (C1 _).mono ?_
  rintro e1 w1 ⟨rfl, hb1⟩
  have HB1' := hb1.alloc hb1.size (.cells #[.int .i64 n, .int .i64 m] 24)
  have HB1 := Lib.hid HB1'
  clear hb1
  by_cases h2 : er = 2
  · have hfound := lack_found (s := s) (i := i) (by rw [HR.out]; exact h2)
    have HF := Lib.hid hfound; clear hfound
    have e2 : (er != 2) = false := by simpa using h2
    have H2 := Lib.hid h2; clear h2
    have o1 : Slab (((w1.alloc (.cells #[.int .i64 n, .int .i64 m] 24))).alloc (.cells lkCells 9)) (w1.heap.size + 1) lkCells 9 := Slab.newAt _ _ _ (by simp)
    have HB2 := Lib.hid (HB1'.alloc HB1'.size (.cells lkCells 9))
    clear HB1' HB1
    go_wp2
    go_loopw [27] (fun x wr => ∃ k : Nat, k ≤ 3 ∧ x = .int .i64 k ∧ (∀ j, j < k → ¬ EndsB s i (lkB j)) ∧ Slab wr (w1.heap.size + 1) lkCells 9 ∧ Below w.heap.size w wr) (fun x _ => 3 - (intOf x).toNat)
    case atStart => exact ⟨0, by omega, rfl, fun j hj => by omega, o1, HB2.out⟩
    case round =>
      clear o1 HB2
      obtain ⟨k, hk, rfl, hno, o1, hB⟩ := hrel
      have HN := Lib.hid hno; clear hno
      have HB := Lib.hid hB; clear hB
      by_cases hlt : k < 3
      · have hcell : wr.cell? ⟨w1.heap.size + 1, k, none⟩ = some (.string (lkB k)) := (o1.cell k).trans (lkCells_at k hlt)
        obtain ⟨hz0, hz2⟩ := lkB_size k
        have C2 := read_any (s ++ lkB k) i (by rw [ByteArray.size_append']; omega)
        have hE : EndsB s i (lkB k) ↔ Ends (readF (s ++ lkB k).data.toList i) (s.size + (lkB k).size) := Iff.rfl
        generalize readF (s ++ lkB k).data.toList i = q at *
        obtain ⟨qn, qm, qt, qe, qk⟩ := q
        have HE := Lib.hid hE; clear hE
        go_wp2_with fail
        refine (C2 _).mono ?_
        rintro e2 w2 ⟨rfl, hb2⟩
        have o2 := (o1.call hb2).alloc (.cells #[.int .i64 qn, .int .i64 qm] 24)
        have HB2' := below_then HB.out hb2
        have HB2 := Lib.hid (HB2'.alloc HB2'.size (.cells #[.int .i64 qn, .int .i64 qm] 24))
        clear hb2 HB2' hcell o1 C2
        cases h0 : (qe == 0) with
        | false =>
          have hno : ¬ EndsB s i (lkB k) := fun h => by
            have := (HE.out.1 h).1
            simp at h0 this; omega
          have HNo := Lib.hid hno; clear hno
          go_wp2
          go_roundw
          case rel =>
            refine ⟨k + 1, by omega, by go_num, fun j hj => ?_, o2, HB2.out⟩
            by_cases e : j = k
            · rw [e]; exact HNo.out
            · exact HN.out j (by omega)
          case measure => simp [intOf]; omega
        | true =>
          cases h1 : (qt == (s.size : Int) + ((lkB k).size : Int)) with
          | false =>
            have hno : ¬ EndsB s i (lkB k) := fun h => by
              have := (HE.out.1 h).2
              simp at h1 this; omega
            have HNo := Lib.hid hno; clear hno
            go_wp2
            go_roundw
            case rel =>
              refine ⟨k + 1, by omega, by go_num, fun j hj => ?_, o2, HB2.out⟩
              by_cases e : j = k
              · rw [e]; exact HNo.out
              · exact HN.out j (by omega)
            case measure => simp [intOf]; omega
          | true =>
            have hyes : EndsB s i (lkB k) := HE.out.2 ⟨by simpa using h0, by simpa using h1⟩
            have HY := Lib.hid hyes; clear hyes
            go_wp2
            go_ret
            exact ⟨lkB k, rfl, .inr ⟨by rw [HR.out]; exact H2.out, hz0, hz2, HY.out⟩, HB2.out⟩
      · exfalso
        obtain ⟨j, hj, he⟩ := HF.out
        exact HN.out j (by omega) he
  · have e2 : (er != 2) = true := by simpa using h2
    have H2 := Lib.hid h2; clear h2
    clear HB1'
    go_wp2
    go_ret
    exact ⟨⟨#[]⟩, rfl, .inl ⟨by rw [HR.out]; exact H2.out, rfl⟩, HB1.out⟩

set_option maxRecDepth 100000 in
set_option maxHeartbeats 2000000 in
theorem lack4_any (s : ByteArray) (i : Int) (w : World) :
    Calls Try.prog 7 #[.string s, .int .i64 i] w fun e w' => e = .returned (.bool true) ∧ Below w.heap.size w w' := by
  go_enter Try.func7, Try.ntmps7
  cases h : decide (400 < (s.size : Int)) with
  | true =>
    go_wp2_with fail
    refine (sure_any _).mono ?_
    rintro e1 w1 ⟨rfl, hb1⟩
    go_wp2
    go_ret
    exact ⟨rfl, hb1⟩
  | false =>
  have hs : s.size ≤ 400 := by simp at h; omega
  have C1 := read_any s i (by omega)
  go_wp2_with fail
  refine (lack_any s i hs _).mono ?_
  rintro e1 w1 ⟨c, rfl, hA, hb1⟩
  have HB1 := Lib.hid hb1
  unfold LackAns at hA
  generalize readF s.data.toList i = r at *
  obtain ⟨n, m, to, er, k⟩ := r
  simp only at hA
  rcases hA with ⟨h2, rfl⟩ | ⟨h2, hz0, hz2, hE⟩
  · have e2 : (er != 2) = true := by simpa using h2
    clear h2
    go_wp2_with fail
    refine (C1 _).mono ?_
    rintro e2 w2 ⟨rfl, hb2⟩
    have HB2' := below_then HB1.out hb2
    have HB2 := Lib.hid (HB2'.alloc HB2'.size (.cells #[.int .i64 n, .int .i64 m] 24))
    clear hb1 hb2 HB2' C1
    go_wp2_with fail
    refine (sure_any _).mono ?_
    rintro e3 w3 ⟨rfl, hb3⟩
    have HB3 := below_then HB2.out hb3
    go_wp2
    go_ret
    exact ⟨rfl, HB3⟩
  · subst h2
    have C2 := read_any (s ++ c) i (by rw [ByteArray.size_append']; omega)
    have e0 : c.toList ≠ [] := toList_ne hz0
    have e3 : (c.toList == []) = false := by simpa using e0
    have e4 : c.toList.isEmpty = false := by simpa using e0
    unfold EndsB at hE
    generalize readF (s ++ c).data.toList i = q at *
    obtain ⟨qn, qm, qt, qe, qk⟩ := q
    obtain ⟨h5, h6⟩ := hE
    simp only at h5 h6
    subst h5 h6
    go_wp2_with fail
    refine (C1 _).mono ?_
    rintro e2 w2 ⟨rfl, hb2⟩
    have HB2' := below_then HB1.out hb2
    have HB2 := Lib.hid (HB2'.alloc HB2'.size (.cells #[.int .i64 n, .int .i64 m] 24))
    clear hb1 hb2 HB2' C1
    go_wp2_with fail
    refine (C2 _).mono ?_
    rintro e3 w3 ⟨rfl, hb3⟩
    have HB3' := below_then HB2.out hb3
    have HB3 := Lib.hid (HB3'.alloc HB3'.size (.cells #[.int .i64 qn, .int .i64 qm] 24))
    clear hb3 HB3' C2
    go_wp2_with fail
    refine (sure_any _).mono ?_
    rintro e4 w4 ⟨rfl, hb4⟩
    have HB4 := below_then HB3.out hb4
    go_wp2
    go_ret
    exact ⟨rfl, HB4⟩
end Go.Proofs.Ytgkfdjfoakbibaa
