/- Plain facts: the text of counts is read as the counts. No program is in sight. -/
import Derived.Test.YtddokdjlmdoebaaMBrb
import Derived.Test.YtddokdjlmdoebaaProg
import Derived.WalkKit
import Derived.WalkSpells
import Derived.WalkLawsBesides
import Derived.Handy
import Derived.Lib.Hide
import Derived.Test.YtddokdjlmdoebaaMBra
set_option linter.unusedVariables false
set_option linter.unusedSimpArgs false
namespace Go.Proofs.Ytddokdjlmdoebaa
open BraceP

theorem dig_of (x : Nat) (hx : x ≤ 9) : isDig (UInt8.ofNat (48 + x)) = true ∧ dig (UInt8.ofNat (48 + x)) = x := by
  have h : (UInt8.ofNat (48 + x)).toNat = 48 + x := UInt8.toNat_ofNat_of_lt' (by have : UInt8.size = 256 := rfl; omega)
  unfold isDig dig
  rw [h]
  constructor
  · simp; omega
  · omega
/-- Reading a number of at most two digits, from nothing. -/
theorem rd1_num (n : Int) (h0 : 0 ≤ n) (h1 : n ≤ 99) (rest : List UInt8) (i : Int) :
    ∃ d : Int, 0 < d ∧ rd1 (digF n ++ rest) i 0 0 = rd1 rest (i + (digF n).length) n d := by
  obtain ⟨k, rfl⟩ := Int.eq_ofNat_of_zero_le h0
  unfold digF
  rw [Int.toNat_natCast]
  by_cases h : (k : Int) < 10
  · rw [if_pos h]
    obtain ⟨a, b⟩ := dig_of k (by omega)
    refine ⟨1, by omega, ?_⟩
    rw [List.singleton_append, rd1, if_pos a, b]
    simp [full]
  · rw [if_neg h]
    obtain ⟨a, b⟩ := dig_of (k / 10) (by omega)
    obtain ⟨a', b'⟩ := dig_of (k % 10) (by omega)
    refine ⟨2, by omega, ?_⟩
    rw [List.cons_append, List.singleton_append, rd1, if_pos a, b, if_neg (by simp [full]), rd1, if_pos a', b', if_neg (by simp [full]; omega)]
    have e : 10 * (10 * 0 + ((k / 10 : Nat) : Int)) + ((k % 10 : Nat) : Int) = k := by omega
    rw [e]
    simp [List.length]
    congr 1
    omega
theorem most_num (v d : Int) : most v d = if full v d then v else 10 * v + 9 := rfl
theorem rd2_num (least n : Int) (h0 : 0 ≤ n) (h1 : n ≤ 99) (hl : least ≤ n) (rest : List UInt8) (i : Int) :
    ∃ d : Int, d ≠ 0 ∧ rd2 least (digF n ++ rest) i 0 0 = rd2 least rest (i + (digF n).length) n d := by
  obtain ⟨k, rfl⟩ := Int.eq_ofNat_of_zero_le h0
  unfold digF
  rw [Int.toNat_natCast]
  by_cases h : (k : Int) < 10
  · rw [if_pos h]
    obtain ⟨a, b⟩ := dig_of k (by omega)
    refine ⟨1, by omega, ?_⟩
    rw [List.singleton_append, rd2, if_pos a, b]
    have hm : ¬ most (10 * 0 + (k : Int)) (0 + 1) < least := by rw [most_num]; split <;> omega
    rw [if_neg (by simp [full] at hm ⊢; simpa using hm)]
    simp
  · rw [if_neg h]
    obtain ⟨a, b⟩ := dig_of (k / 10) (by omega)
    obtain ⟨a', b'⟩ := dig_of (k % 10) (by omega)
    refine ⟨2, by omega, ?_⟩
    have e : 10 * (10 * 0 + ((k / 10 : Nat) : Int)) + ((k % 10 : Nat) : Int) = k := by omega
    have hm : ¬ most (10 * 0 + ((k / 10 : Nat) : Int)) (0 + 1) < least := by
      rw [most_num, if_neg (by simp [full]; omega)]; omega
    have hm' : ¬ most (k : Int) (0 + 1 + 1) < least := by
      rw [most_num, if_pos (by simp [full])]; omega
    rw [List.cons_append, List.singleton_append, rd2, if_pos a, b, if_neg (by rw [decide_eq_false hm]; simp [full]), rd2, if_pos a', b', e,
      if_neg (by rw [decide_eq_false hm']; simp [full]; omega)]
    simp [List.length]
    congr 1
    omega
theorem rd0_brace (l : List UInt8) (i : Int) : rd0 123 l i = rd1 l i 0 0 := by
  simp [rd0]
/-- The text of counts is read as the counts. -/
theorem readF_text (n m : Int) (h : rightB n m = true) : readF (textF n m) 0 = (n, m, ((textF n m).length : Int), 0, 0) := by
  obtain ⟨T, hT⟩ : ∃ T, textF n m = T := ⟨_, rfl⟩
  rw [hT]
  have open_ : ∀ l : List UInt8, readF (123 :: l) 0 = rd1 l 1 0 0 := fun l => by simp [readF, rd0_brace]
  rcases text_cases hT with ⟨hr, _⟩ | ⟨_, h0, h1, ⟨rfl, rfl, rfl⟩ | ⟨rfl, rfl, rfl⟩ | ⟨rfl, rfl, rfl⟩ | ⟨rfl, rfl⟩ | ⟨rfl, hn, rfl⟩ | ⟨hnm, hm, hne, rfl⟩⟩
  · rw [h] at hr; cases hr
  · decide
  · decide
  · decide
  · rw [open_]
    obtain ⟨d, hd, e⟩ := rd1_num m h0 h1 [125] 1
    rw [e, rd1, if_neg (by decide), if_pos (by simp [hd])]
    simp; omega
  · rw [open_]
    obtain ⟨d, hd, e⟩ := rd1_num n h0 h1 [44, 125] 1
    rw [e, rd1, if_neg (by decide), if_neg (by simp), if_pos (by simp [hd]), rd2, if_neg (by decide), if_pos (by decide)]
    simp; omega
  · rw [open_]
    obtain ⟨d, hd, e⟩ := rd1_num n h0 h1 (44 :: (digF m ++ [125])) 1
    obtain ⟨d', hd', e'⟩ := rd2_num n m (by omega) hm (by omega) [125] (1 + ((digF n).length : Int) + 1)
    rw [e, rd1, if_neg (by decide), if_neg (by simp), if_pos (by simp [hd]), e', rd2, if_neg (by decide), if_neg (by simp [hd']), if_neg (by simp; omega), if_pos (by decide)]
    simp; omega
end Go.Proofs.Ytddokdjlmdoebaa

/- BraceBack, walked. -/
namespace Go.Proofs.Ytddokdjlmdoebaa
open Go.RowKit BraceP
attribute [local go_sem] run_eq_span

theorem toList_nil {S : ByteArray} (h : S.size = 0) : S.toList = [] := by
  rw [ByteArray.toList_eq]; exact List.eq_nil_of_length_eq_zero (by simpa using h)
theorem toList_ne {S : ByteArray} (h : 0 < S.size) : S.toList ≠ [] := by
  rw [ByteArray.toList_eq]; intro e
  have h2 : S.data.toList.length = S.size := by simp
  rw [e] at h2
  have h3 : S.size = 0 := h2.symm
  omega
theorem textF_pos {n m : Int} (h : rightB n m = true) : 0 < (textF n m).length := by
  rcases text_cases (rfl : textF n m = textF n m) with ⟨hr, _⟩ | ⟨_, _, _, ⟨_, _, e⟩ | ⟨_, _, e⟩ | ⟨_, _, e⟩ | ⟨_, e⟩ | ⟨_, _, e⟩ | ⟨_, _, _, e⟩⟩
  · rw [h] at hr; cases hr
  all_goals (rw [e]; simp)
theorem textF_len (n m : Int) : (textF n m).length ≤ 7 := by
  have := digF_len n; have := digF_len m
  rcases text_cases (rfl : textF n m = textF n m) with ⟨_, e⟩ | ⟨_, _, _, ⟨_, _, e⟩ | ⟨_, _, e⟩ | ⟨_, _, e⟩ | ⟨_, e⟩ | ⟨_, _, e⟩ | ⟨_, _, _, e⟩⟩
  all_goals (rw [e]; simp; try omega)

end Go.Proofs.Ytddokdjlmdoebaa

/- BraceLack, walked. -/
namespace Go.Proofs.Ytddokdjlmdoebaa
open Go.RowKit BraceP
attribute [local go_sem] run_eq_span

/-- What may lack, in order. -/
def lkB : Nat → ByteArray
  | 0 => ⟨#[125]⟩ | 1 => ⟨#[48, 125]⟩ | _ => ⟨#[57, 125]⟩
theorem lkB_size (k : Nat) : 0 < (lkB k).size ∧ (lkB k).size ≤ 2 := by unfold lkB; split <;> decide
def EndsB (s : ByteArray) (i : Int) (c : ByteArray) : Prop := Ends (readF (s ++ c).data.toList i) (s.size + c.size)
def LackAns (s : ByteArray) (i : Int) (c : ByteArray) : Prop :=
  ((readF s.data.toList i).2.2.2.1 ≠ 2 ∧ c = ⟨#[]⟩) ∨ ((readF s.data.toList i).2.2.2.1 = 2 ∧ 0 < c.size ∧ c.size ≤ 2 ∧ EndsB s i c)
theorem lack_found {s : ByteArray} {i : Int} (h : (readF s.data.toList i).2.2.2.1 = 2) : ∃ k, k < 3 ∧ EndsB s i (lkB k) := by
  obtain ⟨c, hc, he⟩ := readF_lack _ _ h
  have key : ∀ k : Nat, (lkB k).data.toList = c → EndsB s i (lkB k) := fun k hk => by
    unfold EndsB
    have e : (s ++ lkB k).data.toList = s.data.toList ++ c := by simp [ByteArray.data_append, hk]
    have e2 : (lkB k).size = c.length := by rw [← hk]; simp
    rw [e, e2]
    simpa using he
  simp only [lacks, List.mem_cons, List.not_mem_nil, or_false] at hc
  rcases hc with rfl | rfl | rfl
  · exact ⟨0, by omega, key 0 rfl⟩
  · exact ⟨1, by omega, key 1 rfl⟩
  · exact ⟨2, by omega, key 2 rfl⟩
abbrev lkCells : Array Value := #[.string (lkB 0), .string (lkB 1), .string (lkB 2)]
theorem lkCells_at (k : Nat) (h : k < 3) : lkCells[k]? = some (.string (lkB k)) := by
  have h : k = 0 ∨ k = 1 ∨ k = 2 := by omega
  rcases h with rfl | rfl | rfl <;> rfl

set_option maxRecDepth 100000 in
set_option maxHeartbeats 2000000 in
theorem lack_any (s : ByteArray) (i : Int) (hs : s.size ≤ 400) (w : World) :
    Calls Try.prog 176 #[.string s, .int .i64 i] w fun e w' => ∃ c, e = .returned (.string c) ∧ LackAns s i c ∧ Below w.heap.size w w' := by
  obtain ⟨r, hr⟩ : ∃ r, readF s.data.toList i = r := ⟨_, rfl⟩
  have C1 := read_any s i (by omega)
  rw [hr] at C1
  obtain ⟨n, m, to, er, k⟩ := r
  have HR := Lib.hid hr; clear hr
  go_enter Try.func176, Try.ntmps176
  go_wp2_with fail
  refine (C1 _).mono ?_
  rintro e1 w1 ⟨rfl, hb1⟩
  have HB1' := hb1.alloc hb1.size (.cells #[.int .i64 n, .int .i64 m] 184)
  have HB1 := Lib.hid HB1'
  clear hb1
  by_cases h2 : er = 2
  · have hfound := lack_found (s := s) (i := i) (by rw [HR.out]; exact h2)
    have HF := Lib.hid hfound; clear hfound
    have e2 : (er != 2) = false := by simpa using h2
    have H2 := Lib.hid h2; clear h2
    have o1 : Slab (((w1.alloc (.cells #[.int .i64 n, .int .i64 m] 184))).alloc (.cells lkCells 9)) (w1.heap.size + 1) lkCells 9 := Slab.newAt _ _ _ (by simp)
    have HB2 := Lib.hid (HB1'.alloc HB1'.size (.cells lkCells 9))
    clear HB1' HB1
    go_wp2
    go_loopw [27] (fun x wr => ∃ k : Nat, k ≤ 3 ∧ x = .int .i64 k ∧ (∀ j, j < k → ¬ EndsB s i (lkB j)) ∧ Slab wr (w1.heap.size + 1) lkCells 9 ∧ Below w.heap.size w wr) (fun x _ => 3 - (intOf x).toNat)
    case atStart => exact ⟨0, by omega, rfl, fun j hj => by omega, o1, HB2.out⟩
    case round =>
      clear o1 HB2
      obtain ⟨k, hk, rfl, hno, o1, hB⟩ := hrel
      have HN := Lib.hid hno; clear hno
      have HB := Lib.hid hB; clear hB
      by_cases hlt : k < 3
      · have hcell : wr.cell? ⟨w1.heap.size + 1, k, none⟩ = some (.string (lkB k)) := (o1.cell k).trans (lkCells_at k hlt)
        obtain ⟨hz0, hz2⟩ := lkB_size k
        have C2 := read_any (s ++ lkB k) i (by rw [ByteArray.size_append']; omega)
        have hE : EndsB s i (lkB k) ↔ Ends (readF (s ++ lkB k).data.toList i) (s.size + (lkB k).size) := Iff.rfl
        generalize readF (s ++ lkB k).data.toList i = q at *
        obtain ⟨qn, qm, qt, qe, qk⟩ := q
        have HE := Lib.hid hE; clear hE
        go_wp2_with fail
        refine (C2 _).mono ?_
        rintro e2 w2 ⟨rfl, hb2⟩
        have o2 := (o1.call hb2).alloc (.cells #[.int .i64 qn, .int .i64 qm] 184)
        have HB2' := below_then HB.out hb2
        have HB2 := Lib.hid (HB2'.alloc HB2'.size (.cells #[.int .i64 qn, .int .i64 qm] 184))
        clear hb2 HB2' hcell o1 C2
        cases h0 : (qe == 0) with
        | false =>
          have hno : ¬ EndsB s i (lkB k) := fun h => by
            have := (HE.out.1 h).1
            simp at h0 this; omega
          have HNo := Lib.hid hno; clear hno
          go_wp2
          go_roundw
          case rel =>
            refine ⟨k + 1, by omega, by go_num, fun j hj => ?_, o2, HB2.out⟩
            by_cases e : j = k
            · rw [e]; exact HNo.out
            · exact HN.out j (by omega)
          case measure => simp [intOf]; omega
        | true =>
          cases h1 : (qt == (s.size : Int) + ((lkB k).size : Int)) with
          | false =>
            have hno : ¬ EndsB s i (lkB k) := fun h => by
              have := (HE.out.1 h).2
              simp at h1 this; omega
            have HNo := Lib.hid hno; clear hno
            go_wp2
            go_roundw
            case rel =>
              refine ⟨k + 1, by omega, by go_num, fun j hj => ?_, o2, HB2.out⟩
              by_cases e : j = k
              · rw [e]; exact HNo.out
              · exact HN.out j (by omega)
            case measure => simp [intOf]; omega
          | true =>
            have hyes : EndsB s i (lkB k) := HE.out.2 ⟨by simpa using h0, by simpa using h1⟩
            have HY := Lib.hid hyes; clear hyes
            go_wp2
            go_ret
            exact ⟨lkB k, rfl, .inr ⟨by rw [HR.out]; exact H2.out, hz0, hz2, HY.out⟩, HB2.out⟩
      · exfalso
        obtain ⟨j, hj, he⟩ := HF.out
        exact HN.out j (by omega) he
  · have e2 : (er != 2) = true := by simpa using h2
    have H2 := Lib.hid h2; clear h2
    clear HB1'
    go_wp2
    go_ret
    exact ⟨⟨#[]⟩, rfl, .inl ⟨by rw [HR.out]; exact H2.out, rfl⟩, HB1.out⟩

end Go.Proofs.Ytddokdjlmdoebaa
