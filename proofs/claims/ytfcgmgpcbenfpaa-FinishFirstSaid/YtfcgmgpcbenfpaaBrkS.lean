/- Walks of the package bracket: what may lack, what lacks. -/
import Derived.Test.YtfcgmgpcbenfpaaProg
import Derived.WalkKit
import Derived.WalkSpells
import Derived.WalkLawsBesides
import Derived.Handy
import Derived.Lib.Hide
import Derived.Test.YtfcgmgpcbenfpaaMBkp
import Derived.Test.YtfcgmgpcbenfpaaMBka
import Derived.Test.YtfcgmgpcbenfpaaMMem
set_option linter.unusedVariables false
set_option linter.unusedSimpArgs false
namespace Go.Proofs.Ytfcgmgpcbenfpaa
open Go.RowKit SetP BrkP
def sufs (k m : Nat) : List Value := (List.range m).map fun i => .string ((nm k).extract i (nm k).size ++ ⟨#[58, 93, 93]⟩)
def four : List Value := [.string ⟨#[93]⟩, .string ⟨#[97, 93]⟩, .string ⟨#[93, 93]⟩, .string ⟨#[58, 93, 93]⟩]
def endsV (k : Nat) : List Value := four ++ (List.range k).flatMap fun j => sufs j (nm j).size
theorem sufs_len (k m : Nat) : (sufs k m).length = m := by simp [sufs]
theorem sufs_succ (k m : Nat) : sufs k (m + 1) = sufs k m ++ [.string ((nm k).extract m (nm k).size ++ ⟨#[58, 93, 93]⟩)] := by simp [sufs, List.range_succ]
theorem endsV_succ (k : Nat) : endsV (k + 1) = endsV k ++ sufs k (nm k).size := by simp [endsV, List.range_succ]
theorem endsV_len (k : Nat) : (endsV k).length ≤ 4 + 6 * k := by
  induction k with
  | zero => simp [endsV, four]
  | succ k ih =>
    have := nm_size k
    rw [endsV_succ, List.length_append, sufs_len]; omega
theorem endsV_all : endsV 12 = endsL.map .string := by
  unfold endsV endsL four
  rw [List.map_append, List.map_flatMap]
  congr 1
set_option maxRecDepth 100000 in
set_option maxHeartbeats 2000000 in
theorem endings_any (w : World) : Calls Try.prog 73 #[] w (RetRow 9 1 endsL.length (endsL.map .string) w) := by
  obtain ⟨i0, hi, hz0, hz1, hz2⟩ := info_parts info_str
  have HI := Lib.hid hi; clear hi
  have HZ0 := Lib.hid hz0; clear hz0
  have HZ1 := Lib.hid hz1; clear hz1
  have HZ2 := Lib.hid hz2; clear hz2
  go_enter Try.func73, Try.ntmps73
  have o0 : Slab (w.alloc (.cells #[.string ⟨#[93]⟩, .string ⟨#[97, 93]⟩, .string ⟨#[93, 93]⟩, .string ⟨#[58, 93, 93]⟩] 9)) w.heap.size #[.string ⟨#[93]⟩, .string ⟨#[97, 93]⟩, .string ⟨#[93, 93]⟩, .string ⟨#[58, 93, 93]⟩] 9 := Slab.new _ _ _
  have HB0 := Lib.hid ((Below.refl w.heap.size w).alloc (Nat.le_refl _) (.cells #[.string ⟨#[93]⟩, .string ⟨#[97, 93]⟩, .string ⟨#[93, 93]⟩, .string ⟨#[58, 93, 93]⟩] 9))
  go_wp2_with fail
  refine (names_any _).mono ?_
  rintro e1 w1 ⟨A1, c1, rfl, hn, hb1⟩
  obtain ⟨gn, cn, rfl, hgn, hcn, hsn, hzn, htn⟩ := row_at hn (by decide)
  have o1 := o0.call hb1
  have hb1' := below_then HB0.out hb1
  have HB1 := Lib.hid hb1'
  have hne1 : w.heap.size ≠ gn := by have := o0.lt; omega
  have hcel : ∀ j, j < 12 → cn[j]? = some (.string (nm j)) := by
    intro j hj
    have e : cn.toList[j]? = (nmL 12)[j]? := by rw [← htn, List.getElem?_take_of_lt (by omega)]
    rw [← Array.getElem?_toList, e]
    simp [nmL, hj]
  have HC := Lib.hid hcel
  clear hcel hn hb1 o0 HB0 hgn hcn hzn htn hb1'
  have row0 : w1.ownsRow w.heap.size 9 1 (.slice (some ⟨w.heap.size, 0, none⟩) 4 4) 4 (endsV 0) := row_lit o1 (Nat.le_refl _) rfl (by decide)
  go_wp2
  go_loopw [1, 8] (fun s i wr => ∃ (k : Nat) (A : Option Addr) (c : Nat), k ≤ 12 ∧ i = .int .i64 k ∧ s = .slice A (endsV k).length c ∧ wr.ownsRow w.heap.size 9 1 (.slice A (endsV k).length c) (endsV k).length (endsV k) ∧
      Slab wr gn cn 9 ∧ (Value.slice A (endsV k).length c).ownBlock ≠ some gn ∧ Below w.heap.size w wr) (fun _ i _ => 12 - (intOf i).toNat)
  case atStart => exact ⟨0, _, _, by omega, rfl, rfl, row0, hsn, by simp [Value.ownBlock]; exact hne1, HB1.out⟩
  case round =>
    clear row0 o1 hsn HB1 hne1
    obtain ⟨k, A, c, hk, rfl, rfl, hown, hsl, hne, hB⟩ := hrel
    have HB := Lib.hid hB; clear hB
    have HNE := Lib.hid hne; clear hne
    obtain ⟨c1, f1⟩ := Slab.facts (hsl)
    have hlen := endsV_len k
    by_cases hlt : k < 12
    · have hc := HC.out k hlt
      have hnz := nm_size k
      go_wp2
      go_loopw [1, 14] (fun s i wr => ∃ (m : Nat) (A : Option Addr) (c : Nat), m ≤ (nm k).size ∧ i = .int .i64 m ∧ s = .slice A ((endsV k).length + m) c ∧ wr.ownsRow w.heap.size 9 1 (.slice A ((endsV k).length + m) c) ((endsV k).length + m) (endsV k ++ sufs k m) ∧
          Slab wr gn cn 9 ∧ (Value.slice A ((endsV k).length + m) c).ownBlock ≠ some gn ∧ Below w.heap.size w wr) (fun _ i _ => (nm k).size - (intOf i).toNat)
      case atStart => exact ⟨0, A, c, by omega, rfl, rfl, by simpa [sufs] using hown, hsl, HNE.out, HB.out⟩
      case round =>
        clear HNE HB hsl hown c1 f1
        obtain ⟨m, A, c, hm, rfl, rfl, hown, hsl, hne, hB⟩ := hrel
        have HB := Lib.hid hB; clear hB
        have HNE := Lib.hid hne; clear hne
        by_cases hlt2 : m < (nm k).size
        · have hsz := HB.out.size
          go_wp2_with (at_builtin; go_must (refine wpList_append_elem_at _ rfl (.tmp 17) (.tmp 22) 64 rfl (w.heap.size) 9 i0 _ _ _ Try.underlying64 HI.out HZ0.out HZ1.out HZ2.out rfl (by decide) _ _ _ _ ?q1 hown _ _ ?q2 (by first | rfl | simp) ?q3 ?q4 (by unfold maxLen; omega) (by omega) (by first | omega | (simp; omega)) ?_); (case q1 => rfl); (case q2 => first | rfl | exact slice_at (by simp)); (case q3 => rfl); (case q4 => simp [Value.oneCell']); intro A4 q4 w4 hown4 hbl4 has4)
          have HB4 := HB.out.trans hbl4
          obtain ⟨hsl4, hne4⟩ := has4 _ _ _ hsl HNE.out
          rw [List.append_assoc, ← sufs_succ] at hown4
          clear hbl4 has4 hown HNE hsl
          go_wp2
          go_roundw
          case rel =>
            refine ⟨_, _, _, ⟨m + 1, by omega, ?_, A4, q4, rfl, hown4, hsl4, hne4, HB4⟩, rfl, rfl, rfl⟩
            go_num
          case measure => simp [intOf]; omega
        · obtain rfl : m = (nm k).size := by omega
          have e1 : (endsV k).length + (nm k).size = (endsV (k + 1)).length := by rw [endsV_succ, List.length_append, sufs_len]
          rw [← endsV_succ] at hown
          have E1 := Lib.hid e1; clear e1
          go_wp2
          go_roundw
          case rel =>
            have e1 := E1.out
            have hne := HNE.out
            rw [e1] at hown hne ⊢
            exact ⟨k + 1, A, c, by omega, by go_num, rfl, hown, hsl, hne, HB.out⟩
          case measure => simp [intOf]; omega
    · obtain rfl : k = 12 := by omega
      go_wp2
      go_ret
      rw [endsV_all, List.length_map] at hown
      rw [endsV_all, List.length_map]
      exact ⟨A, c, rfl, hown, HB.out⟩

/-- Is it a bracket that ends there? -/
def endsB (s : ByteArray) (a : Int) (c : ByteArray) : Bool := (readB (s ++ c) a).err == 0 && (readB (s ++ c) a).stop == (s.size : Int) + (c.size : Int)
/-- What lacks. -/
def lackB (s : ByteArray) (a : Int) : ByteArray := if (readB s a).err == 2 then (endsL.find? (endsB s a)).getD ⟨#[]⟩ else ⟨#[]⟩
theorem ends_size : (endsL.all fun c => decide (0 < c.size) && decide (c.size ≤ 9)) = true := by decide +kernel
theorem ends_bd {c : ByteArray} (h : c ∈ endsL) : 0 < c.size ∧ c.size ≤ 9 := by
  have := List.all_eq_true.1 ends_size c h
  simpa using this
theorem lackB_none {s : ByteArray} {a : Int} (h : (readB s a).err ≠ 2) : lackB s a = ⟨#[]⟩ := by unfold lackB; rw [if_neg (by simpa using h)]
theorem lackB_some {s : ByteArray} {a : Int} (h : (readB s a).err = 2) : 0 < (lackB s a).size ∧ (lackB s a).size ≤ 9 ∧ (readB (s ++ lackB s a) a).err = 0 ∧ (readB (s ++ lackB s a) a).stop = (s.size : Int) + ((lackB s a).size : Int) := by
  obtain ⟨c, hc, h1, h2⟩ := readB_lack s a h
  have hb : endsB s a c = true := by unfold endsB; rw [h1, h2]; simp
  have hf : (endsL.find? (endsB s a)).isSome = true := List.find?_isSome.2 ⟨c, hc, hb⟩
  obtain ⟨d, hd⟩ := Option.isSome_iff_exists.1 hf
  have e : lackB s a = d := by unfold lackB; rw [if_pos (by simpa using h), hd]; rfl
  have hp := List.find?_some hd
  have hm := List.mem_of_find?_eq_some hd
  rw [e]
  unfold endsB at hp
  simp only [Bool.and_eq_true, beq_iff_eq] at hp
  exact ⟨(ends_bd hm).1, (ends_bd hm).2, hp.1, hp.2⟩
theorem find_at {s : ByteArray} {a : Int} {k : Nat} (hk : k < endsL.length) (h2 : (readB s a).err = 2) (hno : ∀ j, (h : j < k) → endsB s a (endsL[j]'(by omega)) = false) (hy : endsB s a endsL[k] = true) : lackB s a = endsL[k] := by
  unfold lackB
  rw [if_pos (by simpa using h2)]
  have : endsL.find? (endsB s a) = some endsL[k] := by
    rw [List.find?_eq_some_iff_getElem]
    exact ⟨hy, k, hk, rfl, fun j hj => by rw [hno j hj]; rfl⟩
  rw [this]; rfl
theorem find_no {s : ByteArray} {a : Int} (h2 : (readB s a).err = 2) (hno : ∀ j, (h : j < endsL.length) → endsB s a endsL[j] = false) : False := by
  obtain ⟨c, hc, h1, h3⟩ := readB_lack s a h2
  obtain ⟨j, hj, rfl⟩ := List.getElem_of_mem hc
  have hb : endsB s a endsL[j] = true := by unfold endsB; rw [h1, h3]; simp
  rw [hno j hj] at hb; cases hb
theorem ends_len : endsL.length ≤ 76 := by
  have h := endsV_len 12
  rw [endsV_all, List.length_map] at h
  exact h
set_option maxRecDepth 100000 in
set_option maxHeartbeats 2000000 in
theorem black_any (s : ByteArray) (a : Int) (hs : s.size ≤ 4611686018427380000) (w : World) :
    Calls Try.prog 70 #[.string s, .int .i64 a] w fun e w' => e = .returned (.string (lackB s a)) ∧ Below w.heap.size w w' := by
  obtain ⟨r, hr⟩ : ∃ r, readB s a = r := ⟨_, rfl⟩
  have C1 := bread_any s a (by omega)
  rw [hr] at C1
  obtain ⟨f, to, er, k⟩ := r
  have HR := Lib.hid hr; clear hr
  go_enter Try.func70, Try.ntmps70
  go_wp2_with fail
  refine (C1 _).mono ?_
  rintro e1 w1 ⟨rfl, hb1⟩
  have HB1' := hb1.alloc hb1.size (.cells (cells4 f) 49)
  have HB1 := Lib.hid HB1'
  clear hb1 HB1'
  by_cases h2 : er = 2
  · have e2 : (er != 2) = false := by simpa using h2
    have H2 : Hid ((readB s a).err = 2) := Lib.hid (by rw [HR.out]; exact h2)
    clear h2 HR
    go_wp2_with fail
    refine (endings_any _).mono ?_
    rintro e3 w3 ⟨A3, c3, rfl, hn, hb3⟩
    have hlen := ends_len
    have hpos : 0 < endsL.length := by unfold endsL; simp
    obtain ⟨gn, cn, rfl, hgn, hcn, hsn, hzn, htn⟩ := row_at hn hpos
    have hcel : ∀ j, (h : j < endsL.length) → cn[j]? = some (.string endsL[j]) := by
      intro j hj
      have e : cn.toList[j]? = (endsL.map Value.string)[j]? := by rw [← htn, List.getElem?_take_of_lt (by omega)]
      rw [← Array.getElem?_toList, e, List.getElem?_map, List.getElem?_eq_getElem hj]; rfl
    have HC := Lib.hid hcel
    have HB3 := Lib.hid (below_then HB1.out hb3)
    obtain ⟨N, hN⟩ : ∃ N, endsL.length = N := ⟨_, rfl⟩
    rw [hN] at hlen ⊢
    have HN0 := Lib.hid hN
    clear hcel hn hb3 HB1 hgn hcn hzn htn hpos hN
    go_wp2
    go_loopw [27] (fun x wr => ∃ k : Nat, k ≤ N ∧ x = .int .i64 k ∧ (∀ j, j < k → (h : j < endsL.length) → endsB s a endsL[j] = false) ∧ Slab wr gn cn 9 ∧ Below w.heap.size w wr) (fun x _ => N - (intOf x).toNat)
    case atStart => exact ⟨0, by omega, rfl, fun j hj => by omega, hsn, HB3.out⟩
    case round =>
      clear hsn HB3
      obtain ⟨k, hk, rfl, hno, o1, hB⟩ := hrel
      have HN := Lib.hid hno; clear hno
      have HB := Lib.hid hB; clear hB
      by_cases hlt : k < N
      · have hltE : k < endsL.length := by rw [HN0.out]; exact hlt
        obtain ⟨c, hc⟩ : ∃ c, endsL[k] = c := ⟨_, rfl⟩
        have hcell : wr.cell? ⟨gn, k, none⟩ = some (.string c) := (o1.cell k).trans (by rw [HC.out k hltE, hc])
        have hbd := ends_bd (List.getElem_mem hltE)
        rw [hc] at hbd
        obtain ⟨hz0, hz2⟩ := hbd
        have C2 := bread_any (s ++ c) a (by rw [ByteArray.size_append']; omega)
        have hE : endsB s a endsL[k] = ((readB (s ++ c) a).err == 0 && (readB (s ++ c) a).stop == (s.size : Int) + (c.size : Int)) := by rw [hc]; rfl
        have HCk := Lib.hid hc; clear hc
        generalize readB (s ++ c) a = q at *
        obtain ⟨qf, qt, qe, qk⟩ := q
        simp only at hE
        have HE := Lib.hid hE; clear hE
        go_wp2_with fail
        refine (C2 _).mono ?_
        rintro e2 w2 ⟨rfl, hb2⟩
        have o2 := (o1.call hb2).alloc (.cells (cells4 qf) 49)
        have HB2' := below_then HB.out hb2
        have HB2 := Lib.hid (HB2'.alloc HB2'.size (.cells (cells4 qf) 49))
        clear hb2 HB2' hcell o1 C2
        cases h0 : (qe == 0) with
        | false =>
          have HNo : Hid (∀ h : k < endsL.length, endsB s a endsL[k] = false) := Lib.hid fun _ => by rw [HE.out, h0]; rfl
          go_wp2
          go_roundw
          case rel =>
            refine ⟨k + 1, by omega, by go_num, fun j hj => ?_, o2, HB2.out⟩
            by_cases e : j = k
            · subst e; exact HNo.out
            · exact HN.out j (by omega)
          case measure => simp [intOf]; omega
        | true =>
          cases h1 : (qt == (s.size : Int) + (c.size : Int)) with
          | false =>
            have HNo : Hid (∀ h : k < endsL.length, endsB s a endsL[k] = false) := Lib.hid fun _ => by rw [HE.out, h1]; simp
            go_wp2
            go_roundw
            case rel =>
              refine ⟨k + 1, by omega, by go_num, fun j hj => ?_, o2, HB2.out⟩
              by_cases e : j = k
              · subst e; exact HNo.out
              · exact HN.out j (by omega)
            case measure => simp [intOf]; omega
          | true =>
            have hyes : lackB s a = c := by
              rw [find_at hltE H2.out (fun j hj => HN.out j hj _) (by rw [HE.out, h0, h1]; rfl), HCk.out]
            have HY := Lib.hid hyes; clear hyes
            go_wp2
            refine bodyPost_ret (v := .string c) (by simp [results, Try.results70, go_sem]) rfl ⟨by rw [HY.out], HB2.out⟩
      · exfalso
        exact find_no H2.out fun j hj => HN.out j (by have := HN0.out; omega) hj
  · have e2 : (er != 2) = true := by simpa using h2
    have hL : lackB s a = ⟨#[]⟩ := lackB_none (by rw [HR.out]; exact h2)
    have HL := Lib.hid hL
    clear h2 hL
    go_wp2
    refine bodyPost_ret (v := .string ⟨#[]⟩) (by simp [results, Try.results70, go_sem]) rfl ⟨by rw [HL.out], HB1.out⟩
end Go.Proofs.Ytfcgmgpcbenfpaa
