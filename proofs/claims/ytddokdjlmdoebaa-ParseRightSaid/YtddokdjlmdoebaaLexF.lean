/- Walks of gimletref05.All, gimletref05.Text, gimletref05.Print. -/
import Derived.Test.YtddokdjlmdoebaaProg
import Derived.WalkKit
import Derived.WalkSpells
import Derived.WalkLawsBesides
import Derived.Handy
import Derived.Lib.Hide
import Derived.Test.YtddokdjlmdoebaaLexC
import Derived.Test.YtddokdjlmdoebaaLexD
import Derived.Test.YtddokdjlmdoebaaLexE
import Derived.Test.YtddokdjlmdoebaaBrkV
import Derived.Test.YtddokdjlmdoebaaMRef
set_option linter.unusedVariables false
set_option linter.unusedSimpArgs false
namespace Go.Proofs.Ytddokdjlmdoebaa
open Go.RowKit SetP BrkP LexP
set_option maxRecDepth 100000 in
set_option maxHeartbeats 2000000 in
theorem gall_any (s : ByteArray) (hs : s.size ≤ 1000000000) (w : World) : Calls Try.prog 39 #[.string s] w (RetAll (allGo s 0 []) w) := by
    obtain ⟨i0, hi, hz0, hz1, hz2⟩ := info_parts info_word
    have HI := Lib.hid hi; clear hi
    have HZ0 := Lib.hid hz0; clear hz0
    have HZ1 := Lib.hid hz1; clear hz1
    have HZ2 := Lib.hid hz2; clear hz2
    go_enter Try.func39, Try.ntmps39
    go_wp2
    go_loopw [5, 6] (fun o a wr => ∃ (k : Nat) (L : List Wd) (A : Option Addr) (c : Nat), k ≤ s.size ∧ a = .int .i64 k ∧ o = .slice A L.length c ∧ L.length ≤ k ∧ wr.ownsRow w.heap.size 57 9 (.slice A L.length c) L.length (flatW L) ∧ allGo s 0 [] = allGo s k L ∧ Below w.heap.size w wr) (fun _ a _ => s.size - (intOf a).toNat)
    case atStart => exact ⟨0, [], none, 0, by omega, rfl, rfl, by simp, World.ownsRow_nil w _ _ _, rfl, Below.refl _ _⟩
    case round =>
      obtain ⟨k, L, A, c, hk, rfl, rfl, hl, hown, hgo, hB⟩ := hrel
      have HB := Lib.hid hB; clear hB
      have HGO := Lib.hid hgo; clear hgo
      by_cases hlt : k < s.size
      · rcases word_or hlt with ⟨x, e, hw, he, g1, g2⟩ | ⟨x, er, p, hw, he⟩
        · have C := rnext5_any s k (by omega)
          rw [hw] at C
          have HGO' : Hid (allGo s 0 [] = allGo s e (L ++ [x])) := Lib.hid (by rw [HGO.out, allGo_word hlt L (by rw [hw]) (by rw [hw]; exact he), hw])
          obtain ⟨kd, at_, stop, f, n, m⟩ := x
          simp only at he
          subst he
          clear hw HGO
          generalize hM : L.length = M at *
          have HM := Lib.hid hM; clear hM
          go_wp2_with fail
          refine (C _).mono ?_
          rintro e1 w1 ⟨rfl, hb1⟩
          clear C
          have hown1 := row_call hown hb1
          have HB1 := Lib.hid (below_then HB.out hb1)
          clear hb1 hown HB
          have o0 : Slab (w1.alloc (.cells (wdCells ⟨kd, at_, e, f, n, m⟩) 57)) w1.heap.size (wdCells ⟨kd, at_, e, f, n, m⟩) 57 := Slab.new _ _ _
          have HNE : Hid ((Value.slice A M c).ownBlock ≠ some w1.heap.size) := Lib.hid (fun e => by have := (hown1.lt _ e).2; omega)
          have hown2 := hown1.alloc (.cells (wdCells ⟨kd, at_, e, f, n, m⟩) 57)
          have HB2 := Lib.hid (HB1.out.alloc HB1.out.size (.cells (wdCells ⟨kd, at_, e, f, n, m⟩) 57))
          have hsz : w.heap.size ≤ (w1.alloc (.cells (wdCells ⟨kd, at_, e, f, n, m⟩) 57)).heap.size := HB2.out.size
          clear hown1 HB1
          unfold wdCells at o0 hown2 hsz
          simp only at o0 hown2 hsz
          go_wp2_with ((at_builtin; go_must (refine wpList_append_elem_at _ rfl (.tmp 25) (.tmp 27) 63 rfl (w.heap.size) 57 i0 _ _ _ Try.underlying63 HI.out HZ0.out HZ1.out HZ2.out rfl (by decide) _ _ _ _ ?q1 hown2 _ _ ?q2 (by first | rfl | simp) ?q3 ?q4 (by unfold maxLen; omega) (by omega) (by first | omega | (simp; omega)) ?_); (case q1 => rfl); (case q2 => first | rfl | exact slice_at (by simp)); (case q3 => rfl); (case q4 => simp [Value.oneCell']); intro A3 q3 w3 hown3 hbl3 has3); have HB3 := Lib.hid (HB2.out.trans hbl3); obtain ⟨o3, hx3⟩ := has3 _ _ _ o0 HNE.out; obtain ⟨c3, f3⟩ := o3.facts; clear hx3 has3 hbl3 o0 hown2 HB2 HNE)
          go_roundw
          case rel =>
            refine ⟨e, L ++ [⟨kd, at_, e, f, n, m⟩], A3, q3, g2, by go_num, ?_, ?_, ?_, HGO'.out, HB3.out⟩
            · rw [List.length_append, HM.out]; rfl
            · rw [List.length_append, HM.out]; simp; omega
            · rw [List.length_append, HM.out, flatW_append, flatW_one]; exact hown3
          case measure => simp [intOf]; omega
        · have C := rnext5_any s k (by omega)
          rw [hw] at C
          have hr : allGo s 0 [] = ([], er, p) := by rw [HGO.out, allGo_bad hlt L (by rw [hw]; exact he), hw]
          rw [hr]
          have hn : (er != 0) = true := bne_iff_ne.2 he
          have HE := Lib.hid he
          clear hw HGO he hr hown
          obtain ⟨kd, at_, stop, f, n, m⟩ := x
          go_wp2_with fail
          refine (C _).mono ?_
          rintro e1 w1 ⟨rfl, hb1⟩
          have hb2 := below_then HB.out hb1
          have HB2 := Lib.hid (hb2.alloc hb2.size (.cells (wdCells ⟨kd, at_, stop, f, n, m⟩) 57))
          clear hb1 C hb2 HB
          go_wp2
          exact bodyPost_ret (v := .tuple #[.slice none 0 0, .int .i64 er, .int .i64 p]) (by simp [results, Try.results39, go_sem]) rfl ⟨none, 0, rfl, World.ownsRow_nil _ _ _ _, HB2.out⟩
      · have hr : allGo s 0 [] = (L, 0, 0) := by rw [HGO.out, allGo_end (by omega)]
        have HR := Lib.hid hr
        clear hr HGO
        go_wp2
        exact bodyPost_ret (v := .tuple #[.slice A L.length c, .int .i64 0, .int .i64 0]) (by simp [results, Try.results39, go_sem]) rfl ⟨A, c, by rw [HR.out], by rw [HR.out]; exact hown, HB.out⟩
theorem bytes_one {f : Nat → Bool} (h : (bytesF f).length = 1) : ∃ b : UInt8, bytesF f = [(b.toNat : Int)] ∧ chB (SetP.nextF f 0) = b := by
  obtain ⟨b, hb, hn, key⟩ := count_one h
  refine ⟨chB (SetP.nextF f 0), ?_, rfl⟩
  have hc : ((chB (SetP.nextF f 0)).toNat : Int) = (b : Int) := by rw [hn]; exact chB_nat (by omega) (by omega)
  rw [hc]
  unfold bytesF upto
  have h1 : (List.range 256).filter f = (List.range 256).filter (fun x => x == b) := List.filter_congr fun x hx => by
    have := key x (by simpa using hx)
    rw [Bool.eq_iff_iff, this]; simp
  have h2 : ∀ b, b < 256 → (List.range 256).filter (fun x => x == b) = [b] := by decide +kernel
  rw [h1, h2 b hb]; rfl
set_option maxRecDepth 100000 in
set_option maxHeartbeats 2000000 in
theorem gtext_any (f : Nat → Bool) (w : World) : Calls Try.prog 42 #[setV f] w fun e w' => e = .returned (.string (strB (textW f))) ∧ Below w.heap.size w w' := by
  have C1 := rall_any f
  have o0 : Slab (w.alloc (.cells (cells4 f) 41)) w.heap.size (cells4 f) 41 := Slab.new _ _ _
  have HB0 := Lib.hid ((Below.refl w.heap.size w).alloc (Nat.le_refl _) (.cells (cells4 f) 41))
  by_cases h256 : (bytesF f).length = 256
  · rw [show textW f = [46] by unfold textW; rw [if_pos h256]]
    rw [h256] at C1
    have H := Lib.hid h256; clear h256
    obtain ⟨c0, f0⟩ := o0.facts
    go_enter Try.func42, Try.ntmps42
    go_wp2_with fail
    refine (C1 _).mono ?_
    rintro e1 w1 ho
    obtain ⟨A, c, rfl, hown, hb1⟩ := ho
    have o1 := o0.call hb1
    have HB1 := Lib.hid (below_then HB0.out hb1)
    clear hb1 o0 HB0 c0 f0
    obtain ⟨c1, f1⟩ := o1.facts
    go_wp2
    go_ret
    exact ⟨rfl, HB1.out⟩
  have t1 : (((bytesF f).length : Int) == 256) = false := by rw [beq_eq_false_iff_ne]; omega
  by_cases h1 : (bytesF f).length = 1
  · obtain ⟨b, hL, hc⟩ := bytes_one h1
    rw [show textW f = byteT b by unfold textW; rw [if_neg h256, if_pos h1, hc]]
    rw [hL] at C1
    clear hc h1 h256 t1 hL
    obtain ⟨T, hT⟩ : ∃ T, (⟨[b].toArray⟩ : ByteArray) = T := ⟨_, rfl⟩
    have hTz : T.size ≤ 1 := by rw [← hT]; simp [ByteArray.size]
    have HT := Lib.hid hT; clear hT
    obtain ⟨S, hS⟩ : ∃ S, (⟨#[92]⟩ : ByteArray) ++ T = S := ⟨_, rfl⟩
    have hSz : S.size ≤ 2 := by
      rw [← hS, ByteArray.size_append]
      show 1 + T.size ≤ 2
      omega
    have HS := Lib.hid hS
    have t1 : ((b.toNat : Int) != 93) = !(b == 93) := bneI b 93
    have t2 : ((b.toNat : Int) != 125) = !(b == 125) := bneI b 125
    have C2 := fourteen_any b
    obtain ⟨c0, f0⟩ := o0.facts
    go_enter Try.func42, Try.ntmps42
    go_wp2_with fail
    refine (C1 _).mono ?_
    rintro e1 w1 ho
    obtain ⟨A, c, rfl, hown, hb1⟩ := ho
    have o1 := o0.call hb1
    have HB1 := Lib.hid (below_then HB0.out hb1)
    clear hb1 o0 HB0 c0 f0
    obtain ⟨c1, f1⟩ := o1.facts
    simp only [List.length_cons, List.length_nil, Nat.zero_add]
    obtain ⟨g, rfl, _, _, hgc, hcell⟩ := row_cell hown (by simp)
    have hc0 : w1.cell? ⟨g, 0, none⟩ = some (.int .u8 (b.toNat : Int)) := hcell 0 (by simp)
    have HCEL := Lib.hid hc0
    clear hown hcell C1 o1 c1 f1
    cases hE : escB b with
    | false =>
      rw [hE] at C2
      have HBT : Hid (byteT b = [b]) := Lib.hid (by unfold byteT; rw [hE]; simp)
      clear hE t1 t2 hS HS hSz
      go_wp2_with fail
      refine (C2 _).mono ?_
      rintro e2 w2 ⟨rfl, rfl⟩
      clear C2
      go_wp2
      rw [conv_textX _ ⟨_, 0, none⟩ 1 _ [b] T HT.out rfl ?_]
      rotate_left
      · intro j hj
        obtain rfl : j = 0 := by simpa using hj
        exact HCEL.out
      go_wp2
      go_ret
      exact ⟨by rw [HBT.out, ← HT.out]; rfl, HB1.out⟩
    | true =>
    rw [hE] at C2
    cases n1 : (b == 93) with
    | true =>
      rw [n1] at t1
      have HBT : Hid (byteT b = [b]) := Lib.hid (by unfold byteT; rw [n1]; simp)
      clear hE t2 hS HS hSz n1
      go_wp2_with fail
      refine (C2 _).mono ?_
      rintro e2 w2 ⟨rfl, rfl⟩
      clear C2
      go_wp2
      rw [conv_textX _ ⟨_, 0, none⟩ 1 _ [b] T HT.out rfl ?_]
      rotate_left
      · intro j hj
        obtain rfl : j = 0 := by simpa using hj
        exact HCEL.out
      go_wp2
      go_ret
      exact ⟨by rw [HBT.out, ← HT.out]; rfl, HB1.out⟩
    | false =>
    rw [n1] at t1
    cases n2 : (b == 125) with
    | true =>
      rw [n2] at t2
      have HBT : Hid (byteT b = [b]) := Lib.hid (by unfold byteT; rw [n2]; simp)
      clear hE hS HS hSz n1 n2
      go_wp2_with fail
      refine (C2 _).mono ?_
      rintro e2 w2 ⟨rfl, rfl⟩
      clear C2
      go_wp2
      rw [conv_textX _ ⟨_, 0, none⟩ 1 _ [b] T HT.out rfl ?_]
      rotate_left
      · intro j hj
        obtain rfl : j = 0 := by simpa using hj
        exact HCEL.out
      go_wp2
      go_ret
      exact ⟨by rw [HBT.out, ← HT.out]; rfl, HB1.out⟩
    | false =>
      rw [n2] at t2
      have HBT : Hid (byteT b = [92, b]) := Lib.hid (by unfold byteT; rw [hE, n1, n2]; rfl)
      clear hE n1 n2
      go_wp2_with fail
      refine (C2 _).mono ?_
      rintro e2 w2 ⟨rfl, rfl⟩
      clear C2
      go_wp2
      rw [conv_textX _ ⟨_, 0, none⟩ 1 _ [b] T HT.out rfl ?_]
      rotate_left
      · intro j hj
        obtain rfl : j = 0 := by simpa using hj
        exact HCEL.out
      go_wp2
      go_ret
      exact ⟨by rw [HBT.out, ← HS.out, ← HT.out]; exact ret_v (congrArg Value.string (strB_app [92] [b])), HB1.out⟩
  · rw [show textW f = textB f by unfold textW; rw [if_neg h256, if_neg h1]]
    have t2 : (((bytesF f).length : Int) != 1) = true := by rw [bne_iff_ne]; omega
    generalize (bytesF f).length = N at *
    clear h1 h256
    obtain ⟨c0, f0⟩ := o0.facts
    go_enter Try.func42, Try.ntmps42
    go_wp2_with fail
    refine (C1 _).mono ?_
    rintro e1 w1 ho
    obtain ⟨A, c, rfl, hown, hb1⟩ := ho
    have o1 := o0.call hb1
    have HB1 := Lib.hid (below_then HB0.out hb1)
    clear hb1 o0 HB0 c0 f0
    obtain ⟨c1, f1⟩ := o1.facts
    clear C1
    go_wp2_with fail
    refine (brtext_any f _).mono ?_
    rintro e3 w3 ⟨rfl, hb3⟩
    have HB3 := Lib.hid (below_then HB1.out hb3)
    clear hb3 HB1
    go_wp2
    go_ret
    exact ⟨rfl, HB3.out⟩
set_option maxRecDepth 100000 in
set_option maxHeartbeats 2000000 in
theorem gprint_any (x : Wd) (w : World) : Calls Try.prog 44 #[wdV x] w fun e w' => e = .returned (.string (strB (printW x))) ∧ Below w.heap.size w w' := by
  have o0 : Slab (w.alloc (.cells (wdCells x) 57)) w.heap.size (wdCells x) 57 := Slab.new _ _ _
  have HB0 := Lib.hid ((Below.refl w.heap.size w).alloc (Nat.le_refl _) (.cells (wdCells x) 57))
  have hp : printW x = if x.kind == 1 then textW x.set else if x.kind == 2 then [40] else if x.kind == 3 then [41] else if x.kind == 4 then [124] else if x.kind == 5 then textF x.n x.m else [] := rfl
  rw [hp]; clear hp
  obtain ⟨kd, at_, stop, f, n, m⟩ := x
  simp only
  cases k1 : (kd == 1) with
  | true =>
    rw [if_pos rfl]
    obtain ⟨c0, f0⟩ := o0.facts
    go_enter Try.func44, Try.ntmps44
    go_wp2_with fail
    refine (gtext_any f _).mono ?_
    rintro e1 w1 ⟨rfl, hb1⟩
    have HB1 := Lib.hid (below_then HB0.out hb1)
    clear hb1 HB0 o0 c0 f0
    go_wp2
    go_ret
    exact ⟨rfl, HB1.out⟩
  | false =>
  rw [if_neg (by simp)]
  cases k2 : (kd == 2) with
  | true =>
    rw [if_pos rfl]
    obtain ⟨c0, f0⟩ := o0.facts
    go_enter Try.func44, Try.ntmps44
    go_wp2
    go_ret
    exact ⟨rfl, HB0.out⟩
  | false =>
  rw [if_neg (by simp)]
  cases k3 : (kd == 3) with
  | true =>
    rw [if_pos rfl]
    obtain ⟨c0, f0⟩ := o0.facts
    go_enter Try.func44, Try.ntmps44
    go_wp2
    go_ret
    exact ⟨rfl, HB0.out⟩
  | false =>
  rw [if_neg (by simp)]
  cases k4 : (kd == 4) with
  | true =>
    rw [if_pos rfl]
    obtain ⟨c0, f0⟩ := o0.facts
    go_enter Try.func44, Try.ntmps44
    go_wp2
    go_ret
    exact ⟨rfl, HB0.out⟩
  | false =>
  rw [if_neg (by simp)]
  cases k5 : (kd == 5) with
  | true =>
    rw [if_pos rfl]
    obtain ⟨c0, f0⟩ := o0.facts
    go_enter Try.func44, Try.ntmps44
    go_wp2_with fail
    refine (rtext_any n m _).mono ?_
    rintro e1 w1 ⟨rfl, hb1⟩
    have HB1 := Lib.hid (below_then HB0.out hb1)
    clear hb1 HB0 o0 c0 f0
    go_wp2
    go_ret
    exact ⟨rfl, HB1.out⟩
  | false =>
    rw [if_neg (by simp)]
    obtain ⟨c0, f0⟩ := o0.facts
    go_enter Try.func44, Try.ntmps44
    go_wp2
    go_ret
    exact ⟨rfl, HB0.out⟩
end Go.Proofs.Ytddokdjlmdoebaa
