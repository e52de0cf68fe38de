/- Walks of gimletref05.All, gimletref05.Text, gimletref05.Print. -/
import Derived.Test.YtfcgmgpcbenfpaaGreatProg
import Derived.WalkKit
import Derived.WalkSpells
import Derived.WalkLawsBesides
import Derived.Handy
import Derived.Lib.Hide
import Derived.Test.YtfcgmgpcbenfpaaGreatLexC
import Derived.Test.YtfcgmgpcbenfpaaGreatLexD
import Derived.Test.YtfcgmgpcbenfpaaGreatLexE
import Derived.Test.YtfcgmgpcbenfpaaGreatBrkV
import Derived.Test.YtfcgmgpcbenfpaaGreatMRef
set_option linter.unusedVariables false
set_option linter.unusedSimpArgs false
namespace Go.Proofs.YtfcgmgpcbenfpaaGreat
open Go.RowKit SetP BrkP LexP
theorem bytes_one {f : Nat → Bool} (h : (bytesF f).length = 1) : ∃ b : UInt8, bytesF f = [(b.toNat : Int)] ∧ chB (SetP.nextF f 0) = b := by
  obtain ⟨b, hb, hn, key⟩ := count_one h
  refine ⟨chB (SetP.nextF f 0), ?_, rfl⟩
  have hc : ((chB (SetP.nextF f 0)).toNat : Int) = (b : Int) := by rw [hn]; exact chB_nat (by omega) (by omega)
  rw [hc]
  unfold bytesF upto
  have h1 : (List.range 256).filter f = (List.range 256).filter (fun x => x == b) := List.filter_congr fun x hx => by
    have := key x (by simpa using hx)
    rw [Bool.eq_iff_iff, this]; simp
  have h2 : ∀ b, b < 256 → (List.range 256).filter (fun x => x == b) = [b] := by decide +kernel
  rw [h1, h2 b hb]; rfl
set_option maxRecDepth 100000 in
set_option maxHeartbeats 2000000 in
theorem gtext_any (f : Nat → Bool) (w : World) : Calls Tryz.prog 61 #[setV f] w fun e w' => e = .returned (.string (strB (textW f))) ∧ Below w.heap.size w w' := by
  have C1 := rall_any f
  have o0 : Slab (w.alloc (.cells (cells4 f) 49)) w.heap.size (cells4 f) 49 := Slab.new _ _ _
  have HB0 := Lib.hid ((Below.refl w.heap.size w).alloc (Nat.le_refl _) (.cells (cells4 f) 49))
  by_cases h256 : (bytesF f).length = 256
  · rw [show textW f = [46] by unfold textW; rw [if_pos h256]]
    rw [h256] at C1
    have H := Lib.hid h256; clear h256
    obtain ⟨c0, f0⟩ := o0.facts
    go_enter Tryz.func61, Tryz.ntmps61
    go_wp2_with fail
    refine (C1 _).mono ?_
    rintro e1 w1 ho
    obtain ⟨A, c, rfl, hown, hb1⟩ := ho
    have o1 := o0.call hb1
    have HB1 := Lib.hid (below_then HB0.out hb1)
    clear hb1 o0 HB0 c0 f0
    obtain ⟨c1, f1⟩ := o1.facts
    go_wp2
    go_ret
    exact ⟨rfl, HB1.out⟩
  have t1 : (((bytesF f).length : Int) == 256) = false := by rw [beq_eq_false_iff_ne]; omega
  by_cases h1 : (bytesF f).length = 1
  · obtain ⟨b, hL, hc⟩ := bytes_one h1
    rw [show textW f = byteT b by unfold textW; rw [if_neg h256, if_pos h1, hc]]
    rw [hL] at C1
    clear hc h1 h256 t1 hL
    obtain ⟨T, hT⟩ : ∃ T, (⟨[b].toArray⟩ : ByteArray) = T := ⟨_, rfl⟩
    have hTz : T.size ≤ 1 := by rw [← hT]; simp [ByteArray.size]
    have HT := Lib.hid hT; clear hT
    obtain ⟨S, hS⟩ : ∃ S, (⟨#[92]⟩ : ByteArray) ++ T = S := ⟨_, rfl⟩
    have hSz : S.size ≤ 2 := by
      rw [← hS, ByteArray.size_append]
      show 1 + T.size ≤ 2
      omega
    have HS := Lib.hid hS
    have t1 : ((b.toNat : Int) != 93) = !(b == 93) := bneI b 93
    have t2 : ((b.toNat : Int) != 125) = !(b == 125) := bneI b 125
    have C2 := fourteen_any b
    obtain ⟨c0, f0⟩ := o0.facts
    go_enter Tryz.func61, Tryz.ntmps61
    go_wp2_with fail
    refine (C1 _).mono ?_
    rintro e1 w1 ho
    obtain ⟨A, c, rfl, hown, hb1⟩ := ho
    have o1 := o0.call hb1
    have HB1 := Lib.hid (below_then HB0.out hb1)
    clear hb1 o0 HB0 c0 f0
    obtain ⟨c1, f1⟩ := o1.facts
    simp only [List.length_cons, List.length_nil, Nat.zero_add]
    obtain ⟨g, rfl, _, _, hgc, hcell⟩ := row_cell hown (by simp)
    have hc0 : w1.cell? ⟨g, 0, none⟩ = some (.int .u8 (b.toNat : Int)) := hcell 0 (by simp)
    have HCEL := Lib.hid hc0
    clear hown hcell C1 o1 c1 f1
    cases hE : escB b with
    | false =>
      rw [hE] at C2
      have HBT : Hid (byteT b = [b]) := Lib.hid (by unfold byteT; rw [hE]; simp)
      clear hE t1 t2 hS HS hSz
      go_wp2_with fail
      refine (C2 _).mono ?_
      rintro e2 w2 ⟨rfl, rfl⟩
      clear C2
      go_wp2
      rw [conv_textX _ ⟨_, 0, none⟩ 1 _ [b] T HT.out rfl ?_]
      rotate_left
      · intro j hj
        obtain rfl : j = 0 := by simpa using hj
        exact HCEL.out
      go_wp2
      go_ret
      exact ⟨by rw [HBT.out, ← HT.out]; rfl, HB1.out⟩
    | true =>
    rw [hE] at C2
    cases n1 : (b == 93) with
    | true =>
      rw [n1] at t1
      have HBT : Hid (byteT b = [b]) := Lib.hid (by unfold byteT; rw [n1]; simp)
      clear hE t2 hS HS hSz n1
      go_wp2_with fail
      refine (C2 _).mono ?_
      rintro e2 w2 ⟨rfl, rfl⟩
      clear C2
      go_wp2
      rw [conv_textX _ ⟨_, 0, none⟩ 1 _ [b] T HT.out rfl ?_]
      rotate_left
      · intro j hj
        obtain rfl : j = 0 := by simpa using hj
        exact HCEL.out
      go_wp2
      go_ret
      exact ⟨by rw [HBT.out, ← HT.out]; rfl, HB1.out⟩
    | false =>
    rw [n1] at t1
    cases n2 : (b == 125) with
    | true =>
      rw [n2] at t2
      have HBT : Hid (byteT b = [b]) := Lib.hid (by unfold byteT; rw [n2]; simp)
      clear hE hS HS hSz n1 n2
      go_wp2_with fail
      refine (C2 _).mono ?_
      rintro e2 w2 ⟨rfl, rfl⟩
      clear C2
      go_wp2
      rw [conv_textX _ ⟨_, 0, none⟩ 1 _ [b] T HT.out rfl ?_]
      rotate_left
      · intro j hj
        obtain rfl : j = 0 := by simpa using hj
        exact HCEL.out
      go_wp2
      go_ret
      exact ⟨by rw [HBT.out, ← HT.out]; rfl, HB1.out⟩
    | false =>
      rw [n2] at t2
      have HBT : Hid (byteT b = [92, b]) := Lib.hid (by unfold byteT; rw [hE, n1, n2]; rfl)
      clear hE n1 n2
      go_wp2_with fail
      refine (C2 _).mono ?_
      rintro e2 w2 ⟨rfl, rfl⟩
      clear C2
      go_wp2
      rw [conv_textX _ ⟨_, 0, none⟩ 1 _ [b] T HT.out rfl ?_]
      rotate_left
      · intro j hj
        obtain rfl : j = 0 := by simpa using hj
        exact HCEL.out
      go_wp2
      go_ret
      exact ⟨by rw [HBT.out, ← HS.out, ← HT.out]; exact ret_v (congrArg Value.string (strB_app [92] [b])), HB1.out⟩
  · rw [show textW f = textB f by unfold textW; rw [if_neg h256, if_neg h1]]
    have t2 : (((bytesF f).length : Int) != 1) = true := by rw [bne_iff_ne]; omega
    generalize (bytesF f).length = N at *
    clear h1 h256
    obtain ⟨c0, f0⟩ := o0.facts
    go_enter Tryz.func61, Tryz.ntmps61
    go_wp2_with fail
    refine (C1 _).mono ?_
    rintro e1 w1 ho
    obtain ⟨A, c, rfl, hown, hb1⟩ := ho
    have o1 := o0.call hb1
    have HB1 := Lib.hid (below_then HB0.out hb1)
    clear hb1 o0 HB0 c0 f0
    obtain ⟨c1, f1⟩ := o1.facts
    clear C1
    go_wp2_with fail
    refine (brtext_any f _).mono ?_
    rintro e3 w3 ⟨rfl, hb3⟩
    have HB3 := Lib.hid (below_then HB1.out hb3)
    clear hb3 HB1
    go_wp2
    go_ret
    exact ⟨rfl, HB3.out⟩
end Go.Proofs.YtfcgmgpcbenfpaaGreat
