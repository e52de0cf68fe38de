/- Walks of the texts of words: lex.Text, lex.Print. -/
import Derived.Test.YtfcgmgpcbenfpaaGreatProg
import Derived.WalkKit
import Derived.WalkSpells
import Derived.WalkLawsBesides
import Derived.Handy
import Derived.Lib.Hide
import Derived.Test.YtfcgmgpcbenfpaaGreatLexB
import Derived.Test.YtfcgmgpcbenfpaaGreatLexR
import Derived.Test.YtfcgmgpcbenfpaaGreatBrkU
import Derived.Test.YtfcgmgpcbenfpaaGreatMBset
import Derived.Test.YtfcgmgpcbenfpaaGreatMBrb
import Derived.Deep.QuietTactic
set_option linter.unusedVariables false
set_option linter.unusedSimpArgs false
namespace Go.Proofs.YtfcgmgpcbenfpaaGreat
open Go.RowKit SetP BrkP LexP
set_option maxRecDepth 100000 in
theorem conv_textX (w : World) (a : Addr) (k cap : Nat) (l : List UInt8) (T : ByteArray) (hT : (⟨l.toArray⟩ : ByteArray) = T) (hk : l.length = k) (hc : ∀ j (hj : j < l.length), w.cell? (a.add j) = some (.int .u8 (l[j].toNat : Int))) :
    (convert 87 9 (.slice (some a) k cap)).run Tryz.prog w = .ok (.string T) w := by
  rw [conv_textU w a k cap l hk hc, hT]
theorem bneI (b k : UInt8) : ((b.toNat : Int) != (k.toNat : Int)) = !(b == k) := by unfold bne; rw [beqI]
set_option maxRecDepth 100000 in
set_option maxHeartbeats 2000000 in
theorem lbyte_any (b : UInt8) (w : World) :
    Calls Tryz.prog 104 #[.int .u8 (b.toNat : Int)] w fun e w' => e = .returned (.string (strB (byteT b))) ∧ Below w.heap.size w w' := by
  obtain ⟨T, hT⟩ : ∃ T, (⟨[b].toArray⟩ : ByteArray) = T := ⟨_, rfl⟩
  have hTz : T.size ≤ 1 := by rw [← hT]; simp [ByteArray.size]
  have HT := Lib.hid hT; clear hT
  obtain ⟨S, hS⟩ : ∃ S, (⟨#[92]⟩ : ByteArray) ++ T = S := ⟨_, rfl⟩
  have hSz : S.size ≤ 2 := by
    rw [← hS, ByteArray.size_append]
    show 1 + T.size ≤ 2
    omega
  have HS := Lib.hid hS
  have t1 : ((b.toNat : Int) != 93) = !(b == 93) := bneI b 93
  have t2 : ((b.toNat : Int) != 125) = !(b == 125) := bneI b 125
  cases n1 : (b == 93) with
  | true =>
    rw [n1] at t1
    clear t2 hS HS hSz
    have N1 := Lib.hid n1; clear n1
    rw [show byteT b = [b] by unfold byteT; rw [N1.out]; simp]
    go_enter Tryz.func104, Tryz.ntmps104
    go_wp2
    rw [conv_textX _ ⟨_, 0, none⟩ 1 _ [b] T HT.out rfl ?_]
    rotate_left
    · intro j hj
      obtain rfl : j = 0 := by simpa using hj
      exact (Slab.cell (Slab.newAt _ _ _ (by simp)) 0).trans rfl
    go_wp2
    go_ret
    exact ⟨by rw [← HT.out]; rfl, by (repeat' (first | (with_reducible exact Below.refl _ _) | (with_reducible assumption) | (with_reducible refine Below.alloc ?_ ?_ _) | (with_reducible refine Below.drew ?_) | (with_reducible refine below_set ?_ ?_ _) | (with_reducible refine below_call ?_ ?_ (by assumption)) | (with_reducible exact Below.size (by assumption)) | omega | go_size))⟩
  | false =>
  rw [n1] at t1
  cases n2 : (b == 125) with
  | true =>
    rw [n2] at t2
    clear hS HS hSz
    have N1 := Lib.hid n2; clear n1 n2
    rw [show byteT b = [b] by unfold byteT; rw [N1.out]; simp]
    go_enter Tryz.func104, Tryz.ntmps104
    go_wp2
    rw [conv_textX _ ⟨_, 0, none⟩ 1 _ [b] T HT.out rfl ?_]
    rotate_left
    · intro j hj
      obtain rfl : j = 0 := by simpa using hj
      exact (Slab.cell (Slab.newAt _ _ _ (by simp)) 0).trans rfl
    go_wp2
    go_ret
    exact ⟨by rw [← HT.out]; rfl, by (repeat' (first | (with_reducible exact Below.refl _ _) | (with_reducible assumption) | (with_reducible refine Below.alloc ?_ ?_ _) | (with_reducible refine Below.drew ?_) | (with_reducible refine below_set ?_ ?_ _) | (with_reducible refine below_call ?_ ?_ (by assumption)) | (with_reducible exact Below.size (by assumption)) | omega | go_size))⟩
  | false =>
  rw [n2] at t2
  have C := sidx_any ⟨escL.toArray⟩ b
  have hE : (⟨escL.toArray⟩ : ByteArray).data.toList = escL := rfl
  rw [hE] at C
  have hI := esc_idx b
  obtain ⟨I, hi⟩ : ∃ I, Lib.indexByte escL b = I := ⟨_, rfl⟩
  rw [hi] at hI C
  clear hi
  unfold escL at C
  cases hc : escB b with
  | true =>
    rw [show byteT b = [92, b] by unfold byteT; rw [hc, n1, n2]; rfl]
    rw [hc] at hI
    have hI0 : decide (0 ≤ I) = true := by simpa using hI
    have hI1 : decide (I < 0) = false := by simpa using hI
    clear n1 n2 hc hI
    go_enter Tryz.func104, Tryz.ntmps104
    go_wp2
    rw [conv_textX _ ⟨_, 0, none⟩ 1 _ [b] T HT.out rfl ?_]
    rotate_left
    · intro j hj
      obtain rfl : j = 0 := by simpa using hj
      exact (Slab.cell (Slab.newAt _ _ _ (by simp)) 0).trans rfl
    go_wp2_with fail
    refine (C _).mono ?_
    rintro e3 w3 ⟨rfl, rfl⟩
    clear C
    go_wp2
    go_ret
    exact ⟨by rw [← HS.out, ← HT.out]; exact ret_v (congrArg Value.string (strB_app [92] [b])), by (repeat' (first | (with_reducible exact Below.refl _ _) | (with_reducible assumption) | (with_reducible refine Below.alloc ?_ ?_ _) | (with_reducible refine Below.drew ?_) | (with_reducible refine below_set ?_ ?_ _) | (with_reducible refine below_call ?_ ?_ (by assumption)) | (with_reducible exact Below.size (by assumption)) | omega | go_size))⟩
  | false =>
    rw [show byteT b = [b] by unfold byteT; rw [hc]; simp]
    rw [hc] at hI
    have hI0 : decide (0 ≤ I) = false := by simpa using hI
    have hI1 : decide (I < 0) = true := by simpa using hI
    clear n1 n2 hc hI hS HS hSz
    go_enter Tryz.func104, Tryz.ntmps104
    go_wp2
    rw [conv_textX _ ⟨_, 0, none⟩ 1 _ [b] T HT.out rfl ?_]
    rotate_left
    · intro j hj
      obtain rfl : j = 0 := by simpa using hj
      exact (Slab.cell (Slab.newAt _ _ _ (by simp)) 0).trans rfl
    go_wp2_with fail
    refine (C _).mono ?_
    rintro e3 w3 ⟨rfl, rfl⟩
    clear C
    go_wp2
    go_ret
    exact ⟨by rw [← HT.out]; rfl, by (repeat' (first | (with_reducible exact Below.refl _ _) | (with_reducible assumption) | (with_reducible refine Below.alloc ?_ ?_ _) | (with_reducible refine Below.drew ?_) | (with_reducible refine below_set ?_ ?_ _) | (with_reducible refine below_call ?_ ?_ (by assumption)) | (with_reducible exact Below.size (by assumption)) | omega | go_size))⟩
theorem next_one {f : Nat → Bool} (h : (bytesF f).length = 1) : ∃ b : UInt8, SetP.nextF f 0 = (b.toNat : Int) ∧ chB (SetP.nextF f 0) = b := by
  obtain ⟨b, hb, hn, _⟩ := count_one h
  refine ⟨chB (SetP.nextF f 0), ?_, rfl⟩
  rw [hn]; exact (chB_nat (by omega) (by omega)).symm
set_option maxRecDepth 100000 in
set_option maxHeartbeats 2000000 in
theorem ltext_any (f : Nat → Bool) (w : World) : Calls Tryz.prog 92 #[setV f] w fun e w' => e = .returned (.string (strB (textW f))) ∧ Below w.heap.size w w' := by
  have C1 := count_any f
  have o0 : Slab (w.alloc (.cells (cells4 f) 49)) w.heap.size (cells4 f) 49 := Slab.new _ _ _
  have HB0 := Lib.hid ((Below.refl w.heap.size w).alloc (Nat.le_refl _) (.cells (cells4 f) 49))
  by_cases h256 : (bytesF f).length = 256
  · rw [show textW f = [46] by unfold textW; rw [if_pos h256]]
    rw [h256] at C1
    have H := Lib.hid h256; clear h256
    go_enter Tryz.func92, Tryz.ntmps92
    obtain ⟨c0, f0⟩ := o0.facts
    go_wp2_with fail
    refine (C1 _).mono ?_
    rintro e1 w1 ⟨rfl, hb1⟩
    have o1 := o0.call hb1
    have HB1 := Lib.hid (below_then HB0.out hb1)
    clear hb1 o0 HB0 c0 f0
    obtain ⟨c1, f1⟩ := o1.facts
    go_wp2
    go_ret
    exact ⟨rfl, HB1.out⟩
  have t1 : (((bytesF f).length : Int) == 256) = false := by rw [beq_eq_false_iff_ne]; omega
  by_cases h1 : (bytesF f).length = 1
  · obtain ⟨b, hn, hc⟩ := next_one h1
    rw [show textW f = byteT b by unfold textW; rw [if_neg h256, if_pos h1, hc]]
    rw [h1] at C1 t1
    have C2 := next_any f 0 (by decide) (by decide)
    rw [hn] at C2
    have hb := b.toNat_lt
    clear hn hc h1 h256 t1
    go_enter Tryz.func92, Tryz.ntmps92
    obtain ⟨c0, f0⟩ := o0.facts
    go_wp2_with fail
    refine (C1 _).mono ?_
    rintro e1 w1 ⟨rfl, hb1⟩
    have o1 := o0.call hb1
    have HB1 := Lib.hid (below_then HB0.out hb1)
    clear hb1 o0 HB0 c0 f0
    obtain ⟨c1, f1⟩ := o1.facts
    clear C1
    go_wp2_with fail
    refine (C2 _).mono ?_
    rintro e2 w2 ⟨rfl, hb2⟩
    have HB2 := Lib.hid (below_then HB1.out hb2)
    clear hb2 o1 HB1 c1 f1 C2
    go_wp2_with fail
    refine (lbyte_any b _).mono ?_
    rintro e3 w3 ⟨rfl, hb3⟩
    have HB3 := Lib.hid (below_then HB2.out hb3)
    clear hb3 HB2
    go_wp2
    go_ret
    exact ⟨rfl, HB3.out⟩
  · rw [show textW f = textB f by unfold textW; rw [if_neg h256, if_neg h1]]
    have t2 : (((bytesF f).length : Int) == 1) = false := by rw [beq_eq_false_iff_ne]; omega
    generalize (bytesF f).length = N at *
    clear h1 h256
    go_enter Tryz.func92, Tryz.ntmps92
    obtain ⟨c0, f0⟩ := o0.facts
    go_wp2_with fail
    refine (C1 _).mono ?_
    rintro e1 w1 ⟨rfl, hb1⟩
    have o1 := o0.call hb1
    have HB1 := Lib.hid (below_then HB0.out hb1)
    clear hb1 o0 HB0 c0 f0
    obtain ⟨c1, f1⟩ := o1.facts
    clear C1
    go_wp2_with fail
    refine (btext_any f _).mono ?_
    rintro e3 w3 ⟨rfl, hb3⟩
    have HB3 := Lib.hid (below_then HB1.out hb3)
    clear hb3 HB1
    go_wp2
    go_ret
    exact ⟨rfl, HB3.out⟩
end Go.Proofs.YtfcgmgpcbenfpaaGreat
