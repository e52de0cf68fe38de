/- LexLack, walked. -/
import Derived.Test.YtfcgmgpcbenfpaaProg
import Derived.WalkKit
import Derived.WalkSpells
import Derived.WalkLawsBesides
import Derived.Handy
import Derived.Lib.Hide
import Derived.Test.YtfcgmgpcbenfpaaLaw5
import Derived.Test.YtfcgmgpcbenfpaaLaw5p
import Derived.Test.YtfcgmgpcbenfpaaMBrc
import Derived.Test.YtfcgmgpcbenfpaaBrkS
set_option linter.unusedVariables false
set_option linter.unusedSimpArgs false
namespace Go.Proofs.Ytfcgmgpcbenfpaa
open Go.RowKit SetP BrkP LexP
theorem toList_ne5 {S : ByteArray} (h : 0 < S.size) : S.toList ≠ [] := by
  rw [ByteArray.toList_eq]; intro e
  have h2 : S.data.toList.length = S.size := by simp
  rw [e] at h2
  have h3 : S.size = 0 := h2.symm
  omega
/-- What a call hands back that tells what lacks. -/
def RetL (s : ByteArray) (a : Int) (w : World) (e : Ending) (w' : World) : Prop := ∃ c, e = .returned (.string c) ∧ LackW s a c ∧ Below w.heap.size w w'
set_option maxRecDepth 100000 in
set_option maxHeartbeats 2000000 in
theorem lkcnt_any (s : ByteArray) (a : Nat) (ha : a < s.size) (hs : s.size ≤ 400) (h : (nextW s a).err = 2) (hb : isCnt (bt s a) = true) (h2 : (BraceP.readF s.data.toList a).2.2.2.1 = 2) (w : World) :
    Calls Try.prog 57 #[.agg #[], .string s, .int .i64 (a : Int)] w (RetL s a w) := by
  have C := lack_any s a hs
  have key : ∀ c, LackAns s a c → LackW s a c := by
    intro c hc
    rcases hc with ⟨h3, _⟩ | ⟨_, h3, h4, h5⟩
    · exact absurd h2 h3
    · exact lackW_cnt ha hb h ⟨h3, h4⟩ h5
  have HK := Lib.hid key
  have HB0 := Lib.hid ((Below.refl w.heap.size w).alloc (Nat.le_refl _) (.cells #[] 84))
  clear key h hb h2
  go_enter Try.func57, Try.ntmps57
  go_wp2_with fail
  refine (C _).mono ?_
  rintro e1 w1 ⟨c, rfl, hc, hb1⟩
  have HB1 := Lib.hid (below_then HB0.out hb1)
  have HC := Lib.hid hc
  clear hb1 hc C
  go_wp2
  go_ret
  exact ⟨c, rfl, HK.out _ HC.out, HB1.out⟩
set_option maxRecDepth 100000 in
set_option maxHeartbeats 2000000 in
theorem lkbrk_any (s : ByteArray) (a : Nat) (ha : a < s.size) (hs : s.size ≤ 400) (h : (nextW s a).err = 2) (hb : bt s a = 91) (h2 : (readB s a).err = 2) (w : World) :
    Calls Try.prog 68 #[.agg #[], .string s, .int .i64 (a : Int)] w (RetL s a w) := by
  have C := black_any s a (by omega)
  obtain ⟨z0, z1, z2, z3⟩ := lackB_some h2
  have HK := Lib.hid (lackW_brk ha hb h ⟨z0, z1⟩ z2 z3)
  have HB0 := Lib.hid ((Below.refl w.heap.size w).alloc (Nat.le_refl _) (.cells #[] 85))
  clear h hb h2 z0 z2 z3
  generalize lackB s a = c at *
  go_enter Try.func68, Try.ntmps68
  go_wp2_with fail
  refine (C _).mono ?_
  rintro e1 w1 ⟨rfl, hb1⟩
  have HB1 := Lib.hid (below_then HB0.out hb1)
  clear hb1 C
  go_wp2
  go_ret
  exact ⟨c, rfl, HK.out, HB1.out⟩
set_option maxRecDepth 100000 in
set_option maxHeartbeats 2000000 in
theorem lkesc_any (s : ByteArray) (a : Nat) (ha : a < s.size) (hs : s.size ≤ 400) (h : (nextW s a).err = 2) (hb : bt s a = 92) (w : World) :
    Calls Try.prog 95 #[.agg #[], .string s, .int .i64 (a : Int)] w (RetL s a w) := by
  have HK := Lib.hid (lackW_esc ha hb h)
  clear h hb
  go_enter Try.func95, Try.ntmps95
  go_wp2
  go_ret
  exact ⟨_, rfl, HK.out, by (repeat' (first | (with_reducible exact Below.refl _ _) | (with_reducible assumption) | (with_reducible refine Below.alloc ?_ ?_ _) | (with_reducible refine Below.drew ?_) | (with_reducible refine below_set ?_ ?_ _) | (with_reducible refine below_call ?_ ?_ (by assumption)) | (with_reducible exact Below.size (by assumption)) | omega | go_size))⟩
set_option maxRecDepth 100000 in
set_option maxHeartbeats 2000000 in
theorem lk_cnt (s : ByteArray) (a : Nat) (ha : a < s.size) (hs : s.size ≤ 400) (h : (nextW s a).err = 2) (hV : lofV s[a] = ifV 84 #[]) (hb : isCnt (bt s a) = true) (h2 : (BraceP.readF s.data.toList a).2.2.2.1 = 2) (w : World) : Calls Try.prog 12 #[.string s, .int .i64 (a : Int)] w (RetL s a w) := by
  have CO := of5_any s[a]
  rw [hV] at CO
  have C1 := lnext_any s a (by omega)
  have C2 := lkcnt_any s a ha hs h hb h2
  generalize nextW s a = r at *
  obtain ⟨x, er, pl⟩ := r
  simp only at h
  subst h
  clear hV
  go_enter Try.func12, Try.ntmps12
  go_wp2_with fail
  refine (C1 _).mono ?_
  rintro e1 w1 ⟨rfl, hb1⟩
  have HB1 := Lib.hid (hb1.alloc hb1.size (.cells (wdCells x) 51))
  clear hb1 C1
  go_wp2_with fail
  refine (CO _).mono ?_
  rintro e2 w2 ⟨rfl, rfl⟩
  clear CO
  go_wp2_with fail
  refine (C2 _).mono ?_
  rintro e3 w3 ⟨c, rfl, hc, hb3⟩
  have HC := Lib.hid hc
  have HB3 := Lib.hid (below_then HB1.out hb3)
  clear hc hb3 C2 HB1
  go_wp2
  go_ret
  exact ⟨c, rfl, HC.out, HB3.out⟩
set_option maxRecDepth 100000 in
set_option maxHeartbeats 2000000 in
theorem lk_brk (s : ByteArray) (a : Nat) (ha : a < s.size) (hs : s.size ≤ 400) (h : (nextW s a).err = 2) (hV : lofV s[a] = ifV 85 #[]) (hb : bt s a = 91) (h2 : (readB s a).err = 2) (w : World) : Calls Try.prog 12 #[.string s, .int .i64 (a : Int)] w (RetL s a w) := by
  have CO := of5_any s[a]
  rw [hV] at CO
  have C1 := lnext_any s a (by omega)
  have C2 := lkbrk_any s a ha hs h hb h2
  generalize nextW s a = r at *
  obtain ⟨x, er, pl⟩ := r
  simp only at h
  subst h
  clear hV
  go_enter Try.func12, Try.ntmps12
  go_wp2_with fail
  refine (C1 _).mono ?_
  rintro e1 w1 ⟨rfl, hb1⟩
  have HB1 := Lib.hid (hb1.alloc hb1.size (.cells (wdCells x) 51))
  clear hb1 C1
  go_wp2_with fail
  refine (CO _).mono ?_
  rintro e2 w2 ⟨rfl, rfl⟩
  clear CO
  go_wp2_with fail
  refine (C2 _).mono ?_
  rintro e3 w3 ⟨c, rfl, hc, hb3⟩
  have HC := Lib.hid hc
  have HB3 := Lib.hid (below_then HB1.out hb3)
  clear hc hb3 C2 HB1
  go_wp2
  go_ret
  exact ⟨c, rfl, HC.out, HB3.out⟩
set_option maxRecDepth 100000 in
set_option maxHeartbeats 2000000 in
theorem lk_esc (s : ByteArray) (a : Nat) (ha : a < s.size) (hs : s.size ≤ 400) (h : (nextW s a).err = 2) (hV : lofV s[a] = ifV 87 #[]) (hb : bt s a = 92) (w : World) : Calls Try.prog 12 #[.string s, .int .i64 (a : Int)] w (RetL s a w) := by
  have CO := of5_any s[a]
  rw [hV] at CO
  have C1 := lnext_any s a (by omega)
  have C2 := lkesc_any s a ha hs h hb
  generalize nextW s a = r at *
  obtain ⟨x, er, pl⟩ := r
  simp only at h
  subst h
  clear hV
  go_enter Try.func12, Try.ntmps12
  go_wp2_with fail
  refine (C1 _).mono ?_
  rintro e1 w1 ⟨rfl, hb1⟩
  have HB1 := Lib.hid (hb1.alloc hb1.size (.cells (wdCells x) 51))
  clear hb1 C1
  go_wp2_with fail
  refine (CO _).mono ?_
  rintro e2 w2 ⟨rfl, rfl⟩
  clear CO
  go_wp2_with fail
  refine (C2 _).mono ?_
  rintro e3 w3 ⟨c, rfl, hc, hb3⟩
  have HC := Lib.hid hc
  have HB3 := Lib.hid (below_then HB1.out hb3)
  clear hc hb3 C2 HB1
  go_wp2
  go_ret
  exact ⟨c, rfl, HC.out, HB3.out⟩
set_option maxRecDepth 100000 in
set_option maxHeartbeats 2000000 in
theorem lk_none (s : ByteArray) (a : Int) (hs : s.size ≤ 400) (h : (nextW s a).err ≠ 2) (w : World) : Calls Try.prog 12 #[.string s, .int .i64 a] w (RetL s a w) := by
  have HK : Hid (LackW s a ⟨#[]⟩) := Lib.hid (.inl ⟨h, rfl⟩)
  have C1 := lnext_any s a (by omega)
  generalize nextW s a = r at *
  obtain ⟨x, er, pl⟩ := r
  have e2 : (er != 2) = true := bne_iff_ne.2 h
  clear h
  go_enter Try.func12, Try.ntmps12
  go_wp2_with fail
  refine (C1 _).mono ?_
  rintro e1 w1 ⟨rfl, hb1⟩
  have HB1 := Lib.hid (hb1.alloc hb1.size (.cells (wdCells x) 51))
  clear hb1 C1
  go_wp2
  go_ret
  exact ⟨_, rfl, HK.out, HB1.out⟩
set_option maxRecDepth 100000 in
theorem llack_any (s : ByteArray) (a : Int) (hs : s.size ≤ 400) (w : World) : Calls Try.prog 12 #[.string s, .int .i64 a] w (RetL s a w) := by
  by_cases h : (nextW s a).err = 2
  · obtain ⟨a, rfl, ha⟩ := short_in h
    have hb := bt_at s a ha
    rcases short_byte ha h with ⟨h1, h2⟩ | ⟨h1, h2⟩ | h1
    · refine lk_cnt s a ha hs h ?_ h1 h2 w
      rw [← hb]
      unfold lofV
      have h1' := h1
      unfold isCnt at h1'
      simp only [Bool.or_eq_true, beq_iff_eq] at h1'
      rcases h1' with e | e | e | e <;> rw [e] <;> rfl
    · exact lk_brk s a ha hs h (by rw [← hb, h1]; rfl) h1 h2 w
    · exact lk_esc s a ha hs h (by rw [← hb, h1]; rfl) h1 w
  · exact lk_none s a hs h w
end Go.Proofs.Ytfcgmgpcbenfpaa
