/- Plain facts: what a few fixed texts are as patterns. No program is in sight. -/
import Derived.Test.YtddokdjlmdoebaaParP
set_option linter.unusedVariables false
set_option linter.unusedSimpArgs false
namespace Go.Proofs.Ytddokdjlmdoebaa
open Go.RowKit SetP BrkP LexP AstP
namespace ParP
abbrev s7a : ByteArray := ⟨#[97, 40, 98, 124, 41, 42]⟩
abbrev s7b : ByteArray := ⟨#[97, 41]⟩
abbrev s7c : ByteArray := ⟨#[97, 124, 42]⟩
abbrev s7d : ByteArray := ⟨#[97, 40, 40, 98, 41, 99]⟩
theorem n7a0 : nextW s7a ((0 : Nat) : Int) = ⟨⟨1, (0 : Nat), (1 : Nat), addB noSet 97, 0, 0⟩, 0, 0⟩ := by
  rw [nextW_in (by decide), show bt s7a 0 = 97 by decide]; rfl
theorem n7a1 : nextW s7a ((1 : Nat) : Int) = ⟨⟨2, (1 : Nat), (2 : Nat), noSet, 0, 0⟩, 0, 0⟩ := by
  rw [nextW_in (by decide), show bt s7a 1 = 40 by decide]; rfl
theorem n7a2 : nextW s7a ((2 : Nat) : Int) = ⟨⟨1, (2 : Nat), (3 : Nat), addB noSet 98, 0, 0⟩, 0, 0⟩ := by
  rw [nextW_in (by decide), show bt s7a 2 = 98 by decide]; rfl
theorem n7a3 : nextW s7a ((3 : Nat) : Int) = ⟨⟨4, (3 : Nat), (4 : Nat), noSet, 0, 0⟩, 0, 0⟩ := by
  rw [nextW_in (by decide), show bt s7a 3 = 124 by decide]; rfl
theorem n7a4 : nextW s7a ((4 : Nat) : Int) = ⟨⟨3, (4 : Nat), (5 : Nat), noSet, 0, 0⟩, 0, 0⟩ := by
  rw [nextW_in (by decide), show bt s7a 4 = 41 by decide]; rfl
theorem n7a5 : nextW s7a ((5 : Nat) : Int) = ⟨⟨5, (5 : Nat), (6 : Nat), noSet, 0, -1⟩, 0, 0⟩ := by
  have h : BraceP.readF s7a.data.toList ((5 : Nat) : Int) = (0, -1, 6, 0, 0) := by decide +kernel
  rw [nextW_in (by decide), show bt s7a 5 = 42 by decide]
  rw [show wordB s7a 5 42 = cntA ((5 : Nat) : Int) (BraceP.readF s7a.data.toList ((5 : Nat) : Int)) from rfl, h]; rfl
theorem n7b0 : nextW s7b ((0 : Nat) : Int) = ⟨⟨1, (0 : Nat), (1 : Nat), addB noSet 97, 0, 0⟩, 0, 0⟩ := by
  rw [nextW_in (by decide), show bt s7b 0 = 97 by decide]; rfl
theorem n7c0 : nextW s7c ((0 : Nat) : Int) = ⟨⟨1, (0 : Nat), (1 : Nat), addB noSet 97, 0, 0⟩, 0, 0⟩ := by
  rw [nextW_in (by decide), show bt s7c 0 = 97 by decide]; rfl
theorem n7c1 : nextW s7c ((1 : Nat) : Int) = ⟨⟨4, (1 : Nat), (2 : Nat), noSet, 0, 0⟩, 0, 0⟩ := by
  rw [nextW_in (by decide), show bt s7c 1 = 124 by decide]; rfl
theorem n7d0 : nextW s7d ((0 : Nat) : Int) = ⟨⟨1, (0 : Nat), (1 : Nat), addB noSet 97, 0, 0⟩, 0, 0⟩ := by
  rw [nextW_in (by decide), show bt s7d 0 = 97 by decide]; rfl
theorem n7d1 : nextW s7d ((1 : Nat) : Int) = ⟨⟨2, (1 : Nat), (2 : Nat), noSet, 0, 0⟩, 0, 0⟩ := by
  rw [nextW_in (by decide), show bt s7d 1 = 40 by decide]; rfl
theorem n7d2 : nextW s7d ((2 : Nat) : Int) = ⟨⟨2, (2 : Nat), (3 : Nat), noSet, 0, 0⟩, 0, 0⟩ := by
  rw [nextW_in (by decide), show bt s7d 2 = 40 by decide]; rfl
theorem n7d3 : nextW s7d ((3 : Nat) : Int) = ⟨⟨1, (3 : Nat), (4 : Nat), addB noSet 98, 0, 0⟩, 0, 0⟩ := by
  rw [nextW_in (by decide), show bt s7d 3 = 98 by decide]; rfl
theorem n7d4 : nextW s7d ((4 : Nat) : Int) = ⟨⟨3, (4 : Nat), (5 : Nat), noSet, 0, 0⟩, 0, 0⟩ := by
  rw [nextW_in (by decide), show bt s7d 4 = 41 by decide]; rfl
theorem n7d5 : nextW s7d ((5 : Nat) : Int) = ⟨⟨1, (5 : Nat), (6 : Nat), addB noSet 99, 0, 0⟩, 0, 0⟩ := by
  rw [nextW_in (by decide), show bt s7d 5 = 99 by decide]; rfl
abbrev l7 : List Nd := [ndS (addB noSet 97), ndS (addB noSet 98), ndE, ndA 2, ndG, ndR 0 (-1), ndC 2]
theorem bt7 {s : ByteArray} {k : Nat} {b : UInt8} {x : PS} (h : bt s k = b) (hb : barF x b = 0) : barF x (bt s k) = 0 := by rw [h]; exact hb
theorem parse7a : parseF s7a = (l7, 0, 0) := by
  show parseR _ (readGo s7a 0 ps0) = _
  rw [readGo_word (by decide) (bt7 (b := 97) (by decide) rfl) n7a0 rfl, readGo_word (by decide) (bt7 (b := 40) (by decide) rfl) n7a1 rfl, readGo_word (by decide) (bt7 (b := 98) (by decide) rfl) n7a2 rfl,
    readGo_word (by decide) (bt7 (b := 124) (by decide) rfl) n7a3 rfl, readGo_word (by decide) (bt7 (b := 41) (by decide) rfl) n7a4 rfl, readGo_word (by decide) (bt7 (b := 42) (by decide) rfl) n7a5 rfl, readGo_end (by decide)]
  rfl
theorem parse7b : parseF s7b = ([], 8, 2) := by
  show parseR _ (readGo s7b 0 ps0) = _
  rw [readGo_word (by decide) (bt7 (b := 97) (by decide) rfl) n7b0 rfl, readGo_bar (by decide) (by rw [show bt s7b 1 = 41 by decide]; decide), show bt s7b 1 = 41 by decide]
  rfl
theorem parse7c : parseF s7c = ([], 7, 3) := by
  show parseR _ (readGo s7c 0 ps0) = _
  rw [readGo_word (by decide) (bt7 (b := 97) (by decide) rfl) n7c0 rfl, readGo_word (by decide) (bt7 (b := 124) (by decide) rfl) n7c1 rfl, readGo_bar (by decide) (by rw [show bt s7c 2 = 42 by decide]; decide), show bt s7c 2 = 42 by decide]
  rfl
theorem open7d : openF s7d = 1 := by
  show openR (readGo s7d 0 ps0) = _
  rw [readGo_word (by decide) (bt7 (b := 97) (by decide) rfl) n7d0 rfl, readGo_word (by decide) (bt7 (b := 40) (by decide) rfl) n7d1 rfl, readGo_word (by decide) (bt7 (b := 40) (by decide) rfl) n7d2 rfl,
    readGo_word (by decide) (bt7 (b := 98) (by decide) rfl) n7d3 rfl, readGo_word (by decide) (bt7 (b := 41) (by decide) rfl) n7d4 rfl, readGo_word (by decide) (bt7 (b := 99) (by decide) rfl) n7d5 rfl, readGo_end (by decide)]
  rfl
end ParP
end Go.Proofs.Ytddokdjlmdoebaa
