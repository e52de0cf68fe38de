/- Plain facts for stage 5: the cells of words that are alike; how long a text of words may be. -/
import Derived.Test.YtfcgmgpcbenfpaaGreatLexS
import Derived.Test.YtfcgmgpcbenfpaaGreatLexD
import Derived.Test.YtfcgmgpcbenfpaaGreatBrkU
import Derived.Test.YtfcgmgpcbenfpaaGreatMBrc
set_option linter.unusedVariables false
set_option linter.unusedSimpArgs false
namespace Go.Proofs.YtfcgmgpcbenfpaaGreat
open Go.RowKit SetP BrkP LexP
theorem textB_le (f : Nat → Bool) : (textB f).length ≤ 1000 := by
  have hopt : ∀ b c, (optB b c).length ≤ 1 := fun b c => by cases b <;> simp [optB]
  have h1 := runsT_len (runsF (restF f))
  have h2 := runsB_length (restF f) 256
  have h3 : (runsF (restF f)).length ≤ 256 := h2
  have ho : (outB f).length ≤ 1 + 768 + 1 := by
    unfold outB
    rw [List.length_append, List.length_append]
    have := hopt (f 93) 93
    have := hopt (f 91) 91
    omega
  have hl : (lastB f).length ≤ 2 := by
    unfold lastB
    have := hopt (f 94) 94
    have := hopt (f 45) 45
    split
    · rw [List.length_cons]; omega
    · rw [List.length_append]; omega
  unfold textB
  split
  · decide
  · split
    · decide
    · simp only [List.length_cons, List.length_append, List.length_nil]; omega
theorem printW_le (x : Wd) : (printW x).length ≤ 1000 := by
  have hb : ∀ b, (byteT b).length ≤ 2 := fun b => by unfold byteT; split <;> simp
  unfold printW
  split
  · unfold textW
    split
    · simp
    split
    · have := hb (chB (SetP.nextF x.set 0)); omega
    · exact textB_le _
  split
  · simp
  split
  · simp
  split
  · simp
  split
  · have := textF_len x.n x.m; omega
  · simp
theorem catT_le (L : List Wd) : (catT L).length ≤ 1000 * L.length := by
  induction L with
  | nil => simp [catT]
  | cons x L ih =>
    have := printW_le x
    rw [catT_cons, List.length_append, List.length_cons]
    omega
theorem wd_same {f g : Nat → Bool} (h : same f g = true) (i : Nat) (hi : i < 4) : wd f i = wd g i := by
  have h' := same_iff.1 h
  exact SetP.wd_ext fun j hj => h' _ (by omega)
theorem LexP.SameW.cells {v x : Wd} (h : SameW v x) : wdCells v = wdCells ⟨x.kind, v.at_, v.stop, x.set, x.n, x.m⟩ := by
  obtain ⟨h1, h2, h3, h4⟩ := h
  unfold wdCells
  rw [h1, wd_same h2 0 (by omega), wd_same h2 1 (by omega), wd_same h2 2 (by omega), wd_same h2 3 (by omega), h3, h4]
end Go.Proofs.YtfcgmgpcbenfpaaGreat
