/- Walks of the document's parser: all words are read. -/
import Derived.Test.YtfcgmgpcbenfpaaProg
import Derived.WalkKit
import Derived.WalkSpells
import Derived.WalkLawsBesides
import Derived.Handy
import Derived.Lib.Hide
import Derived.Test.YtfcgmgpcbenfpaaParL
import Derived.Test.YtfcgmgpcbenfpaaParK
import Derived.Test.YtfcgmgpcbenfpaaLexC
import Derived.Deep.QuietTactic
import Derived.Deep.Cut
import Derived.BigQuiet
import Derived.Lib.QuietBelow
set_option linter.unusedVariables false
set_option linter.unusedSimpArgs false
namespace Go.Proofs.Ytfcgmgpcbenfpaa
open Go.RowKit SetP BrkP LexP AstP ParP
theorem results_cell4 {P : Program} {fn : Func} {t : TypeId} {a b c d : Tmp} (h : fn.results = #[.cell a t, .tmp b, .tmp c, .tmp d]) {tmps : Array Value} {w : World} {p : Addr} {v x y z : Value} (hp : tmps.getD a undef = .pointer (some p))
    (hl : (loadVar t p).run P w = .ok v w) (hb : tmps.getD b undef = x) (hc : tmps.getD c undef = y) (hd : tmps.getD d undef = z) : (results fn tmps).run P w = .ok (.tuple #[v, x, y, z]) w := by
  subst hb hc hd
  have hp' : tmps[a]?.getD undef = .pointer (some p) := by simpa using hp
  simp [results, h, hp', asAddr, hl]
theorem StAt.lower {w : World} {B B' : Nat} {x : PS} {Ao : Option Addr} {co gp cp gr cr : Nat} (h : StAt w B x Ao co gp cp gr cr) (hB : B' ≤ B) : StAt w B' x Ao co gp cp gr cr :=
  ⟨row_mono h.out hB, row_mono h.pc hB, row_mono h.rw_ hB, h.a1, h.a2, h.ne, Nat.le_trans hB h.hB⟩
/-- What the document's Read leaves. -/
def RetR7 (s : ByteArray) (R : PR) (w : World) (e : Ending) (w' : World) : Prop :=
  match R with
  | .bad er p => e = .returned (.tuple #[.agg #[.slice none 0 0, .slice none 0 0, .slice none 0 0, .int .i64 0], .int .i64 0, .int .i64 er, .int .i64 p]) ∧ Below w.heap.size w w'
  | .ok y => if 1 < y.lv.length then e = .returned (.tuple #[.agg #[.slice none 0 0, .slice none 0 0, .slice none 0 0, .int .i64 0], .int .i64 ((y.lv.length - 1 : Nat) : Int), .int .i64 2, .int .i64 (s.size : Int)]) ∧ Below w.heap.size w w'
    else ∃ Ao co gp cp gr cr, e = .returned (.tuple #[.agg (psCells (endRows y) Ao co gp cp gr cr), .int .i64 0, .int .i64 0, .int .i64 0]) ∧ Below w.heap.size w w' ∧ StAt w' w.heap.size (endRows y) Ao co gp cp gr cr
end Go.Proofs.Ytfcgmgpcbenfpaa
