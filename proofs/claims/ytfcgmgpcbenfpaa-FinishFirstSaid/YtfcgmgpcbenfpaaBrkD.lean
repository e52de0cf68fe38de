/- Walks of the package gimletref03: what the document says of brackets. -/
import Derived.Test.YtfcgmgpcbenfpaaProg
import Derived.WalkKit
import Derived.WalkSpells
import Derived.WalkLawsBesides
import Derived.Handy
import Derived.Lib.Hide
import Derived.Test.YtfcgmgpcbenfpaaMBkp
import Derived.Test.YtfcgmgpcbenfpaaMClt
import Derived.Test.YtfcgmgpcbenfpaaMCls
import Derived.Deep.RegionHeld3
import Derived.IntWalk
set_option linter.unusedVariables false
set_option linter.unusedSimpArgs false
namespace Go.Proofs.Ytfcgmgpcbenfpaa
open Go.RowKit SetP BrkP
theorem beq_int' (b k : UInt8) : ((b.toNat : Int) == (k.toNat : Int)) = (b == k) := by
  rw [Bool.eq_iff_iff]; simp [← UInt8.toNat_inj]; omega
theorem bne_int' (b k : UInt8) : ((b.toNat : Int) != (k.toNat : Int)) = !(b == k) := by
  unfold bne; rw [beq_int']
abbrev stCells (f : Nat → Bool) (pos e p : Int) (en nt : Bool) : Array Value := #[.int .u64 (wd f 0), .int .u64 (wd f 1), .int .u64 (wd f 2), .int .u64 (wd f 3), .int .i64 pos, .int .i64 e, .int .i64 p, .bool en, .bool nt]
abbrev stV (f : Nat → Bool) (pos e p : Int) (en nt : Bool) : Value := .agg (stCells f pos e p en nt)
abbrev badCells (e p : Int) : Array Value := #[.int .u64 0, .int .u64 0, .int .u64 0, .int .u64 0, .int .i64 0, .int .i64 e, .int .i64 p, .bool false, .bool false]
abbrev badV (e p : Int) : Value := .agg (badCells e p)
/-- An answer of the document's, as a state. -/
abbrev resV3 (nt : Bool) : Res → Value
  | .go i f => stV f i 0 0 false nt
  | .bad e p => badV e p
theorem or_one (f : Nat → Bool) (c : UInt8) : (fun x => f x || rangeF (c.toNat : Int) (c.toNat : Int) x) = addB f c.toNat := by
  funext x
  unfold addB rangeF
  congr 1
  rw [Bool.eq_iff_iff]; simp; omega
theorem classGo_out' {s : ByteArray} {from_ j : Nat} {f : Nat → Bool} (h : s.size ≤ j) : classGo s from_ f j = .bad 2 s.size := by rw [classGo, dif_pos h]
theorem classGo_close' {s : ByteArray} {from_ j : Nat} {f : Nat → Bool} (h : j < s.size) (hb : (bt s j == 58) = true) : classGo s from_ f j = closeF s from_ j f := by rw [classGo, dif_neg (by omega), if_pos hb]
theorem classGo_on' {s : ByteArray} {from_ j : Nat} {f : Nat → Bool} (h : j < s.size) (hb : (bt s j == 58) = false) (hg : beginsF (s.extract from_ (j + 1)) = true) : classGo s from_ f j = classGo s from_ f (j + 1) := by
  rw [classGo, dif_neg (by omega), if_neg (by rw [hb]; simp), if_pos hg]
theorem classGo_bad' {s : ByteArray} {from_ j : Nat} {f : Nat → Bool} (h : j < s.size) (hb : (bt s j == 58) = false) (hg : beginsF (s.extract from_ (j + 1)) = false) : classGo s from_ f j = .bad 5 (j + 1) := by
  rw [classGo, dif_neg (by omega), if_neg (by rw [hb]; simp), if_neg (by rw [hg]; simp)]
end Go.Proofs.Ytfcgmgpcbenfpaa
