/- Walks of the package gimletref03: one thing more, or the end. -/
import Derived.Test.YtfcgmgpcbenfpaaProg
import Derived.WalkKit
import Derived.WalkSpells
import Derived.WalkLawsBesides
import Derived.Handy
import Derived.Lib.Hide
import Derived.Test.YtfcgmgpcbenfpaaBrkD
import Derived.Deep.RegionHeld3
import Derived.Test.YtfcgmgpcbenfpaaMRef
set_option linter.unusedVariables false
set_option linter.unusedSimpArgs false
namespace Go.Proofs.Ytfcgmgpcbenfpaa
open Go.RowKit SetP BrkP
def rthing (s : ByteArray) (i : Nat) (f : Nat → Bool) (nt first : Bool) : Value :=
  if s.size ≤ i then badV 2 s.size else if bt s i == 93 && !first then stV f ((i : Int) + 1) 0 0 true nt else resV3 nt (thingF s i f)
/- The span: three ways to come to it. -/
end Go.Proofs.Ytfcgmgpcbenfpaa

/- Walks of the package gimletref03: a thing, whatever it is; Read. -/
namespace Go.Proofs.Ytfcgmgpcbenfpaa
open Go.RowKit SetP BrkP
theorem bne_false {b k : UInt8} (h : (b == k) = true) : ¬ (b != k) = true := by unfold bne; rw [h]; simp
theorem bne_true {b k : UInt8} (h : (b == k) = false) : (b != k) = true := by unfold bne; rw [h]; rfl
end Go.Proofs.Ytfcgmgpcbenfpaa

/- Walks of the package gimletref03: Read. -/
namespace Go.Proofs.Ytfcgmgpcbenfpaa
open Go.RowKit SetP BrkP
theorem wpList_store_slab {P : Program} {ops : Array Oper} {rest : List Oper} {op : Oper} {a : Act} {w : World} {Q : Exit → Act → World → Prop} (hgd : op.guard = none) (ty : TypeId) (x y : Operand) (ho : op.op = .store ty x y)
    (g : Nat) (cells cs : Array Value) (t : TypeId) (hx : a.eval x = .pointer (some ⟨g, 0, none⟩)) (hy : a.eval y = .agg cells)
    (o : Slab w g cs t) (hz : cells.size = cs.size) (hi : (P.info? ty).map (·.size) = some cells.size) (h1 : cells.all (·.oneCell') = true)
    (h : ∀ w', Slab w' g cells t → Only g w w' → wpList P ops Q rest (a.put op.dst undef) w') : wpList P ops Q (op :: rest) a w := by
  refine wpList_store_mid hgd ty x y ho g 0 cells hx hy (there_slab o hz) hi h1 (h _ (slab_setCells o hz) ?_)
  have key : ∀ (vs : List Value) (k : Nat) (u : World), Only g w u → Only g w (u.setCells g k vs) := by
    intro vs
    induction vs with
    | nil => exact fun _ _ h => h
    | cons v r ih => exact fun k u h => ih (k + 1) _ (h.set k v)
  exact key _ _ _ (Only.refl _ _)
abbrev rbresV (a : Ans) : Value := .tuple #[setV a.set, .int .i64 a.stop, .int .i64 a.err, .int .i64 a.place]
def mSt (n : Nat) (g : Nat) (wr : World) : Nat := match wr.cell? ⟨g, 7, none⟩ with
  | some (.bool true) => 0
  | _ => n + 3 - (intOf ((wr.cell? ⟨g, 4, none⟩).getD undef)).toNat
theorem mSt_eq {n g : Nat} {wr : World} {f : Nat → Bool} {k e p : Int} {en nt : Bool} {t : TypeId} (h : Slab wr g (stCells f k e p en nt) t) : mSt n g wr = if en then 0 else n + 3 - k.toNat := by
  unfold mSt
  rw [h.cell 7, h.cell 4]
  cases en <;> rfl
theorem loopF_out' {s : ByteArray} {first i : Nat} {f : Nat → Bool} (h : s.size ≤ i) : loopF s first i f = .bad 2 s.size := by rw [loopF, dif_pos h]
theorem loopF_end' {s : ByteArray} {first i : Nat} {f : Nat → Bool} (h : i < s.size) (hb : (bt s i == 93) = true) (hf : first < i) : loopF s first i f = .go (i + 1) f := by
  rw [loopF, dif_neg (by omega), if_pos (by rw [hb]; simpa using hf)]
theorem closeF_bad' {s : ByteArray} {from_ j p : Nat} {f : Nat → Bool} {e : Int} (h : closeF s from_ j f = .bad e p) : e ≠ 0 := by
  unfold closeF at h
  split at h
  · cases h; decide
  · split at h
    · cases h; decide
    · split at h
      · cases h
      · cases h; decide
theorem classGo_badE' {s : ByteArray} {from_ p : Nat} {f : Nat → Bool} {e : Int} (j : Nat) (h : classGo s from_ f j = .bad e p) : e ≠ 0 := by
  induction hn : s.size - j using Nat.strongRecOn generalizing j with
  | _ n ih =>
    rw [classGo] at h
    split at h
    · cases h; decide
    · split at h
      · exact closeF_bad' h
      · split at h
        · exact ih (s.size - (j + 1)) (by omega) (j + 1) h rfl
        · cases h; decide
theorem spanF_bad' {s : ByteArray} {i p : Nat} {f : Nat → Bool} {c : UInt8} {e : Int} (h : spanF s i f c = .bad e p) : e ≠ 0 := by
  unfold spanF at h
  split at h
  · cases h; decide
  split at h
  · cases h
  split at h
  · cases h; decide
  split at h
  · cases h
  split at h
  · cases h; decide
  split at h
  · cases h; decide
  split at h
  · cases h; decide
  · cases h
theorem thingF_bad' {s : ByteArray} {i p : Nat} {f : Nat → Bool} {e : Int} (h : thingF s i f = .bad e p) : e ≠ 0 := by
  unfold thingF at h
  split at h
  · split at h
    · cases h; decide
    · split at h
      · exact classGo_badE' _ h
      · split at h
        · cases h; decide
        · exact spanF_bad' h
  · exact spanF_bad' h
end Go.Proofs.Ytfcgmgpcbenfpaa
