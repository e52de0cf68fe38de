/- Plain facts on brackets: what a text at a place is as a bracket; a block that alone may be written. -/
import Derived.Test.YthppilfojicfdaaClassB
import Derived.Test.YthppilfojicfdaaMem2
namespace Go.Proofs.Ythppilfojicfdaa
open Go.RowKit SetP

/-- As it was, but for block g (and new blocks). -/
structure Only (g : Nat) (w w' : World) : Prop where
  os : w'.os = w.os
  tape : w'.tape = w.tape
  output : w'.output = w.output
  size : w.heap.size ≤ w'.heap.size
  block : ∀ k, k < w.heap.size → k ≠ g → w'.heap[k]? = w.heap[k]?
theorem Only.refl (g : Nat) (w : World) : Only g w w := ⟨rfl, rfl, rfl, Nat.le_refl _, fun _ _ _ => rfl⟩
theorem Only.trans {g : Nat} {a b c : World} (h : Only g a b) (k : Only g b c) : Only g a c :=
  ⟨k.os.trans h.os, k.tape.trans h.tape, k.output.trans h.output, Nat.le_trans h.size k.size, fun i hi hg => (k.block i (Nat.lt_of_lt_of_le hi h.size) hg).trans (h.block i hi hg)⟩
theorem Only.of (g : Nat) {w w' : World} (h : Below w.heap.size w w') : Only g w w' := ⟨h.os, h.tape, h.output, h.size, fun k hk _ => h.block k hk⟩
theorem Only.call {g : Nat} {a w w' : World} (h : Only g a w) (k : Below w.heap.size w w') : Only g a w' := h.trans (.of g k)
theorem Only.alloc {g : Nat} {a w : World} (h : Only g a w) (o : Obj) : Only g a (w.alloc o) := h.call ((Below.refl _ _).alloc (Nat.le_refl _) o)
theorem Only.set {g : Nat} {a w : World} (h : Only g a w) (i : Nat) (u : Value) : Only g a (w.setCell ⟨g, i, none⟩ u) :=
  h.trans ⟨rfl, rfl, rfl, by simp [World.setCell], fun k _ hg => Below.heap_setCell _ _ _ _ hg⟩
theorem Only.drewN {g : Nat} {a w : World} (h : Only g a w) (n : Nat) : Only g a (w.drewN n) := ⟨h.os, h.tape, h.output, h.size, h.block⟩
theorem Only.drew {g : Nat} {a w : World} (h : Only g a w) : Only g a w.drew := ⟨h.os, h.tape, h.output, h.size, h.block⟩
theorem Slab.only {g k : Nat} {w w' : World} {cs : Array Value} {t : TypeId} (h : Slab w k cs t) (ho : Only g w w') (hg : k ≠ g) : Slab w' k cs t := (ho.block k h.lt hg).trans h
theorem below_only {B g : Nat} {a w w' : World} (h : Below B a w) (ho : Only g w w') (hg : B ≤ g) (hB : B ≤ w.heap.size) : Below B a w' :=
  ⟨ho.os.trans h.os, ho.tape.trans h.tape, ho.output.trans h.output, Nat.le_trans h.size ho.size, fun k hk => (ho.block k (by omega) (by omega)).trans (h.block k hk)⟩

namespace BrkP
/-- The byte at a place; 0, where there is none. -/
def bt (s : ByteArray) (k : Nat) : UInt8 := s.data.toList.getD k 0
theorem bt_at (s : ByteArray) (k : Nat) (h : k < s.size) : bt s k = s[k] := by
  unfold bt
  have h' : k < s.data.toList.length := by simpa using h
  rw [List.getD_eq_getElem?_getD, List.getElem?_eq_getElem h']; rfl
/-- How far a bracket was read: on with a place and a set; or an error and its place. -/
inductive Res where
  | go (i : Nat) (f : Nat → Bool)
  | bad (e : Int) (p : Nat)
def marksB (b : UInt8) : Bool := b == 58 || (b == 46 || b == 61)
def closeF (s : ByteArray) (from_ j : Nat) (f : Nat → Bool) : Res :=
  match clsOf (s.extract from_ j) with
  | none => .bad 5 (j + 1)
  | some k => if s.size ≤ j + 1 then .bad 2 s.size else if bt s (j + 1) == 93 then .go (j + 2) (fun x => f x || cls k x) else .bad 3 (j + 2)
def classGo (s : ByteArray) (from_ : Nat) (f : Nat → Bool) (j : Nat) : Res :=
  if h : s.size ≤ j then .bad 2 s.size
  else if bt s j == 58 then closeF s from_ j f
  else if beginsF (s.extract from_ (j + 1)) then classGo s from_ f (j + 1) else .bad 5 (j + 1)
termination_by s.size - j
def spanF (s : ByteArray) (i : Nat) (f : Nat → Bool) (c : UInt8) : Res :=
  if s.size ≤ i + 1 then .bad 2 s.size
  else if bt s (i + 1) != 45 then .go (i + 1) (addB f c.toNat)
  else if s.size ≤ i + 2 then .bad 2 s.size
  else if bt s (i + 2) == 93 then .go (i + 1) (addB f c.toNat)
  else if (bt s (i + 2)).toNat < c.toNat then .bad 4 (i + 3)
  else if bt s (i + 2) == 91 && decide (s.size ≤ i + 3) then .bad 2 s.size
  else if bt s (i + 2) == 91 && marksB (bt s (i + 3)) then .bad 3 (i + 4)
  else .go (i + 3) (fun x => f x || rangeF c.toNat (bt s (i + 2)).toNat x)
def thingF (s : ByteArray) (i : Nat) (f : Nat → Bool) : Res :=
  if bt s i == 91 then
    if s.size ≤ i + 1 then .bad 2 s.size
    else if bt s (i + 1) == 58 then classGo s (i + 2) f (i + 2)
    else if marksB (bt s (i + 1)) then .bad 3 (i + 2)
    else spanF s i f 91
  else spanF s i f (bt s i)
/-- The things, one behind the other, up to the end. -/
def loopF (s : ByteArray) (first : Nat) (i : Nat) (f : Nat → Bool) : Res :=
  if _hi : s.size ≤ i then .bad 2 s.size
  else if bt s i == 93 && decide (first < i) then .go (i + 1) f
  else match thingF s i f with
    | .bad e p => .bad e p
    | .go i' f' => if _h : i < i' then loopF s first i' f' else .bad 0 0
termination_by s.size - i
/-- The set, where it ends, the error, its place. -/
structure Ans where
  set : Nat → Bool
  stop : Int
  err : Int
  place : Int
def ansOf (not : Bool) : Res → Ans
  | .bad e p => ⟨fun _ => false, 0, e, p⟩
  | .go i f => ⟨fun x => if not then !f x else f x, i, 0, 0⟩
def readB (s : ByteArray) (a : Int) : Ans :=
  if a < 0 ∨ (s.size : Int) ≤ a then ⟨fun _ => false, 0, 1, 0⟩
  else if bt s a.toNat != 91 then ⟨fun _ => false, 0, 1, 0⟩
  else if bt s (a.toNat + 1) == 94 then ansOf true (loopF s (a.toNat + 2) (a.toNat + 2) (fun _ => false))
  else ansOf false (loopF s (a.toNat + 1) (a.toNat + 1) (fun _ => false))

theorem closeF_go {s : ByteArray} {from_ j i : Nat} {f g : Nat → Bool} (h : closeF s from_ j f = .go i g) : i = j + 2 ∧ i ≤ s.size := by
  unfold closeF at h
  split at h
  · cases h
  · split at h
    · cases h
    · split at h
      · cases h; exact ⟨rfl, by omega⟩
      · cases h
theorem classGo_go {s : ByteArray} {from_ : Nat} {f g : Nat → Bool} (j i : Nat) (h : classGo s from_ f j = .go i g) : j < i ∧ i ≤ s.size := by
  induction hn : s.size - j using Nat.strongRecOn generalizing j with
  | _ n ih =>
    rw [classGo] at h
    split at h
    · cases h
    · split at h
      · have := closeF_go h; omega
      · split at h
        · have := ih (s.size - (j + 1)) (by omega) (j + 1) h rfl; omega
        · cases h
theorem spanF_go {s : ByteArray} {i i' : Nat} {f g : Nat → Bool} {c : UInt8} (h : spanF s i f c = .go i' g) : i < i' ∧ i' ≤ s.size := by
  unfold spanF at h
  split at h
  · cases h
  split at h
  · cases h; omega
  split at h
  · cases h
  split at h
  · cases h; omega
  split at h
  · cases h
  split at h
  · cases h
  split at h
  · cases h
  rename_i h3 _
  cases h
  constructor
  · omega
  · omega
theorem thingF_go {s : ByteArray} {i i' : Nat} {f g : Nat → Bool} (h : thingF s i f = .go i' g) : i < i' ∧ i' ≤ s.size := by
  unfold thingF at h
  split at h
  · split at h
    · cases h
    · split at h
      · have := classGo_go _ _ h; omega
      · split at h
        · cases h
        · exact spanF_go h
  · exact spanF_go h
theorem loopF_step {s : ByteArray} {first i : Nat} {f : Nat → Bool} (hi : i < s.size) (he : (bt s i == 93 && decide (first < i)) = false) :
    loopF s first i f = match thingF s i f with | .bad e p => .bad e p | .go i' f' => loopF s first i' f' := by
  rw [loopF, dif_neg (by omega), if_neg (by rw [he]; simp)]
  split
  · rfl
  · rename_i i' f' h
    rw [dif_pos (thingF_go h).1]
end BrkP
end Go.Proofs.Ythppilfojicfdaa
