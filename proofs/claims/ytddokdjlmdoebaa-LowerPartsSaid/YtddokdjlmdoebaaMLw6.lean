/- The statements of stage 6, walked: what must come whatever the input is. -/
import Derived.Test.YtddokdjlmdoebaaProg
import Derived.WalkKit
import Derived.WalkSpells
import Derived.WalkLawsBesides
import Derived.Handy
import Derived.Lib.Hide
import Derived.Test.YtddokdjlmdoebaaMAsk
import Derived.Test.YtddokdjlmdoebaaMAsi
set_option linter.unusedVariables false
set_option linter.unusedSimpArgs false
namespace Go.Proofs.Ytddokdjlmdoebaa
open Go.RowKit SetP AstP
def flatN (L : List Nd) : List Value := L.flatMap fun x => (ndCells x).toList
theorem flat_get (L : List Nd) (j f : Nat) (hj : j < L.length) (hf : f < 8) : (flatN L)[j * 8 + f]? = (ndCells (L.getD j ndEmpty))[f]? := by
  induction L generalizing j with
  | nil => simp at hj
  | cons x L ih =>
    have e : flatN (x :: L) = (ndCells x).toList ++ flatN L := rfl
    rw [e]
    cases j with
    | zero => rw [Nat.zero_mul, Nat.zero_add, List.getElem?_append_left (by simpa using hf)]; simp
    | succ j =>
      rw [List.getElem?_append_right (by simp; omega)]
      have := ih j (by simpa using hj)
      rw [show (j + 1) * 8 + f - (ndCells x).toList.length = j * 8 + f by simp; omega]
      rw [this]; rfl
theorem NodesAt.slab {w : World} {B g : Nat} {L : List Nd} (h : Slab w g (flatN L).toArray 43) (hB : g < B) (hl : L.length ≤ 1000000000000) : NodesAt w B (some ⟨g, 0, none⟩) L :=
  ⟨hl, .inr ⟨g, 0, rfl, hB, fun j hj f hf => by rw [h.cell, Nat.zero_add]; simpa using flat_get L j f hj hf⟩⟩
theorem NodesAt.take {w : World} {B : Nat} {A : Option Addr} {L : List Nd} (h : NodesAt w B A L) (n : Nat) : NodesAt w B A (L.take n) := by
  obtain ⟨h1, h2⟩ := h
  refine ⟨by rw [List.length_take]; omega, ?_⟩
  rcases h2 with h2 | ⟨b, off, rfl, hB, hc⟩
  · exact .inl (by rw [List.length_take]; omega)
  · refine .inr ⟨b, off, rfl, hB, fun j hj f hf => ?_⟩
    rw [List.length_take] at hj
    rw [hc j (by omega) f hf, List.getD_eq_getElem?_getD, List.getD_eq_getElem?_getD, List.getElem?_take_of_lt (by omega)]
theorem IntsAt.slab {w : World} {B g : Nat} {l : List Nat} (h : Slab w g (intsA l) 3) (hB : g < B) (hl : l.length ≤ 1000000000000) : IntsAt w B (some ⟨g, 0, none⟩) l :=
  ⟨hl, .inr ⟨g, 0, rfl, hB, fun j hj => by rw [Nat.zero_add, h.cell]; exact ints_get l hj⟩⟩
def L6 : List Nd := [⟨2, 0, 0, 0, fun _ => false⟩, ⟨2, 0, 0, 0, fun _ => false⟩, ⟨3, 1, 0, 0, fun _ => false⟩, ⟨5, 2, 0, 0, fun _ => false⟩]
theorem L6_formed : formedF L6 = true := by decide +kernel
theorem L6_right : rightF L6 = true := by decide +kernel
theorem L6_two : formedF (L6.take 2) = false := by decide +kernel
theorem L6_kids : kidsF L6 3 = [0, 2] := by decide +kernel
theorem L6_sizes : sizesF L6 = [1, 1, 2, 4] := by decide +kernel
theorem L6_nums : numsF L6 = [0, 0, 1, 0] := by decide +kernel
theorem n6_flat : (#[.int .i64 2, .int .i64 0, .int .i64 0, .int .i64 0, .int .u64 0, .int .u64 0, .int .u64 0, .int .u64 0, .int .i64 2, .int .i64 0, .int .i64 0, .int .i64 0, .int .u64 0, .int .u64 0, .int .u64 0, .int .u64 0, .int .i64 3, .int .i64 1, .int .i64 0, .int .i64 0, .int .u64 0, .int .u64 0, .int .u64 0, .int .u64 0, .int .i64 5, .int .i64 2, .int .i64 0, .int .i64 0, .int .u64 0, .int .u64 0, .int .u64 0, .int .u64 0] : Array Value) = (flatN L6).toArray := by
  simp [flatN, L6, ndCells, wd_zero]
set_option maxRecDepth 100000 in
theorem formed4 (A : Option Addr) (c : Nat) (w : World) (h : NodesAt w w.heap.size A L6) : Calls Try.prog 82 #[.slice A 4 c] w fun e w' => e = .returned (.bool true) ∧ Below w.heap.size w w' := by
  have := formed_any A c L6 w h; rwa [L6_formed] at this
set_option maxRecDepth 100000 in
theorem right4 (A : Option Addr) (c : Nat) (w : World) (h : NodesAt w w.heap.size A L6) : Calls Try.prog 46 #[.slice A 4 c] w fun e w' => e = .returned (.bool true) ∧ Below w.heap.size w w' := by
  have := right_any A c L6 w h; rwa [L6_right] at this
set_option maxRecDepth 100000 in
theorem formed2 (A : Option Addr) (c : Nat) (w : World) (h : NodesAt w w.heap.size A L6) : Calls Try.prog 82 #[.slice A 2 c] w fun e w' => e = .returned (.bool false) ∧ Below w.heap.size w w' := by
  have := formed_any A c (L6.take 2) w (h.take 2); rwa [L6_two] at this
set_option maxRecDepth 100000 in
theorem kids4 (A : Option Addr) (c : Nat) (w : World) (h : NodesAt w w.heap.size A L6) : Calls Try.prog 47 #[.slice A 4 c, .int .i64 3] w (RetRow 3 1 2 (ints [0, 2]) w) := by
  have := kids_any A c L6 3 w h; rwa [L6_kids] at this
set_option maxRecDepth 100000 in
theorem sizes4 (A : Option Addr) (c : Nat) (w : World) (h : NodesAt w w.heap.size A L6) : Calls Try.prog 85 #[.slice A 4 c] w (RetRow 3 1 4 (ints [1, 1, 2, 4]) w) := by
  have := sizes_any A c L6 w h; rwa [L6_sizes] at this
set_option maxRecDepth 100000 in
theorem numbers4 (A : Option Addr) (c : Nat) (w : World) (h : NodesAt w w.heap.size A L6) : Calls Try.prog 53 #[.slice A 4 c] w (RetRow 3 1 4 (ints [0, 0, 1, 0]) w) := by
  have := numbers_any A c L6 w h; rwa [L6_nums] at this
end Go.Proofs.Ytddokdjlmdoebaa

/- AstTells, AstKids, AstNumbers, walked. -/
namespace Go.Proofs.Ytddokdjlmdoebaa
open Go.RowKit SetP AstP
/-- A list that came in: of few nodes it is known what they are. -/
def Came (w : World) (A : Option Addr) (n : Nat) : Prop := n ≤ 60 → ∃ L : List Nd, L.length = n ∧ NodesAt w w.heap.size A L
theorem same_self (l : List Nat) : (l == l) = true := by simp
end Go.Proofs.Ytddokdjlmdoebaa
