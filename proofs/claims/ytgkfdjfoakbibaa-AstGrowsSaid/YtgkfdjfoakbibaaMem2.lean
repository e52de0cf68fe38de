/- More words for memory: across a draw and a call. -/
import Derived.Test.YtgkfdjfoakbibaaMem
namespace Go.Proofs.Ytgkfdjfoakbibaa
open Go.RowKit
theorem Slab.callD {w W w1 : World} {g : Nat} {cs : Array Value} {t : TypeId} (h : Slab w g cs t) (hb : Below W.heap.size W w1) (hh : W.heap = w.heap) : Slab w1 g cs t :=
  Slab.call (show W.heap[g]? = _ by rw [hh]; exact h) hb
theorem below_then {a W w1 : World} (h : Below a.heap.size a W) (hb : Below W.heap.size W w1) : Below a.heap.size a w1 := h.trans (hb.mono h.size)
theorem row_callD {w W w1 : World} {base : Nat} {e : TypeId} {size : Nat} {v : Value} {n : Nat} {xs : List Value} (h : w.ownsRow base e size v n xs) (hb : Below W.heap.size W w1) (hh : W.heap = w.heap) : w1.ownsRow base e size v n xs :=
  row_call (w := W) (by unfold World.ownsRow at h ⊢; rw [hh]; exact h) hb
end Go.Proofs.Ytgkfdjfoakbibaa
