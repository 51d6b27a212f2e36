/- More small words, the third. -/
import Derived.Test.YtacdkcapejijdaaGreatDoorKit2
namespace Go.Proofs.YtacdkcapejijdaaGreatDoor
open Go.RowKit
theorem OwnPairs.setNe {w : World} {B : Nat} {v : Value} {l : List (List UInt8 × List UInt8)} (h : OwnPairs w B v l) {a : Addr} (hne : v.ownBlock ≠ some a.block) (u : Value) : OwnPairs (w.setCell a u) B v l :=
  ⟨h.1.kept (row := some a.block) ⟨rfl, rfl, rfl, by simp [World.setCell], fun k _ hk => Below.heap_setCell _ _ _ _ (fun e => hk (by simp [e]))⟩ (.inr hne), h.2⟩
theorem OwnPairs.ne {w : World} {B : Nat} {v : Value} {l : List (List UInt8 × List UInt8)} (h : OwnPairs w B v l) {g : Nat} (hg : g < B ∨ w.heap.size ≤ g) : v.ownBlock ≠ some g := fun e => by
  have := h.1.lt _ e; omega
end Go.Proofs.YtacdkcapejijdaaGreatDoor
