/- What stays when some blocks of the call's own are written. -/
import Derived.Test.YtacdkcapejijdaaGreatDoorKit3
namespace Go.Proofs.YtacdkcapejijdaaGreatDoor
open Go.RowKit

/-- All blocks that were there, but for those of S, are as they were. -/
structure Kpt (S : Nat → Prop) (w w' : World) : Prop where
  os : w'.os = w.os
  tape : w'.tape = w.tape
  output : w'.output = w.output
  size : w.heap.size ≤ w'.heap.size
  block : ∀ k, k < w.heap.size → ¬ S k → w'.heap[k]? = w.heap[k]?

theorem Kpt.refl (S : Nat → Prop) (w : World) : Kpt S w w := ⟨rfl, rfl, rfl, Nat.le_refl _, fun _ _ _ => rfl⟩
theorem Kpt.trans {S : Nat → Prop} {a b c : World} (h : Kpt S a b) (k : Kpt S b c) : Kpt S a c :=
  ⟨k.os.trans h.os, k.tape.trans h.tape, k.output.trans h.output, Nat.le_trans h.size k.size, fun i hi hs => (k.block i (Nat.lt_of_lt_of_le hi h.size) hs).trans (h.block i hi hs)⟩
theorem Kpt.mono {S S' : Nat → Prop} {w w' : World} (h : Kpt S w w') (hs : ∀ k, k < w.heap.size → S k → S' k) : Kpt S' w w' :=
  ⟨h.os, h.tape, h.output, h.size, fun k hk hn => h.block k hk fun hx => hn (hs k hk hx)⟩
theorem Kpt.of {S : Nat → Prop} {w w' : World} (h : Below w.heap.size w w') : Kpt S w w' := ⟨h.os, h.tape, h.output, h.size, fun k hk _ => h.block k hk⟩
theorem Kpt.below {S : Nat → Prop} {a w w' : World} (h : Kpt S a w) (hb : Below w.heap.size w w') : Kpt S a w' := h.trans (.of hb)
theorem Kpt.alloc {S : Nat → Prop} {a w : World} (h : Kpt S a w) (o : Obj) : Kpt S a (w.alloc o) := h.below ((Below.refl _ _).alloc (Nat.le_refl _) _)
theorem Kpt.drew {S : Nat → Prop} {a w : World} (h : Kpt S a w) : Kpt S a w.drew := ⟨h.os, h.tape, h.output, h.size, h.block⟩
theorem Kpt.drewN {S : Nat → Prop} {a w : World} (h : Kpt S a w) (n : Nat) : Kpt S a (w.drewN n) := ⟨h.os, h.tape, h.output, h.size, h.block⟩
theorem Kpt.set {S : Nat → Prop} {a w : World} (h : Kpt S a w) {p : Addr} (hp : p.block < a.heap.size → S p.block) (u : Value) : Kpt S a (w.setCell p u) :=
  ⟨h.os, h.tape, h.output, by simp [World.setCell]; exact h.size, fun k hk hn => by
    rw [heap_set_ne (fun e => hn (by rw [e]; exact hp (by rw [← e]; exact hk)))]; exact h.block k hk hn⟩
theorem Kpt.grown {S : Nat → Prop} {a w w' : World} {row : Option Nat} (h : Kpt S a w) (hg : w.grownBy w' row) (hr : ∀ k, row = some k → k < a.heap.size → S k) : Kpt S a w' :=
  ⟨hg.os.trans h.os, hg.tape.trans h.tape, hg.output.trans h.output, Nat.le_trans h.size hg.size, fun k hk hn => by
    rw [hg.block k (Nat.lt_of_lt_of_le hk h.size) (fun e => hn (hr k e.symm hk))]; exact h.block k hk hn⟩
theorem Kpt.toBelow {S : Nat → Prop} {B : Nat} {w w' : World} (h : Kpt S w w') (hB : B ≤ w.heap.size) (hs : ∀ k, S k → B ≤ k) : Below B w w' :=
  ⟨h.os, h.tape, h.output, h.size, fun k hk => h.block k (by omega) fun hx => by have := hs k hx; omega⟩
theorem Env.kpt {S : Nat → Prop} {w w' : World} (h : Env w) (hk : Kpt S w w') (hs : ∀ k, S k → envB ≤ k) : Env w' := h.belowB (hk.toBelow h.size hs) (Nat.le_refl _)
theorem OwnPairs.kpt {S : Nat → Prop} {w w' : World} {B : Nat} {v : Value} {l : List (List UInt8 × List UInt8)} (h : OwnPairs w B v l) (hk : Kpt S w w') (hs : ∀ g, v.ownBlock = some g → ¬ S g) : OwnPairs w' B v l := by
  obtain ⟨h1, h2⟩ := h
  refine ⟨?_, h2⟩
  obtain ⟨h3, h4⟩ := h1
  refine ⟨h3, ?_⟩
  rcases h4 with h4 | ⟨g, cap, cur, hv, hg, hb, r⟩
  · exact .inl h4
  · refine .inr ⟨g, cap, cur, hv, hg, ?_, r⟩
    rw [hk.block g (lt_of_blk hb) (hs g (by rw [hv]; rfl))]; exact hb
end Go.Proofs.YtacdkcapejijdaaGreatDoor
