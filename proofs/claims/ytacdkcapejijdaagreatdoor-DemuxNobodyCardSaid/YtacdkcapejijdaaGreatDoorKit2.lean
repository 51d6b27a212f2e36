/- More small words. -/
import Derived.Test.YtacdkcapejijdaaGreatDoorKit
import Derived.Lib.LaidTab
import Derived.Lib.ItoaMem
namespace Go.Proofs.YtacdkcapejijdaaGreatDoor
open Go.RowKit

theorem bl_extract (s : ByteArray) (a b : Nat) : bl (s.extract a b) = ((bl s).drop a).take (b - a) := by
  unfold bl; rw [Lib.extract_eq]
theorem bl_drop (s : ByteArray) (a : Nat) : bl (s.extract a s.size) = (bl s).drop a := by
  rw [bl_extract, List.take_of_length_le (by simp [bl])]
theorem bl_take (s : ByteArray) (b : Nat) : bl (s.extract 0 b) = (bl s).take b := by
  rw [bl_extract]; simp
theorem size_extract (s : ByteArray) (a b : Nat) : (s.extract a b).size = min b s.size - a := by
  have := congrArg List.length (bl_extract s a b)
  rw [bl_length, List.length_take, List.length_drop, bl_length] at this
  omega

/-! ### the library's variables that the walks read -/
structure Env (w : World) : Prop where
  mx : ∃ m : Int, w.cell? ⟨0, 0, none⟩ = some (.int .i64 m)
  pow : Lib.TabIs Tryz.prog w "internal/strconv.uint64pow10" .u64 Lib.pow10Tab
def envB : Nat := 3 + 1
theorem globPow : Tryz.prog.globalNamed "internal/strconv.uint64pow10" = some 3 := by kernel_rfl
theorem Env.keep {w w' : World} (h : Env w) (hk : ∀ g, g < envB → w'.heap[g]? = w.heap[g]?) : Env w' := by
  obtain ⟨⟨m, hm⟩, hp⟩ := h
  refine ⟨⟨m, by rw [World.cell?_of_block (w := w) (hk 0 (by decide))]; exact hm⟩, ?_⟩
  unfold Lib.TabIs World.var? at hp ⊢
  rw [globPow] at hp ⊢
  simp only [Option.bind_some] at hp ⊢
  rw [hk _ (by decide)]
  exact hp
theorem Env.size {w : World} (h : Env w) : envB ≤ w.heap.size := by
  obtain ⟨_, hp⟩ := h
  unfold Lib.TabIs World.var? at hp
  rw [globPow] at hp
  simp only [Option.bind_some] at hp
  rcases Nat.lt_or_ge 3 w.heap.size with h' | h'
  · exact h'
  · rw [Array.getElem?_eq_none h'] at hp; cases hp
theorem Env.belowB {B : Nat} {w w' : World} (h : Env w) (hb : Below B w w') (hB : envB ≤ B) : Env w' := h.keep fun g hg => hb.block g (by omega)
theorem Env.below {w w' : World} (h : Env w) (hb : Below w.heap.size w w') : Env w' := h.belowB hb h.size
theorem Env.drewN {w : World} (h : Env w) (n : Nat) : Env (w.drewN n) := h.keep fun _ _ => rfl
theorem Env.alloc {w : World} (h : Env w) (o : Obj) : Env (w.alloc o) := h.below ((Below.refl _ _).alloc (Nat.le_refl _) _)

theorem lt_of_blk {w : World} {b : Nat} {o : Obj} (h : w.heap[b]? = some o) : b < w.heap.size := by
  rcases Nat.lt_or_ge b w.heap.size with h' | h'
  · exact h'
  · simp [Array.getElem?_eq_none h'] at h
theorem heap_set {w : World} {b : Nat} {cs : Array Value} {T : TypeId} (h : w.heap[b]? = some (.cells cs T (0, 0))) (i : Nat) (u : Value) : (w.setCell ⟨b, i, none⟩ u).heap[b]? = some (.cells (cs.setIfInBounds i u) T (0, 0)) := by
  simp [World.setCell, Array.getElem?_modify, h]
theorem heap_set1 {w : World} {b : Nat} {v : Value} {T : TypeId} (h : w.heap[b]? = some (.cells #[v] T (0, 0))) (u : Value) : (w.setCell ⟨b, 0, none⟩ u).heap[b]? = some (.cells #[u] T (0, 0)) := heap_set h 0 u
theorem heap_set_ne {w : World} {a : Addr} {b : Nat} (h : b ≠ a.block) (u : Value) : (w.setCell a u).heap[b]? = w.heap[b]? := Below.heap_setCell _ _ _ _ h
theorem blk_cell {w : World} {b : Nat} {cs : Array Value} {T : TypeId} {fr : Nat × Nat} (h : w.heap[b]? = some (.cells cs T fr)) (i : Nat) : w.cell? ⟨b, i, none⟩ = cs[i]? := Lib.cell_of_heap h i
theorem blk_free {w : World} {b : Nat} {cs : Array Value} {T : TypeId} (h : w.heap[b]? = some (.cells cs T (0, 0))) (i : Nat) : w.frozen? ⟨b, i, none⟩ = false := Lib.frozen_of_heap h i
theorem OwnPairs.set {w : World} {B : Nat} {v : Value} {l : List (List UInt8 × List UInt8)} (h : OwnPairs w B v l) {a : Addr} (ha : a.block < B) (u : Value) : OwnPairs (w.setCell a u) B v l := ⟨ownsRow_setCell_below h.1 ha u, h.2⟩
theorem OwnPairs.len {w : World} {B : Nat} {v : Value} {l : List (List UInt8 × List UInt8)} (h : OwnPairs w B v l) : ∃ ao cap, v = .slice ao l.length cap := by
  rcases h.1.2 with ⟨rfl, h0⟩ | ⟨g, cap, cur, rfl, _⟩
  · exact ⟨none, 0, by rw [h0]⟩
  · exact ⟨_, _, rfl⟩
theorem below_drewN_ {B : Nat} {a w : World} (h : Below B a w) (n : Nat) : Below B a (w.drewN n) := ⟨h.os, h.tape, h.output, h.size, h.block⟩

end Go.Proofs.YtacdkcapejijdaaGreatDoor
