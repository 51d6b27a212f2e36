/- Small words for the walks of this claim: equations of endings, worlds. -/
import Derived.Test.YtacdkcapejijdaaGreatDoorProg
import Derived.WalkKit
import Derived.KernelRfl
import Derived.WalkSpells
import Derived.WalkLawsBesides
import Derived.Lib.Hide
import Derived.Lib.Buffer
import Derived.Lib.Slices
import Derived.Lib.AppendStr
import Derived.Lib.Bytes
import Derived.Lib.SlicesS
namespace Go.Proofs.YtacdkcapejijdaaGreatDoor
open Go.RowKit

theorem ret_bool {a b : Bool} (h : a = b) : Ending.returned (.bool a) = .returned (.bool b) := by rw [h]
theorem ret_int {k : IntKind} {a b : Int} (h : a = b) : Ending.returned (.int k a) = .returned (.int k b) := by rw [h]
theorem ret_str {a b : ByteArray} (h : a = b) : Ending.returned (.string a) = .returned (.string b) := by rw [h]
/-- A string's bytes, as a list. -/
def bl (s : ByteArray) : List UInt8 := s.data.toList

theorem bl_mk (l : List UInt8) : bl ⟨l.toArray⟩ = l := rfl
theorem ret_strL {a : ByteArray} {l : List UInt8} (h : bl a = l) : Ending.returned (.string a) = .returned (.string ⟨l.toArray⟩) := by
  subst h; rfl

/-- A returned string gets a letter, its bytes an equation. -/
theorem str_of (l : List UInt8) : ∃ r : ByteArray, (⟨l.toArray⟩ : ByteArray) = r ∧ bl r = l := ⟨_, rfl, rfl⟩
theorem mk_bl (s : ByteArray) : (⟨s.data.toList.toArray⟩ : ByteArray) = s := rfl
theorem bl_eq (s : ByteArray) : s.data.toList = bl s := rfl
theorem mk_bl' (s : ByteArray) : (⟨(bl s).toArray⟩ : ByteArray) = s := rfl
theorem bl_inj {a b : ByteArray} (h : bl a = bl b) : a = b := by
  cases a; cases b; simp only [ByteArray.mk.injEq]; exact Array.toList_inj.1 h
theorem bl_length (s : ByteArray) : (bl s).length = s.size := rfl

theorem take_snoc_bl (s : ByteArray) (k : Nat) (h : k < s.size) : (bl s).take (k + 1) = (bl s).take k ++ [s[k]] := by
  rw [List.take_succ_eq_append_getElem (by simpa [bl] using h)]; rfl
theorem bl_get (s : ByteArray) (k : Nat) (h : k < s.size) : (bl s)[k]'(by simpa [bl] using h) = s[k] := rfl
theorem all_false {p : UInt8 → Bool} {s : ByteArray} {k : Nat} (h : k < s.size) (hp : p s[k] = false) : (bl s).all p = false := by
  rw [List.all_eq_false]
  exact ⟨s[k], by rw [← bl_get s k h]; exact List.getElem_mem _, by simp [hp]⟩
theorem all_done {p : UInt8 → Bool} {s : ByteArray} {k : Nat} (h : s.size ≤ k) (ha : ((bl s).take k).all p = true) : (bl s).all p = true := by
  rwa [List.take_of_length_le (by simpa [bl] using h)] at ha

theorem toList_bl (s : ByteArray) : s.toList = bl s := Lib.toList_data s
theorem beq_bl (a b : ByteArray) : (a.toList == b.toList) = decide (bl a = bl b) := by
  rw [toList_bl, toList_bl, Bool.eq_iff_iff, beq_iff_eq, decide_eq_true_iff]
theorem beq_true {a b : ByteArray} (h : (a.toList == b.toList) = true) : bl a = bl b := by simpa [beq_bl] using h
theorem beq_false {a b : ByteArray} (h : (a.toList == b.toList) = false) : bl a ≠ bl b := by simpa [beq_bl] using h

theorem u8_beq (c d : UInt8) : ((c.toNat : Int) == (d.toNat : Int)) = decide (c = d) := by
  rw [Bool.eq_iff_iff, beq_iff_eq, decide_eq_true_iff]
  exact ⟨fun h => UInt8.toNat_inj.1 (by omega), fun h => by rw [h]⟩
theorem u8_yes {c d : UInt8} (h : c = d) : ((c.toNat : Int) == (d.toNat : Int)) = true := by rw [u8_beq]; simp [h]
theorem u8_no {c d : UInt8} (h : c ≠ d) : ((c.toNat : Int) == (d.toNat : Int)) = false := by rw [u8_beq]; simp [h]

theorem cell_set_same {w : World} {a : Addr} {u : Value} (h : w.cell? a = some u) (v : Value) : (w.setCell a v).cell? a = some v := by
  first | exact World.cell?_setCell_same _ _ _ h | exact World.cell?_setCell_same _ _ h | exact World.cell?_setCell_same _ h | exact World.cell?_setCell_same h
theorem cell_set_ne {w : World} {a b : Addr} (h : a ≠ b) (v : Value) : (w.setCell a v).cell? b = w.cell? b := by
  first | exact World.cell?_setCell_other _ _ _ _ h | exact World.cell?_setCell_other _ _ _ h | exact World.cell?_setCell_other _ _ h | exact World.cell?_setCell_other _ h | exact World.cell?_setCell_other h

/-! ### slices of pairs of texts -/
/-- v is a slice of pairs (two cells each) that reads as l. -/
def PairsAt (w : World) (v : Value) (l : List (List UInt8 × List UInt8)) : Prop :=
  ∃ (ad : Option Addr) (cap : Nat), v = .slice ad l.length cap ∧ l.length ≤ cap ∧ l.length ≤ 140737488355328 ∧
    (l ≠ [] → ∃ g off, ad = some ⟨g, off, none⟩ ∧ ∀ i, i < l.length → w.cell? ⟨g, off + i * 2, none⟩ = some (.string ⟨((l.getD i ([], [])).1).toArray⟩) ∧ w.cell? ⟨g, off + i * 2 + 1, none⟩ = some (.string ⟨((l.getD i ([], [])).2).toArray⟩))

theorem PairsAt.nil (w : World) : PairsAt w (.slice none 0 0) [] := ⟨none, 0, rfl, by simp, by simp, fun h => absurd rfl h⟩

theorem lt_of_cell {w : World} {g o : Nat} {v : Value} (h : w.cell? ⟨g, o, none⟩ = some v) : g < w.heap.size := by
  rcases Nat.lt_or_ge g w.heap.size with h' | h'
  · exact h'
  · simp [World.cell?, Array.getElem?_eq_none h'] at h

/-- The block of a slice's cells. -/
def blkOf : Value → Option Nat
  | .slice (some a) _ _ => some a.block
  | _ => none

theorem PairsAt.kept {w w' : World} {v : Value} {l : List (List UInt8 × List UInt8)} (h : PairsAt w v l) (hk : ∀ g, blkOf v = some g → g < w.heap.size → w'.heap[g]? = w.heap[g]?) : PairsAt w' v l := by
  obtain ⟨ad, cap, rfl, hc, hb, hr⟩ := h
  refine ⟨ad, cap, rfl, hc, hb, fun hne => ?_⟩
  obtain ⟨g, off, rfl, hr2⟩ := hr hne
  refine ⟨g, off, rfl, fun i hi => ?_⟩
  obtain ⟨h1, h2⟩ := hr2 i hi
  have hg := hk g rfl (lt_of_cell h1)
  exact ⟨by rw [World.cell?_of_block (w := w) hg]; exact h1, by rw [World.cell?_of_block (w := w) hg]; exact h2⟩

theorem PairsAt.below {w w' : World} {v : Value} {l : List (List UInt8 × List UInt8)} (h : PairsAt w v l) (hb : Below w.heap.size w w') : PairsAt w' v l :=
  h.kept fun g _ hg => hb.block g hg

/-! ### slices of texts -/
def StrsAt (w : World) (v : Value) (l : List (List UInt8)) : Prop :=
  ∃ (ad : Option Addr) (cap : Nat), v = .slice ad l.length cap ∧ l.length ≤ cap ∧ l.length ≤ 140737488355328 ∧
    (l ≠ [] → ∃ g off, ad = some ⟨g, off, none⟩ ∧ ∀ i, i < l.length → w.cell? ⟨g, off + i, none⟩ = some (.string ⟨(l.getD i []).toArray⟩))
theorem StrsAt.kept {w w' : World} {v : Value} {l : List (List UInt8)} (h : StrsAt w v l) (hk : ∀ g, blkOf v = some g → g < w.heap.size → w'.heap[g]? = w.heap[g]?) : StrsAt w' v l := by
  obtain ⟨ad, cap, rfl, hc, hb, hr⟩ := h
  refine ⟨ad, cap, rfl, hc, hb, fun hne => ?_⟩
  obtain ⟨g, off, rfl, hr2⟩ := hr hne
  refine ⟨g, off, rfl, fun i hi => ?_⟩
  have h1 := hr2 i hi
  have hg := hk g rfl (lt_of_cell h1)
  rw [World.cell?_of_block (w := w) hg]; exact h1
theorem StrsAt.below {w w' : World} {v : Value} {l : List (List UInt8)} (h : StrsAt w v l) (hb : Below w.heap.size w w') : StrsAt w' v l :=
  h.kept fun g _ hg => hb.block g hg

def strCs (l : List (List UInt8)) : List Value := l.map fun s => .string ⟨s.toArray⟩
def OwnStrs (w : World) (B : Nat) (v : Value) (l : List (List UInt8)) : Prop := w.ownsRow B 9 1 v l.length (strCs l) ∧ l.length ≤ 140737488355328
theorem OwnStrs.at {w : World} {B : Nat} {v : Value} {l : List (List UInt8)} (h : OwnStrs w B v l) : StrsAt w v l := by
  obtain ⟨h, hlen⟩ := h
  rcases h.2 with ⟨rfl, h0⟩ | ⟨g, cap, cur, rfl, hB, hg, hnc, hcm, hcs, htk⟩
  · have : l = [] := List.length_eq_zero_iff.1 h0
    subst this
    exact ⟨none, 0, rfl, by simp, by simp, fun h => absurd rfl h⟩
  · refine ⟨_, cap, rfl, hnc, hlen, fun _ => ⟨g, 0, rfl, fun i hi => ?_⟩⟩
    have := h.cells (g := g) rfl i (.string ⟨(l.getD i []).toArray⟩) (by simp [strCs, List.getD, hi])
    rw [Lib.addr_add] at this
    simpa using this
theorem OwnStrs.nil (w : World) (B : Nat) : OwnStrs w B (.slice none 0 0) [] := ⟨World.ownsRow_nil _ _ _ _, by simp⟩
theorem OwnStrs.keep {w w' : World} {B : Nat} {v : Value} {l : List (List UInt8)} (h : OwnStrs w B v l) (hb : Below w.heap.size w w') : OwnStrs w' B v l :=
  ⟨h.1.kept (row := none) ⟨hb.os, hb.tape, hb.output, hb.size, fun k hk _ => hb.block k hk⟩ (by cases hv : v.ownBlock with | none => exact .inl rfl | some g => exact .inr (by simp)), h.2⟩

/-! ### pairs of the call's own -/
def pairCs (l : List (List UInt8 × List UInt8)) : List Value := l.flatMap fun p => [.string ⟨p.1.toArray⟩, .string ⟨p.2.toArray⟩]
theorem pairCs_length (l : List (List UInt8 × List UInt8)) : (pairCs l).length = l.length * 2 := by
  induction l with
  | nil => rfl
  | cons p l ih => simp [pairCs] at ih ⊢; omega
theorem pairCs_get (l : List (List UInt8 × List UInt8)) : ∀ i, i < l.length → (pairCs l)[i * 2]? = some (.string ⟨((l.getD i ([], [])).1).toArray⟩) ∧ (pairCs l)[i * 2 + 1]? = some (.string ⟨((l.getD i ([], [])).2).toArray⟩) := by
  induction l with
  | nil => intro i h; simp at h
  | cons p l ih =>
    intro i h
    cases i with
    | zero => simp [pairCs, List.getD]
    | succ i =>
      have := ih i (by simpa using h)
      have e1 : (i + 1) * 2 = i * 2 + 1 + 1 := by omega
      simp only [e1, pairCs, List.flatMap_cons, List.cons_append, List.nil_append, List.getElem?_cons_succ, List.getD_cons_succ] at this ⊢
      exact this
theorem pairCs_snoc (l : List (List UInt8 × List UInt8)) (a b : List UInt8) : pairCs l ++ [.string ⟨a.toArray⟩, .string ⟨b.toArray⟩] = pairCs (l ++ [(a, b)]) := by simp [pairCs]
def OwnPairs (w : World) (B : Nat) (v : Value) (l : List (List UInt8 × List UInt8)) : Prop := w.ownsRow B 90 2 v l.length (pairCs l) ∧ l.length ≤ 140737488355328
theorem OwnPairs.nil (w : World) (B : Nat) : OwnPairs w B (.slice none 0 0) [] := ⟨World.ownsRow_nil _ _ _ _, by simp⟩
theorem OwnPairs.at {w : World} {B : Nat} {v : Value} {l : List (List UInt8 × List UInt8)} (h : OwnPairs w B v l) : PairsAt w v l := by
  obtain ⟨h, hlen⟩ := h
  rcases h.2 with ⟨rfl, h0⟩ | ⟨g, cap, cur, rfl, hB, hg, hnc, hcm, hcs, htk⟩
  · have : l = [] := List.length_eq_zero_iff.1 h0
    subst this
    exact PairsAt.nil _
  · refine ⟨_, cap, rfl, hnc, hlen, fun _ => ⟨g, 0, rfl, fun i hi => ?_⟩⟩
    obtain ⟨g1, g2⟩ := pairCs_get l i hi
    have c1 := h.cells (g := g) rfl _ _ g1
    have c2 := h.cells (g := g) rfl _ _ g2
    constructor
    · rw [Lib.addr_add] at c1; simpa using c1
    · rw [Lib.addr_add] at c2; simpa [Nat.add_assoc] using c2
theorem OwnPairs.keep {w w' : World} {B : Nat} {v : Value} {l : List (List UInt8 × List UInt8)} (h : OwnPairs w B v l) (hb : Below w.heap.size w w') : OwnPairs w' B v l :=
  ⟨h.1.kept (row := none) ⟨hb.os, hb.tape, hb.output, hb.size, fun k hk _ => hb.block k hk⟩ (by cases hv : v.ownBlock with | none => exact .inl rfl | some g => exact .inr (by simp)), h.2⟩

theorem bcell {W w1 : World} (hb : Below W.heap.size W w1) : (∀ b o, b < W.heap.size → w1.cell? ⟨b, o, none⟩ = W.cell? ⟨b, o, none⟩) ∧ (∀ b o, b < W.heap.size → w1.frozen? ⟨b, o, none⟩ = W.frozen? ⟨b, o, none⟩) :=
  ⟨fun b o h => hb.cell (p := ⟨b, o, none⟩) h, fun b o h => hb.frozen (p := ⟨b, o, none⟩) h⟩

theorem Tryz.infoString : (Tryz.prog.info? 9).map (fun i => (i.zero, i.size, i.bytes)) = some (some (.string ⟨#[]⟩), 1, 16) := by kernel_rfl
theorem Tryz.infoPair : (Tryz.prog.info? 90).map (fun i => (i.zero, i.size, i.bytes)) = some (some (.agg #[.string ⟨#[]⟩, .string ⟨#[]⟩]), 2, 32) := by kernel_rfl

end Go.Proofs.YtacdkcapejijdaaGreatDoor
