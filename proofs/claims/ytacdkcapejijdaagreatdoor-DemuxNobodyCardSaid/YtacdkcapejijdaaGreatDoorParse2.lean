/- package parse: New, given, Feed, breaks, Broken, Copy; package reply: Plain, end. -/
import Derived.Test.YtacdkcapejijdaaGreatDoorParse1
namespace Go.Proofs.YtacdkcapejijdaaGreatDoor
open Go.RowKit Clo

/-- A parser's block. -/
def parserObj (s : ByteArray) (st : Int) : Obj := .cells #[.bool true, .string s, .int .i64 st] 102 (0, 0)

theorem new_any (w : World) : Calls Tryz.prog 27 #[] w fun e w' => e = .returned (.pointer (some ⟨w.heap.size, 0, none⟩)) ∧ w' = w.alloc (parserObj ⟨#[]⟩ 0) := by
  go_enter Tryz.func27, Tryz.ntmps27
  go_wp2
  go_ret
  exact ⟨rfl, rfl⟩

theorem pgiven_nil (w : World) : Calls Tryz.prog 40 #[.pointer none] w fun e w' => e = .returned (.bool false) ∧ w' = w := by
  go_enter Tryz.func40, Tryz.ntmps40
  go_wp2
  go_ret
  exact ⟨rfl, rfl⟩
theorem pgiven_any (X : Nat) (s : ByteArray) (st : Int) (w : World) (hb : w.heap[X]? = some (parserObj s st)) : Calls Tryz.prog 40 #[.pointer (some ⟨X, 0, none⟩)] w fun e w' => e = .returned (.bool true) ∧ w' = w := by
  have c0 : w.cell? ⟨X, 0, none⟩ = some (.bool true) := by rw [blk_cell hb]; rfl
  clear hb
  go_enter Tryz.func40, Tryz.ntmps40
  go_wp2
  go_ret
  exact ⟨rfl, rfl⟩

def FeedPost (X : Nat) (r : Ps × Int) (w : World) (e : Ending) (w' : World) : Prop :=
  e = .returned (.int .i64 r.2) ∧ w'.heap[X]? = some (parserObj ⟨r.1.s.toArray⟩ r.1.status) ∧ Kpt (fun k => k = X) w w'
theorem bl_append (s t : ByteArray) : bl (s ++ t) = bl s ++ bl t := by
  unfold bl; simp
theorem feed_eq (s t : ByteArray) (st : Int) : feed ⟨bl s, st⟩ (bl t) = if st ≠ 0 then (⟨bl s, st⟩, 80) else if 65536 < s.size + t.size then (⟨bl s, st⟩, 2) else (⟨bl s ++ bl t, st⟩, 0) := rfl
set_option maxHeartbeats 2000000 in
theorem feed_any (X : Nat) (s t : ByteArray) (st : Int) (w : World) (hb : w.heap[X]? = some (parserObj s st)) (hs : s.size ≤ 1073741824) (ht : t.size ≤ 1073741824) :
    Calls Tryz.prog 28 #[.pointer (some ⟨X, 0, none⟩), .string t] w (FeedPost X (feed ⟨bl s, st⟩ (bl t)) w) := by
  obtain ⟨R, hR⟩ : ∃ R, R = feed ⟨bl s, st⟩ (bl t) := ⟨_, rfl⟩
  rw [← hR]
  rw [feed_eq] at hR
  have hg := pgiven_any X s st w hb
  have c1 : w.cell? ⟨X, 1, none⟩ = some (.string s) := by rw [blk_cell hb]; rfl
  have c2 : w.cell? ⟨X, 2, none⟩ = some (.int .i64 st) := by rw [blk_cell hb]; rfl
  have f1 : w.frozen? ⟨X, 1, none⟩ = false := blk_free hb 1
  have HG := Lib.hid hg; have HB := Lib.hid hb; clear hg hb
  by_cases h0 : st = 0
  · have t0 : (st != 0) = false := by rw [h0]; rfl
    rw [if_neg (fun h => h h0)] at hR
    by_cases hbig : 65536 < s.size + t.size
    · rw [if_pos hbig] at hR
      have HR := Lib.hid hR; clear hR h0
      go_enter Tryz.func28, Tryz.ntmps28
      go_wp2_with (go_at_call 40; refine HG.out.mono ?_; rintro e w ⟨rfl, rfl⟩)
      go_ret
      exact ⟨by rw [HR.out]; rfl, by rw [HR.out]; exact HB.out, .refl _ _⟩
    · rw [if_neg hbig] at hR
      have HR := Lib.hid hR; clear hR h0
      go_enter Tryz.func28, Tryz.ntmps28
      go_wp2_with (go_at_call 40; refine HG.out.mono ?_; rintro e w ⟨rfl, rfl⟩)
      go_ret
      refine ⟨by rw [HR.out]; rfl, ?_, (Kpt.refl (fun k => k = X) _).set (p := ⟨X, 1, none⟩) (fun _ => rfl) _⟩
      rw [HR.out]
      have h := heap_set HB.out 1 (.string (s ++ t))
      have e : (⟨(bl s ++ bl t).toArray⟩ : ByteArray) = s ++ t := bl_inj (by rw [bl_append]; rfl)
      show _ = some (parserObj ⟨(bl s ++ bl t).toArray⟩ st)
      rw [e]; exact h
  · have t0 : (st != 0) = true := by simpa using h0
    rw [if_pos h0] at hR
    have HR := Lib.hid hR; clear hR h0
    go_enter Tryz.func28, Tryz.ntmps28
    go_wp2_with (go_at_call 40; refine HG.out.mono ?_; rintro e w ⟨rfl, rfl⟩)
    go_ret
    exact ⟨by rw [HR.out]; rfl, by rw [HR.out]; exact HB.out, .refl _ _⟩

set_option maxHeartbeats 2000000 in
theorem broken_any (X : Nat) (s : ByteArray) (st : Int) (w : World) (hb : w.heap[X]? = some (parserObj s st)) :
    Calls Tryz.prog 42 #[.pointer (some ⟨X, 0, none⟩)] w fun e w' => e = .returned (.int .i64 st) ∧ w' = w := by
  have hg := pgiven_any X s st w hb
  have c2 : w.cell? ⟨X, 2, none⟩ = some (.int .i64 st) := by rw [blk_cell hb]; rfl
  have HG := Lib.hid hg; clear hg hb
  go_enter Tryz.func42, Tryz.ntmps42
  go_wp2_with (go_at_call 40; refine HG.out.mono ?_; rintro e w ⟨rfl, rfl⟩)
  go_ret
  exact ⟨rfl, rfl⟩

set_option maxHeartbeats 2000000 in
theorem end_any (c : Bool) (w : World) : Calls Tryz.prog 66 #[.bool c] w fun e w' => e = .returned (.string ⟨(endW c).toArray⟩) ∧ w' = w := by
  cases c
  all_goals
    go_enter Tryz.func66, Tryz.ntmps66
    go_wp2
    go_ret
    exact ⟨rfl, rfl⟩

theorem plain_any (st : Int) (t : ByteArray) (c : Bool) (w : World) : Calls Tryz.prog 30 #[.int .i64 st, .string t, .bool c] w fun e w' => e = .returned (.agg #[.int .i64 st, .slice none 0 0, .string t, .bool c]) ∧ Below w.heap.size w w' := by
  go_enter Tryz.func30, Tryz.ntmps30
  go_wp2
  refine bodyPost_ret (results_cell_row rfl _ _ w.heap.size 41 #[.int .i64 st, .slice none 0 0, .string t, .bool c] (0, 0) _ rfl (heap_alloc_new _ _) Tryz.underlying41 rfl (by kernel_rfl)) rfl ?_
  exact ⟨rfl, (Below.refl _ _).alloc (Nat.le_refl _) _⟩

theorem alloc_at (w : World) (o : Obj) (n : Nat) (h : w.heap.size = n) : (w.alloc o).heap[n]? = some o := by subst h; exact heap_alloc_new w o
def rqZero : Array Value := #[.string ⟨#[]⟩, .string ⟨#[]⟩, .int .i64 0, .slice none 0 0, .string ⟨#[]⟩, .slice none 0 0, .string ⟨#[]⟩, .bool false]
def BreaksPost (X : Nat) (st : Int) (w : World) (e : Ending) (w' : World) : Prop :=
  e = .returned (.tuple #[.agg rqZero, .bool false, .int .i64 st]) ∧ w'.heap[X]? = some (parserObj ⟨#[]⟩ st) ∧ Kpt (fun k => k = X) w w'
set_option maxHeartbeats 2000000 in
theorem breaks_any (X : Nat) (s : ByteArray) (st0 st : Int) (w : World) (hb : w.heap[X]? = some (parserObj s st0)) :
    Calls Tryz.prog 44 #[.pointer (some ⟨X, 0, none⟩), .int .i64 st] w (BreaksPost X st w) := by
  have hlt := lt_of_blk hb
  have hne : X ≠ w.heap.size := by omega
  have c1 : w.cell? ⟨X, 1, none⟩ = some (.string s) := by rw [blk_cell hb]; rfl
  have c2 : w.cell? ⟨X, 2, none⟩ = some (.int .i64 st0) := by rw [blk_cell hb]; rfl
  have f1 : w.frozen? ⟨X, 1, none⟩ = false := blk_free hb 1
  have f2 : w.frozen? ⟨X, 2, none⟩ = false := blk_free hb 2
  have HB := Lib.hid hb; clear hb
  go_enter Tryz.func44, Tryz.ntmps44
  go_wp2
  refine bodyPost_ret (results_cell_row3 rfl _ _ w.heap.size 35 rqZero (0, 0) _ rfl ?hb Tryz.underlying35 rfl (by kernel_rfl)) rfl ?_
  case hb => exact alloc_at _ _ _ (by simp [World.setCell])
  refine ⟨rfl, ?_, ?_⟩
  · rw [Lib.alloc_old _ _ _ (by simp [World.setCell]; exact hlt)]
    exact heap_set (heap_set HB.out 1 _) 2 _
  · exact (((Kpt.refl (fun k => k = X) w).set (p := ⟨X, 1, none⟩) (fun _ => rfl) _).set (p := ⟨X, 2, none⟩) (fun _ => rfl) _).alloc _

set_option maxHeartbeats 2000000 in
theorem pcopy_any (X : Nat) (s : ByteArray) (st : Int) (w : World) (hb : w.heap[X]? = some (parserObj s st)) :
    Calls Tryz.prog 39 #[.pointer (some ⟨X, 0, none⟩)] w fun e w' => e = .returned (.pointer (some ⟨w.heap.size, 0, none⟩)) ∧ w' = w.alloc (parserObj s st) := by
  have hg := pgiven_any X s st w hb
  have c0 : w.cell? ⟨X, 0, none⟩ = some (.bool true) := by rw [blk_cell hb]; rfl
  have c1 : w.cell? ⟨X, 1, none⟩ = some (.string s) := by rw [blk_cell hb]; rfl
  have c2 : w.cell? ⟨X, 2, none⟩ = some (.int .i64 st) := by rw [blk_cell hb]; rfl
  have HG := Lib.hid hg; clear hg hb
  go_enter Tryz.func39, Tryz.ntmps39
  go_wp2_with (go_at_call 40; refine HG.out.mono ?_; rintro e w ⟨rfl, rfl⟩)
  go_ret
  exact ⟨rfl, rfl⟩
end Go.Proofs.YtacdkcapejijdaaGreatDoor
