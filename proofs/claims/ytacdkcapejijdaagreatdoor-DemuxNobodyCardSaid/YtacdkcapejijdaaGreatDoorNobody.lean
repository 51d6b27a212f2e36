/- package demux: what connections that nobody made answer. -/
import Derived.Test.YtacdkcapejijdaaGreatDoorSame2
namespace Go.Proofs.YtacdkcapejijdaaGreatDoor
open Go.RowKit Go.Maps Go.WideMaps Clo

def Quiet1 (v : Value) (w : World) (e : Ending) (w' : World) : Prop := e = .returned v ∧ w' = w
set_option maxHeartbeats 4000000 in
set_option maxRecDepth 100000 in
theorem nobody_arrive (p : Value) (i : Int) (s : ByteArray) (w : World) (hg : GivenIs p false w) : Calls Tryz.prog 9 #[p, .int .i64 i, .string s] w (Quiet1 (.int .i64 1) w) := by
  have HIS := Lib.hid (is_any p false i w hg)
  clear hg
  go_enter Tryz.func9, Tryz.ntmps9
  go_wp2_with (go_at_call 26; refine HIS.out.mono ?_; rintro e wE ⟨rfl, hwE⟩; rw [hwE]; clear hwE wE)
  go_ret
  exact ⟨rfl, rfl⟩
set_option maxHeartbeats 4000000 in
set_option maxRecDepth 100000 in
theorem nobody_shut (p : Value) (i : Int) (w : World) (hg : GivenIs p false w) : Calls Tryz.prog 18 #[p, .int .i64 i] w (Quiet1 (.int .i64 1) w) := by
  have HIS := Lib.hid (is_any p false i w hg)
  clear hg
  go_enter Tryz.func18, Tryz.ntmps18
  go_wp2_with (go_at_call 26; refine HIS.out.mono ?_; rintro e wE ⟨rfl, hwE⟩; rw [hwE]; clear hwE wE)
  go_ret
  exact ⟨rfl, rfl⟩
set_option maxHeartbeats 4000000 in
set_option maxRecDepth 100000 in
theorem nobody_bind (p : Value) (s : ByteArray) (u : Int) (w : World) (hg : GivenIs p false w) : Calls Tryz.prog 8 #[p, .string s, .int .i64 u] w (Quiet1 (.int .i64 1) w) := by
  have HG := Lib.hid hg
  clear hg
  go_enter Tryz.func8, Tryz.ntmps8
  go_wp2_with (go_at_call 25; refine HG.out.mono ?_; rintro e wE ⟨rfl, hwE⟩; rw [hwE]; clear hwE wE)
  go_ret
  exact ⟨rfl, rfl⟩
set_option maxHeartbeats 4000000 in
set_option maxRecDepth 100000 in
theorem nobody_free (p : Value) (s : ByteArray) (w : World) (hg : GivenIs p false w) : Calls Tryz.prog 15 #[p, .string s] w (Quiet1 (.int .i64 1) w) := by
  have HG := Lib.hid hg
  clear hg
  go_enter Tryz.func15, Tryz.ntmps15
  go_wp2_with (go_at_call 25; refine HG.out.mono ?_; rintro e wE ⟨rfl, hwE⟩; rw [hwE]; clear hwE wE)
  go_ret
  exact ⟨rfl, rfl⟩
set_option maxHeartbeats 4000000 in
set_option maxRecDepth 100000 in
theorem nobody_user (p : Value) (i : Int) (w : World) (hg : GivenIs p false w) : Calls Tryz.prog 16 #[p, .int .i64 i] w (Quiet1 (.int .i64 (-1)) w) := by
  have HIS := Lib.hid (is_any p false i w hg)
  clear hg
  go_enter Tryz.func16, Tryz.ntmps16
  go_wp2_with (go_at_call 26; refine HIS.out.mono ?_; rintro e wE ⟨rfl, hwE⟩; rw [hwE]; clear hwE wE)
  go_ret
  exact ⟨rfl, rfl⟩
set_option maxHeartbeats 4000000 in
set_option maxRecDepth 100000 in
theorem nobody_open (p : Value) (i : Int) (w : World) (hg : GivenIs p false w) : Calls Tryz.prog 22 #[p, .int .i64 i] w (Quiet1 (.bool false) w) := by
  have HG := Lib.hid hg
  clear hg
  go_enter Tryz.func22, Tryz.ntmps22
  go_wp2_with (go_at_call 25; refine HG.out.mono ?_; rintro e wE ⟨rfl, hwE⟩; rw [hwE]; clear hwE wE)
  go_ret
  exact ⟨rfl, rfl⟩
set_option maxHeartbeats 4000000 in
set_option maxRecDepth 100000 in
theorem nobody_waits (p : Value) (i : Int) (w : World) (hg : GivenIs p false w) : Calls Tryz.prog 23 #[p, .int .i64 i] w (Quiet1 (.bool false) w) := by
  have HIS := Lib.hid (is_any p false i w hg)
  clear hg
  go_enter Tryz.func23, Tryz.ntmps23
  go_wp2_with (go_at_call 26; refine HIS.out.mono ?_; rintro e wE ⟨rfl, hwE⟩; rw [hwE]; clear hwE wE)
  go_ret
  exact ⟨rfl, rfl⟩
set_option maxHeartbeats 4000000 in
set_option maxRecDepth 100000 in
theorem nobody_counts (p : Value) (u : Int) (w : World) (hg : GivenIs p false w) : Calls Tryz.prog 21 #[p, .int .i64 u] w (Quiet1 (.tuple #[.int .i64 0, .int .i64 0]) w) := by
  have HG := Lib.hid hg
  clear hg
  go_enter Tryz.func21, Tryz.ntmps21
  go_wp2_with (go_at_call 25; refine HG.out.mono ?_; rintro e wE ⟨rfl, hwE⟩; rw [hwE]; clear hwE wE)
  go_ret2
  exact ⟨rfl, rfl⟩
set_option maxHeartbeats 4000000 in
set_option maxRecDepth 100000 in
theorem nobody_copy (p : Value) (w : World) (hg : GivenIs p false w) : Calls Tryz.prog 24 #[p] w (Quiet1 (.pointer none) w) := by
  have HG := Lib.hid hg
  clear hg
  go_enter Tryz.func24, Tryz.ntmps24
  go_wp2_with (go_at_call 25; refine HG.out.mono ?_; rintro e wE ⟨rfl, hwE⟩; rw [hwE]; clear hwE wE)
  go_ret
  exact ⟨rfl, rfl⟩
/-- given looks at the caller's memory alone. -/
theorem given_below {p : Value} {w w' : World} (h : p = .pointer none ∨ ∃ D, p = .pointer (some ⟨D, 0, none⟩) ∧ w.cell? ⟨D, 0, none⟩ = some (.int .i64 0)) (hb : Below w.heap.size w w') : GivenIs p false w' := by
  rcases h with rfl | ⟨D, rfl, h⟩
  · exact given_nil w'
  · have h2 : w'.cell? ⟨D, 0, none⟩ = some (.int .i64 0) := by rw [(bcell hb).1 _ _ (lt_of_cell h)]; exact h
    exact given_cell D 0 w' h2
set_option maxHeartbeats 4000000 in
set_option maxRecDepth 100000 in
theorem nobody_pick (p : Value) (i : Int) (w : World) (hp : p = .pointer none ∨ ∃ D, p = .pointer (some ⟨D, 0, none⟩) ∧ w.cell? ⟨D, 0, none⟩ = some (.int .i64 0)) :
    Calls Tryz.prog 11 #[p, .int .i64 i] w fun e w' => e = .returned (.tuple #[actV Clo.Act.zero (.slice none 0 0) (.slice none 0 0), .int .i64 1]) ∧ Below w.heap.size w w' := by
  have hb0 := (Below.refl w.heap.size w).alloc (Nat.le_refl _) (.cells actZero 37 (0, 0))
  have HIS := Lib.hid (is_any p false i _ (given_below hp hb0))
  have hw1 : w.alloc (.cells #[.int .i64 0, .string ⟨#[]⟩, .bool false, .int .i64 0, .string ⟨#[]⟩, .string ⟨#[]⟩, .string ⟨#[]⟩, .string ⟨#[]⟩, .string ⟨#[]⟩, .int .i64 0, .slice none 0 0, .string ⟨#[]⟩, .slice none 0 0, .string ⟨#[]⟩, .bool false] 37) = w.alloc (.cells actZero 37 (0, 0)) := rfl
  have hn1 := heap_alloc_new w (.cells actZero 37 (0, 0))
  generalize w.alloc (.cells actZero 37 (0, 0)) = w1 at hb0 HIS hw1 hn1
  have HW1 := Lib.hid hw1; have HN1 := Lib.hid hn1
  obtain ⟨⟨n0, n1, n2, n3, n4, n5, n6, n7, n8, n9, n10, n11, n12, n13, n14⟩, nf⟩ := cells15 hn1
  have g0 := nf 0; have g1 := nf 1; have g2 := nf 2; have g3 := nf 3; have g4 := nf 4; have g5 := nf 5; have g6 := nf 6; have g7 := nf 7; have g8 := nf 8; have g9 := nf 9; have g10 := nf 10; have g11 := nf 11; have g12 := nf 12; have g13 := nf 13; have g14 := nf 14
  clear hw1 hn1 nf hp
  go_enter Tryz.func11, Tryz.ntmps11
  go_upto_region 1 with fail
  rw [HW1.out]
  go_wp2_with (go_at_call 26; refine HIS.out.mono ?_; rintro e wE ⟨rfl, hwE⟩; rw [hwE]; clear hwE wE)
  refine bodyPost_ret (results_cell_row2 rfl _ _ w.heap.size 37 (actCells Clo.Act.zero (.slice none 0 0) (.slice none 0 0)).toArray (0, 0) _ rfl (act_heap HN1.out Clo.Act.zero (.slice none 0 0) (.slice none 0 0)) Tryz.underlying37 rfl (by kernel_rfl)) rfl ?_
  refine ⟨rfl, ?_⟩
  exact (putAct_kpt (S := fun _ => False) (N := w.heap.size) (fun h => absurd h (by omega)) (Kpt.of hb0) Clo.Act.zero (.slice none 0 0) (.slice none 0 0)).toBelow (Nat.le_refl _) (fun _ h => h.elim)
set_option maxHeartbeats 4000000 in
set_option maxRecDepth 100000 in
theorem nobody_answer (p : Value) (i st : Int) (b : ByteArray) (cl : Bool) (w : World) (hp : p = .pointer none ∨ ∃ D, p = .pointer (some ⟨D, 0, none⟩) ∧ w.cell? ⟨D, 0, none⟩ = some (.int .i64 0)) :
    Calls Tryz.prog 12 #[p, .int .i64 i, .agg #[.int .i64 st, .slice none 0 0, .string b, .bool cl]] w fun e w' => e = .returned (.int .i64 1) ∧ Below w.heap.size w w' := by
  have hb0 := (Below.refl w.heap.size w).alloc (Nat.le_refl _) (.cells #[.int .i64 st, .slice none 0 0, .string b, .bool cl] 41 (0, 0))
  have HIS := Lib.hid (is_any p false i _ (given_below hp hb0))
  clear hp
  go_enter Tryz.func12, Tryz.ntmps12
  go_wp2_with (go_at_call 26; refine HIS.out.mono ?_; rintro e wE ⟨rfl, hwE⟩; rw [hwE]; clear hwE wE)
  go_ret
  exact ⟨rfl, hb0⟩
end Go.Proofs.YtacdkcapejijdaaGreatDoor
