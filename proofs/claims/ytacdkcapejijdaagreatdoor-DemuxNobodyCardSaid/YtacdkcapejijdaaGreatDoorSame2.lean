/- The reference's Same at acts that are the same. -/
import Derived.Test.YtacdkcapejijdaaGreatDoorSame
namespace Go.Proofs.YtacdkcapejijdaaGreatDoor
open Go.RowKit Go.Maps Go.WideMaps Clo

set_option maxHeartbeats 8000000 in
set_option maxRecDepth 100000 in
theorem same18_any (a : Clo.Act) (v q v' q' : Value) (w : World) (hv : PairsAt w v a.request.head.fields) (hq : PairsAt w q a.request.query) (hv' : PairsAt w v' a.request.head.fields) (hq' : PairsAt w q' a.request.query) :
    Calls Tryz.prog 19 #[actV a v q, actV a v' q'] w fun e w' => e = .returned (.bool true) ∧ Below w.heap.size w w' := by
  have hs := fun W (h1 : PairsAt W v a.request.head.fields) (h2 : PairsAt W q a.request.query) (h3 : PairsAt W v' a.request.head.fields) (h4 : PairsAt W q' a.request.query) => same08_any a.request v q v' q' W h1 h2 h3 h4
  unfold rqV at hs
  unfold actV actCells
  obtain ⟨k, o, c, u, tk, nm, wd, ⟨⟨m, t, mi, fl⟩, rp, rq, rb, cl⟩⟩ := a
  simp only at hv hv' hq hq' hs ⊢
  obtain ⟨n1, e1, b1_⟩ := str_of m
  obtain ⟨n2, e2, b2_⟩ := str_of t
  obtain ⟨n3, e3, b3_⟩ := str_of rp
  obtain ⟨n4, e4, b4_⟩ := str_of rb
  obtain ⟨n5, e5, b5_⟩ := str_of o
  obtain ⟨n6, e6, b6_⟩ := str_of tk
  obtain ⟨n7, e7, b7_⟩ := str_of nm
  obtain ⟨n8, e8, b8_⟩ := str_of wd
  rw [e1, e2, e3, e4] at hs
  rw [e1, e2, e3, e4, e5, e6, e7, e8]
  clear e1 e2 b1_ b2_ e3 b3_ e4 b4_ e5 e6 e7 e8 b5_ b6_ b7_ b8_
  have HV := Lib.hid hv; have HV' := Lib.hid hv'; have HQ := Lib.hid hq; have HQ' := Lib.hid hq'; have HS := Lib.hid hs
  obtain ⟨ad, cap, rfl, _, _, _⟩ := hv
  obtain ⟨ad', cap', rfl, _, _, _⟩ := hv'
  obtain ⟨qd, qap, rfl, _, _, _⟩ := hq
  obtain ⟨qd', qap', rfl, _, _, _⟩ := hq'
  clear hs
  have c15 : ∀ (va qa : Value) (W : World) (N : Nat), W.heap[N]? = some (.cells #[.int .i64 k, .string n5, .bool c, .int .i64 u, .string n6, .string n7, .string n8, .string n1, .string n2, .int .i64 mi, va, .string n3, qa, .string n4, .bool cl] 63 (0, 0)) →
      W.cell? ⟨N, 0, none⟩ = some (.int .i64 k) ∧ W.cell? ⟨N, 1, none⟩ = some (.string n5) ∧ W.cell? ⟨N, 2, none⟩ = some (.bool c) ∧ W.cell? ⟨N, 3, none⟩ = some (.int .i64 u) ∧ W.cell? ⟨N, 4, none⟩ = some (.string n6) ∧ W.cell? ⟨N, 5, none⟩ = some (.string n7) ∧ W.cell? ⟨N, 6, none⟩ = some (.string n8) ∧
      W.cell? ⟨N, 7, none⟩ = some (.string n1) ∧ W.cell? ⟨N, 8, none⟩ = some (.string n2) ∧ W.cell? ⟨N, 9, none⟩ = some (.int .i64 mi) ∧ W.cell? ⟨N, 10, none⟩ = some va ∧ W.cell? ⟨N, 11, none⟩ = some (.string n3) ∧ W.cell? ⟨N, 12, none⟩ = some qa ∧ W.cell? ⟨N, 13, none⟩ = some (.string n4) ∧ W.cell? ⟨N, 14, none⟩ = some (.bool cl) :=
    fun va qa W N h => ⟨by rw [blk_cell h]; rfl, by rw [blk_cell h]; rfl, by rw [blk_cell h]; rfl, by rw [blk_cell h]; rfl, by rw [blk_cell h]; rfl, by rw [blk_cell h]; rfl, by rw [blk_cell h]; rfl, by rw [blk_cell h]; rfl, by rw [blk_cell h]; rfl, by rw [blk_cell h]; rfl, by rw [blk_cell h]; rfl, by rw [blk_cell h]; rfl, by rw [blk_cell h]; rfl, by rw [blk_cell h]; rfl, by rw [blk_cell h]; rfl⟩
  have C15 := Lib.hid c15; clear c15
  go_enter Tryz.func19, Tryz.ntmps19
  go_upto_region 1 with fail
  generalize hw1 : (w.alloc _).alloc _ = w1
  have hb1 : Below w.heap.size w w1 := by rw [← hw1]; exact ((Below.refl _ _).alloc (Nat.le_refl _) _).alloc (by simp) _
  have hr1 := C15.out (.slice ad fl.length cap) (.slice qd rq.length qap) w1 w.heap.size (by rw [← hw1, Lib.alloc_old _ _ _ (by simp)]; exact heap_alloc_new _ _)
  have hr2 := C15.out (.slice ad' fl.length cap') (.slice qd' rq.length qap') w1 (w.heap.size + 1) (by rw [← hw1]; exact alloc_at _ _ _ (by simp))
  obtain ⟨a0, a1, a2, a3, a4, a5, a6, a7, a8, a9, a10, a11, a12, a13, a14⟩ := hr1
  obtain ⟨b0, b1, b2, b3, b4, b5, b6, b7, b8, b9, b10, b11, b12, b13, b14⟩ := hr2
  have H1 := Lib.hid (HV.out.below hb1); have H1' := Lib.hid (HV'.out.below hb1); have K1 := Lib.hid (HQ.out.below hb1); have K1' := Lib.hid (HQ'.out.below hb1)
  clear hw1
  go_wp2_with (go_at_call 38; refine (HS.out _ H1.out K1.out H1'.out K1'.out).mono ?_; rintro e w2 ⟨rfl, hb2⟩)
  go_ret
  exact ⟨ret_bool (by simp), hb1.trans (hb2.mono hb1.size)⟩
end Go.Proofs.YtacdkcapejijdaaGreatDoor
