/- package demux: hands. -/
import Derived.Test.YtacdkcapejijdaaGreatDoorDemux6
namespace Go.Proofs.YtacdkcapejijdaaGreatDoor
open Go.RowKit Go.Maps Go.WideMaps Clo

theorem act_cells {w : World} {N : Nat} {T : TypeId} {a : Clo.Act} {v q : Value} (h : w.heap[N]? = some (.cells (actCells a v q).toArray T (0, 0))) :
    w.cell? ⟨N, 0, none⟩ = some (.int .i64 a.kind) ∧ w.cell? ⟨N, 1, none⟩ = some (.string ⟨a.out.toArray⟩) ∧ w.cell? ⟨N, 2, none⟩ = some (.bool a.close) ∧ w.cell? ⟨N, 3, none⟩ = some (.int .i64 a.user) ∧ w.cell? ⟨N, 4, none⟩ = some (.string ⟨a.token.toArray⟩) ∧ w.cell? ⟨N, 5, none⟩ = some (.string ⟨a.name.toArray⟩) ∧ w.cell? ⟨N, 6, none⟩ = some (.string ⟨a.word.toArray⟩) ∧ w.cell? ⟨N, 7, none⟩ = some (.string ⟨a.request.head.method.toArray⟩) ∧ w.cell? ⟨N, 8, none⟩ = some (.string ⟨a.request.head.target.toArray⟩) ∧ w.cell? ⟨N, 9, none⟩ = some (.int .i64 a.request.head.minor) ∧ w.cell? ⟨N, 10, none⟩ = some (v) ∧ w.cell? ⟨N, 11, none⟩ = some (.string ⟨a.request.path.toArray⟩) ∧ w.cell? ⟨N, 12, none⟩ = some (q) ∧ w.cell? ⟨N, 13, none⟩ = some (.string ⟨a.request.body.toArray⟩) ∧ w.cell? ⟨N, 14, none⟩ = some (.bool a.request.close) :=
  ⟨by rw [blk_cell h]; rfl, by rw [blk_cell h]; rfl, by rw [blk_cell h]; rfl, by rw [blk_cell h]; rfl, by rw [blk_cell h]; rfl, by rw [blk_cell h]; rfl, by rw [blk_cell h]; rfl, by rw [blk_cell h]; rfl, by rw [blk_cell h]; rfl, by rw [blk_cell h]; rfl, by rw [blk_cell h]; rfl, by rw [blk_cell h]; rfl, by rw [blk_cell h]; rfl, by rw [blk_cell h]; rfl, by rw [blk_cell h]; rfl⟩
set_option maxHeartbeats 4000000 in
set_option maxRecDepth 100000 in
theorem hands_any (B : CnB) (c : Cn) (r : Rq) (user : Int) (a : Clo.Act) (va qa : Option Addr) (vn vc qn qc : Nat) (v' q' : Value) (w : World) (_hX : envB ≤ B.cb) (hb : w.heap[B.cb]? = some (cnObj B c)) :
    Calls Tryz.prog 52 #[.pointer (some ⟨B.cb, 0, none⟩), .agg #[.string ⟨r.head.method.toArray⟩, .string ⟨r.head.target.toArray⟩, .int .i64 r.head.minor, v', .string ⟨r.path.toArray⟩, q', .string ⟨r.body.toArray⟩, .bool r.close], .int .i64 user, actV a (.slice va vn vc) (.slice qa qn qc)] w
      (ActPost B (cnHands c r user a).1 (cnHands c r user a).2 (.slice va vn vc) (.slice qa qn qc) w) := by
  obtain ⟨C, hC⟩ : ∃ C, C = cnHands c r user a := ⟨_, rfl⟩
  rw [← hC]
  have HC := Lib.hid hC; have HB := Lib.hid hb
  clear hC hb
  have hlt := lt_of_blk HB.out
  obtain ⟨rh, rp, rq, rb, cl⟩ := r
  simp only at HC ⊢
  unfold actV actCells
  go_enter Tryz.func52, Tryz.ntmps52
  go_upto_region 1 with fail
  generalize hw1 : ((w.alloc _).alloc _).alloc _ = w1
  have hb1 : Below w.heap.size w w1 := by rw [← hw1]; exact (((Below.refl _ _).alloc (Nat.le_refl _) _).alloc (by simp) _).alloc (by simp; omega) _
  have hr1 : w1.heap[w.heap.size]? = some (.cells #[.string ⟨rh.method.toArray⟩, .string ⟨rh.target.toArray⟩, .int .i64 rh.minor, v', .string ⟨rp.toArray⟩, q', .string ⟨rb.toArray⟩, .bool cl] 35 (0, 0)) := by rw [← hw1, Lib.alloc_old _ _ _ (by simp; omega), Lib.alloc_old _ _ _ (by simp)]; exact heap_alloc_new _ _
  have ha1 : w1.heap[w.heap.size + 1]? = some (.cells (actCells a (.slice va vn vc) (.slice qa qn qc)).toArray 37 (0, 0)) := by rw [← hw1, Lib.alloc_old _ _ _ (by simp)]; exact alloc_at _ _ _ (by simp)
  have hn1 : w1.heap[w.heap.size + 2]? = some (.cells actZero 37 (0, 0)) := by rw [← hw1]; exact alloc_at _ _ _ (by simp)
  have hc1 := (hb1.block _ hlt).trans HB.out
  have d7 : w1.cell? ⟨w.heap.size, 7, none⟩ = some (.bool cl) := by rw [blk_cell hr1]; rfl
  have p4 : w1.cell? ⟨B.cb, 4, none⟩ = some (.bool c.waits) := by rw [blk_cell hc1]; rfl
  have p5 : w1.cell? ⟨B.cb, 5, none⟩ = some (.int .i64 c.asks) := by rw [blk_cell hc1]; rfl
  have p6 : w1.cell? ⟨B.cb, 6, none⟩ = some (.bool c.ends) := by rw [blk_cell hc1]; rfl
  have f4 := blk_free hc1 4; have f5 := blk_free hc1 5; have f6 := blk_free hc1 6
  have hneR : ⟨B.cb, 4, none⟩ ≠ (⟨w.heap.size, 7, none⟩ : Addr) := fun e => by injection e with e; omega
  have HR1 := Lib.hid hr1; have HA1 := Lib.hid ha1; have HN1 := Lib.hid hn1; have HC1 := Lib.hid hc1
  clear hw1 hr1 ha1 hn1 hc1
  go_cut [5, 7, 8] (fun x y z wx => x = .pointer (some ⟨w.heap.size, 0, none⟩) ∧ y = .pointer (some ⟨w.heap.size + 1, 0, none⟩) ∧ z = .pointer (some ⟨w.heap.size + 2, 0, none⟩) ∧ wx.heap[B.cb]? = some (cnObj B { c with waits := true, asks := user, ends := cl }) ∧ Kpt (fun k => k = B.cb) w1 wx)
  case first =>
    go_region
    all_goals (go_wp2_with fail; go_meet)
    have q : ∀ {w : World} (o : Nat) (u : Value), Kpt (fun k => k = B.cb) w1 w → Kpt (fun k => k = B.cb) w1 (w.setCell ⟨B.cb, o, none⟩ u) := fun o u hk => hk.set (p := ⟨B.cb, o, none⟩) (fun _ => rfl) u
    exact ⟨rfl, rfl, rfl, heap_set (heap_set (heap_set HC1.out 4 _) 5 _) 6 _, (q _ _ (q _ _ (q _ _ (Kpt.refl _ _)))).drew⟩
  case rest =>
  obtain ⟨rfl, rfl, rfl, hc2, hk2⟩ := hcut
  rename World => w2
  have ha2 := (hk2.block _ (lt_of_blk HA1.out) (by show ¬ w.heap.size + 1 = _; omega)).trans HA1.out
  have hn2 := (hk2.block _ (lt_of_blk HN1.out) (by show ¬ w.heap.size + 2 = _; omega)).trans HN1.out
  clear d7 p4 p5 p6 f4 f5 f6 hneR
  obtain ⟨a0, a1, a2, a3, a4, a5, a6, a7, a8, a9, a10, a11, a12, a13, a14⟩ := act_cells ha2
  obtain ⟨⟨n0, n1, n2, n3, n4, n5, n6, n7, n8, n9, n10, n11, n12, n13, n14⟩, nf⟩ := cells15 hn2
  have g0 := nf 0; have g1 := nf 1; have g2 := nf 2; have g3 := nf 3; have g4 := nf 4; have g5 := nf 5; have g6 := nf 6; have g7 := nf 7; have g8 := nf 8; have g9 := nf 9; have g10 := nf 10; have g11 := nf 11; have g12 := nf 12; have g13 := nf 13; have g14 := nf 14
  have HC2 := Lib.hid hc2; have HN2 := Lib.hid hn2; have HK2 := Lib.hid hk2
  clear hc2 ha2 hn2 hk2 nf
  go_wp2_with fail
  have hneC : w.heap.size + 2 ≠ B.cb := by omega
  have hC1 : C.1 = { c with waits := true, asks := user, ends := cl } := by rw [HC.out]; rfl
  have hC2 : C.2 = a := by rw [HC.out]; rfl
  rw [hC1, hC2]
  refine bodyPost_ret (results_cell_row rfl _ _ (w.heap.size + 2) 37 (actCells a (.slice va vn vc) (.slice qa qn qc)).toArray (0, 0) _ rfl (act_heap HN2.out a (.slice va vn vc) (.slice qa qn qc)) Tryz.underlying37 rfl (by kernel_rfl)) rfl ?_
  refine ⟨rfl, (putAct_ne hneC.symm a (.slice va vn vc) (.slice qa qn qc)).trans HC2.out, ?_⟩
  exact putAct_kpt (S := fun k => k = B.cb) (N := w.heap.size + 2) (fun h => absurd h (by omega)) ((Kpt.of hb1 : Kpt (fun k => k = B.cb) w w1).trans (HK2.out.mono fun k _ h => h)) a (.slice va vn vc) (.slice qa qn qc)
end Go.Proofs.YtacdkcapejijdaaGreatDoor
