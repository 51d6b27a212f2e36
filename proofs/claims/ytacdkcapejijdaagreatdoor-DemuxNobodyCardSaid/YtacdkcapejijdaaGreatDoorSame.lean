/- The references' Same, at things that are the same; plain. -/
import Derived.Test.YtacdkcapejijdaaGreatDoorDemux13
import Derived.BigQuiet
namespace Go.Proofs.YtacdkcapejijdaaGreatDoor
open Go.RowKit Go.Maps Go.WideMaps Clo

set_option maxHeartbeats 4000000 in
set_option maxRecDepth 100000 in
theorem same06_any (v v' : Value) (l : List (Str × Str)) (w : World) (hv : PairsAt w v l) (hv' : PairsAt w v' l) :
    Calls Tryz.prog 62 #[v, v'] w fun e w' => e = .returned (.bool true) ∧ Below w.heap.size w w' := by
  obtain ⟨ad, cap, rfl, h1, h2, h3⟩ := hv
  obtain ⟨ad', cap', rfl, h1', h2', h3'⟩ := hv'
  have H3 := Lib.hid h3; have H3' := Lib.hid h3'; clear h3 h3'
  go_enter Tryz.func62, Tryz.ntmps62
  go_wp2
  go_loopw [5] (fun i wr => ∃ k : Nat, k ≤ l.length ∧ i = .int .i64 k ∧ Below w.heap.size w wr) (fun i _ => l.length - (intOf i).toNat)
  case atStart => exact ⟨0, Nat.zero_le _, rfl, Below.refl _ _⟩
  case round =>
    obtain ⟨k, hk, rfl, hbw⟩ := hrel
    have hz := hbw.size
    by_cases hlt : k < l.length
    · obtain ⟨g, off, rfl, hr2⟩ := H3.out (by intro h; simp [h] at hlt)
      obtain ⟨g', off', rfl, hr2'⟩ := H3'.out (by intro h; simp [h] at hlt)
      obtain ⟨c1, c2⟩ := hr2 k hlt
      obtain ⟨c1', c2'⟩ := hr2' k hlt
      have l1 := lt_of_cell c1; have l2 := lt_of_cell c1'
      rw [← hbw.cell (p := ⟨g, off + k * 2, none⟩) l1] at c1
      rw [← hbw.cell (p := ⟨g, off + k * 2 + 1, none⟩) l1] at c2
      rw [← hbw.cell (p := ⟨g', off' + k * 2, none⟩) l2] at c1'
      rw [← hbw.cell (p := ⟨g', off' + k * 2 + 1, none⟩) l2] at c2'
      obtain ⟨n1, e1, b1_⟩ := str_of (l.getD k ([], [])).1
      obtain ⟨n2, e2, b2_⟩ := str_of (l.getD k ([], [])).2
      rw [e1] at c1 c1'; rw [e2] at c2 c2'
      clear hr2 hr2' e1 e2 b1_ b2_
      go_upto_region 6 with fail
      go_cut [25] (fun a wx => a = .bool false ∧ Below wr.heap.size wr wx)
      case first =>
        go_quiet (fail)
        go_wp2_with fail
        go_meet
        exact ⟨congrArg Value.bool (by simp), below_drewN_ (Below.refl _ _) _⟩
      case rest =>
      obtain ⟨rfl, hbx⟩ := hcut
      go_wp2_with fail
      go_roundw
      case rel => exact ⟨k + 1, by omega, by go_num, hbw.trans (hbx.mono hz)⟩
      case measure => simp [intOf]; omega
    · go_wp2
      go_ret
      exact ⟨rfl, hbw⟩

set_option maxHeartbeats 4000000 in
set_option maxRecDepth 100000 in
theorem same07_any (h : Hd) (v v' : Value) (w : World) (hv : PairsAt w v h.fields) (hv' : PairsAt w v' h.fields) :
    Calls Tryz.prog 61 #[.agg #[.string ⟨h.method.toArray⟩, .string ⟨h.target.toArray⟩, .int .i64 h.minor, v], .agg #[.string ⟨h.method.toArray⟩, .string ⟨h.target.toArray⟩, .int .i64 h.minor, v']] w fun e w' => e = .returned (.bool true) ∧ Below w.heap.size w w' := by
  obtain ⟨m, t, mi, fl⟩ := h
  simp only at hv hv' ⊢
  obtain ⟨n1, e1, b1_⟩ := str_of m
  obtain ⟨n2, e2, b2_⟩ := str_of t
  rw [e1, e2]
  clear e1 e2 b1_ b2_
  have hs := fun W (h1 : PairsAt W v fl) (h2 : PairsAt W v' fl) => same06_any v v' fl W h1 h2
  have HV := Lib.hid hv; have HV' := Lib.hid hv'; have HS := Lib.hid hs
  obtain ⟨ad, cap, rfl, _, _, _⟩ := hv
  obtain ⟨ad', cap', rfl, _, _, _⟩ := hv'
  clear hs
  go_enter Tryz.func61, Tryz.ntmps61
  go_upto_region 1 with fail
  generalize hw1 : (w.alloc _).alloc _ = w1
  have hb1 : Below w.heap.size w w1 := by rw [← hw1]; exact ((Below.refl _ _).alloc (Nat.le_refl _) _).alloc (by simp) _
  have hr1 : w1.heap[w.heap.size]? = some (.cells #[.string n1, .string n2, .int .i64 mi, .slice ad fl.length cap] 33 (0, 0)) := by rw [← hw1, Lib.alloc_old _ _ _ (by simp)]; exact heap_alloc_new _ _
  have hr2 : w1.heap[w.heap.size + 1]? = some (.cells #[.string n1, .string n2, .int .i64 mi, .slice ad' fl.length cap'] 33 (0, 0)) := by rw [← hw1]; exact alloc_at _ _ _ (by simp)
  obtain ⟨a0, a1, a2, a3⟩ := cells4 hr1
  obtain ⟨b0, b1, b2, b3⟩ := cells4 hr2
  have H1 := Lib.hid (HV.out.below hb1); have H1' := Lib.hid (HV'.out.below hb1)
  clear hw1 hr1 hr2
  go_wp2_with (go_at_call 62; refine (HS.out _ H1.out H1'.out).mono ?_; rintro e w2 ⟨rfl, hb2⟩)
  go_ret
  exact ⟨rfl, hb1.trans (hb2.mono hb1.size)⟩

theorem cells8g {W : World} {N : Nat} {a b c d e f g h : Value} {T : TypeId} (hh : W.heap[N]? = some (.cells #[a, b, c, d, e, f, g, h] T (0, 0))) : W.cell? ⟨N, 0, none⟩ = some a ∧ W.cell? ⟨N, 1, none⟩ = some b ∧ W.cell? ⟨N, 2, none⟩ = some c ∧ W.cell? ⟨N, 3, none⟩ = some d ∧ W.cell? ⟨N, 4, none⟩ = some e ∧ W.cell? ⟨N, 5, none⟩ = some f ∧ W.cell? ⟨N, 6, none⟩ = some g ∧ W.cell? ⟨N, 7, none⟩ = some h :=
  ⟨by rw [blk_cell hh]; rfl, by rw [blk_cell hh]; rfl, by rw [blk_cell hh]; rfl, by rw [blk_cell hh]; rfl, by rw [blk_cell hh]; rfl, by rw [blk_cell hh]; rfl, by rw [blk_cell hh]; rfl, by rw [blk_cell hh]; rfl⟩
set_option maxHeartbeats 8000000 in
set_option maxRecDepth 100000 in
theorem same08_any (r : Rq) (v q v' q' : Value) (w : World) (hv : PairsAt w v r.head.fields) (hq : PairsAt w q r.query) (hv' : PairsAt w v' r.head.fields) (hq' : PairsAt w q' r.query) :
    Calls Tryz.prog 38 #[rqV r v q, rqV r v' q'] w fun e w' => e = .returned (.bool true) ∧ Below w.heap.size w w' := by
  have hs := fun W (h1 : PairsAt W v r.head.fields) (h2 : PairsAt W v' r.head.fields) => same07_any r.head v v' W h1 h2
  have hs6 := fun W (h1 : PairsAt W q r.query) (h2 : PairsAt W q' r.query) => same06_any q q' r.query W h1 h2
  obtain ⟨⟨m, t, mi, fl⟩, rp, rq, rb, cl⟩ := r
  simp only at hv hv' hq hq' hs hs6 ⊢
  unfold rqV
  simp only
  obtain ⟨n1, e1, b1_⟩ := str_of m
  obtain ⟨n2, e2, b2_⟩ := str_of t
  obtain ⟨n3, e3, b3_⟩ := str_of rp
  obtain ⟨n4, e4, b4_⟩ := str_of rb
  rw [e1, e2] at hs
  rw [e1, e2, e3, e4]
  clear e1 e2 b1_ b2_ e3 b3_ e4 b4_
  have HV := Lib.hid hv; have HV' := Lib.hid hv'; have HQ := Lib.hid hq; have HQ' := Lib.hid hq'; have HS := Lib.hid hs; have HS6 := Lib.hid hs6
  obtain ⟨ad, cap, rfl, _, _, _⟩ := hv
  obtain ⟨ad', cap', rfl, _, _, _⟩ := hv'
  obtain ⟨qd, qap, rfl, _, _, _⟩ := hq
  obtain ⟨qd', qap', rfl, _, _, _⟩ := hq'
  clear hs hs6
  go_enter Tryz.func38, Tryz.ntmps38
  go_upto_region 1 with fail
  generalize hw1 : (w.alloc _).alloc _ = w1
  have hb1 : Below w.heap.size w w1 := by rw [← hw1]; exact ((Below.refl _ _).alloc (Nat.le_refl _) _).alloc (by simp) _
  have hr1 : w1.heap[w.heap.size]? = some (.cells #[.string n1, .string n2, .int .i64 mi, .slice ad fl.length cap, .string n3, .slice qd rq.length qap, .string n4, .bool cl] 35 (0, 0)) := by rw [← hw1, Lib.alloc_old _ _ _ (by simp)]; exact heap_alloc_new _ _
  have hr2 : w1.heap[w.heap.size + 1]? = some (.cells #[.string n1, .string n2, .int .i64 mi, .slice ad' fl.length cap', .string n3, .slice qd' rq.length qap', .string n4, .bool cl] 35 (0, 0)) := by rw [← hw1]; exact alloc_at _ _ _ (by simp)
  obtain ⟨a0, a1, a2, a3, a4, a5, a6, a7⟩ := cells8g hr1
  obtain ⟨b0, b1, b2, b3, b4, b5, b6, b7⟩ := cells8g hr2
  have H1 := Lib.hid (HV.out.below hb1); have H1' := Lib.hid (HV'.out.below hb1); have K1 := Lib.hid (HQ.out.below hb1); have K1' := Lib.hid (HQ'.out.below hb1)
  have HR1 := Lib.hid hr1; have HR2 := Lib.hid hr2
  clear hw1 hr1 hr2
  go_wp2_with fail
  go_at_call 61
  refine (HS.out _ H1.out H1'.out).mono ?_
  rintro e w2 ⟨rfl, hb2⟩
  clear a0 a1 a2 a3 a4 a5 a6 a7 b0 b1 b2 b3 b4 b5 b6 b7
  have hr1 := (hb2.block _ (lt_of_blk HR1.out)).trans HR1.out
  have hr2 := (hb2.block _ (lt_of_blk HR2.out)).trans HR2.out
  obtain ⟨a0, a1, a2, a3, a4, a5, a6, a7⟩ := cells8g hr1
  obtain ⟨b0, b1, b2, b3, b4, b5, b6, b7⟩ := cells8g hr2
  have K2 := Lib.hid (K1.out.below hb2); have K2' := Lib.hid (K1'.out.below hb2); have HR3 := Lib.hid hr1; have HR4 := Lib.hid hr2
  clear hr1 hr2
  go_wp2_with fail
  go_at_call 62
  refine (HS6.out _ K2.out K2'.out).mono ?_
  rintro e w3 ⟨rfl, hb3⟩
  clear a0 a1 a2 a3 a4 a5 a6 a7 b0 b1 b2 b3 b4 b5 b6 b7
  obtain ⟨a0, a1, a2, a3, a4, a5, a6, a7⟩ := cells8g ((hb3.block _ (lt_of_blk HR3.out)).trans HR3.out)
  obtain ⟨b0, b1, b2, b3, b4, b5, b6, b7⟩ := cells8g ((hb3.block _ (lt_of_blk HR4.out)).trans HR4.out)
  go_wp2_with fail
  go_ret
  exact ⟨ret_bool (by simp), hb1.trans ((hb2.trans (hb3.mono hb2.size)).mono hb1.size)⟩

set_option maxHeartbeats 8000000 in
set_option maxRecDepth 100000 in
theorem plainLaw_any (a : Clo.Act) (v q : Value) (w : World) (hv : PairsAt w v a.request.head.fields) (hq : PairsAt w q a.request.query) :
    Calls Tryz.prog 20 #[actV a v q] w fun e w' => e = .returned (actV a v q) ∧ Below w.heap.size w w' := by
  obtain ⟨ad, cap, rfl, _, _, _⟩ := hv
  obtain ⟨qd, qap, rfl, _, _, _⟩ := hq
  unfold actV
  go_enter Tryz.func20, Tryz.ntmps20
  go_upto_region 1 with fail
  generalize hw1 : (w.alloc _).alloc _ = w1
  have hb1 : Below w.heap.size w w1 := by rw [← hw1]; exact ((Below.refl _ _).alloc (Nat.le_refl _) _).alloc (by simp) _
  have hr1 : w1.heap[w.heap.size]? = some (.cells (actCells a (.slice ad a.request.head.fields.length cap) (.slice qd a.request.query.length qap)).toArray 37 (0, 0)) := by rw [← hw1, Lib.alloc_old _ _ _ (by simp)]; exact heap_alloc_new _ _
  have hn1 : w1.heap[w.heap.size + 1]? = some (.cells actZero 63 (0, 0)) := by rw [← hw1]; exact alloc_at _ _ _ (by simp)
  obtain ⟨a0, a1, a2, a3, a4, a5, a6, a7, a8, a9, a10, a11, a12, a13, a14⟩ := act_cells hr1
  obtain ⟨⟨n0, n1, n2, n3, n4, n5, n6, n7, n8, n9, n10, n11, n12, n13, n14⟩, nf⟩ := cells15 hn1
  have g0 := nf 0; have g1 := nf 1; have g2 := nf 2; have g3 := nf 3; have g4 := nf 4; have g5 := nf 5; have g6 := nf 6; have g7 := nf 7; have g8 := nf 8; have g9 := nf 9; have g10 := nf 10; have g11 := nf 11; have g12 := nf 12; have g13 := nf 13; have g14 := nf 14
  have HN1 := Lib.hid hn1
  clear hw1 hr1 hn1 nf
  go_wp2_with fail
  refine bodyPost_ret (results_cell_row rfl _ _ (w.heap.size + 1) 63 (actCells a (.slice ad a.request.head.fields.length cap) (.slice qd a.request.query.length qap)).toArray (0, 0) _ rfl (act_heap HN1.out a (.slice ad a.request.head.fields.length cap) (.slice qd a.request.query.length qap)) Tryz.underlying63 rfl (by kernel_rfl)) rfl ?_
  refine ⟨rfl, ?_⟩
  exact (putAct_kpt (S := fun _ => False) (N := w.heap.size + 1) (fun h => absurd h (by omega)) (Kpt.of hb1) a (.slice ad a.request.head.fields.length cap) (.slice qd a.request.query.length qap)).toBelow (Nat.le_refl _) (fun _ h => h.elim)
end Go.Proofs.YtacdkcapejijdaaGreatDoor
