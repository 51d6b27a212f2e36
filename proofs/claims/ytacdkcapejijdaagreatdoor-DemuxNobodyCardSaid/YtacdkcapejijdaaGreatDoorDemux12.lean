/- package demux: Pick. -/
import Derived.Test.YtacdkcapejijdaaGreatDoorDemux11
namespace Go.Proofs.YtacdkcapejijdaaGreatDoor
open Go.RowKit Go.Maps Go.WideMaps Clo

set_option maxHeartbeats 8000000 in
set_option maxRecDepth 100000 in
theorem pick_any (D : Nat) (G : Gh) (d : Dm) (i : Int) (w : World) (hE : Env w) (h : DmAt w D G d) :
    Calls Tryz.prog 11 #[.pointer (some ⟨D, 0, none⟩), .int .i64 i] w (PickPost D G (dmPick d i) w) := by
  obtain ⟨R, hR⟩ : ∃ R, R = dmPick d i := ⟨_, rfl⟩
  rw [← hR]
  unfold dmPick at hR
  obtain ⟨w1, hw1⟩ : ∃ w1, w1 = w.alloc (.cells actZero 37 (0, 0)) := ⟨_, rfl⟩
  have hb1 : Below w.heap.size w w1 := by rw [hw1]; exact (Below.refl _ _).alloc (Nat.le_refl _) _
  have hn1 : w1.heap[w.heap.size]? = some (.cells actZero 37 (0, 0)) := by rw [hw1]; exact heap_alloc_new _ _
  have hw1' : w.alloc (.cells #[.int .i64 0, .string ⟨#[]⟩, .bool false, .int .i64 0, .string ⟨#[]⟩, .string ⟨#[]⟩, .string ⟨#[]⟩, .string ⟨#[]⟩, .string ⟨#[]⟩, .int .i64 0, .slice none 0 0, .string ⟨#[]⟩, .slice none 0 0, .string ⟨#[]⟩, .bool false] 37) = w1 := hw1.symm
  have h1 := h.below hb1
  have HIS := Lib.hid (h1.isIs i)
  have HW1 := Lib.hid hw1'; have HN1 := Lib.hid hn1; have HD := Lib.hid h; have HD1 := Lib.hid h1; have HE1 := Lib.hid (hE.below hb1)
  obtain ⟨d0, d1, d2, d3, d4⟩ := h1.cells
  obtain ⟨⟨n0, n1, n2, n3, n4, n5, n6, n7, n8, n9, n10, n11, n12, n13, n14⟩, nf⟩ := cells15 hn1
  have g0 := nf 0; have g1 := nf 1; have g2 := nf 2; have g3 := nf 3; have g4 := nf 4; have g5 := nf 5; have g6 := nf 6; have g7 := nf 7; have g8 := nf 8; have g9 := nf 9; have g10 := nf 10; have g11 := nf 11; have g12 := nf 12; have g13 := nf 13; have g14 := nf 14
  clear nf
  clear hw1 hw1' hn1 h hE
  cases hi : isC i with
  | false =>
    rw [if_pos hi] at hR
    rw [hi] at HIS
    have HR := Lib.hid hR; clear hR hi h1
    go_enter Tryz.func11, Tryz.ntmps11
    go_upto_region 1 with fail
    rw [HW1.out]
    go_wp2_with (go_at_call 26; refine HIS.out.mono ?_; rintro e wE ⟨rfl, hwE⟩; rw [hwE]; clear hwE wE)
    refine bodyPost_ret (results_cell_row2 rfl _ _ w.heap.size 37 (actCells Clo.Act.zero (.slice none 0 0) (.slice none 0 0)).toArray (0, 0) _ rfl (act_heap HN1.out Clo.Act.zero (.slice none 0 0) (.slice none 0 0)) Tryz.underlying37 rfl (by kernel_rfl)) rfl ?_
    refine PickPost.zero HR.out HD.out ?_
    exact (putAct_kpt (S := fun _ => False) (N := w.heap.size) (fun h => absurd h (by omega)) (Kpt.of (hb1)) Clo.Act.zero (.slice none 0 0) (.slice none 0 0)).toBelow (Nat.le_refl _) (fun _ h => h.elim)
  | true =>
  rw [if_neg (by simp [hi])] at hR
  rw [hi] at HIS
  have hwf := isC_wf hi
  have hop := open_any D G d i w1 h1 hwf
  rcases h1.pick i hwf with ⟨k1, _, hl⟩ | ⟨B, c, k1, k0, k2, k3, hl⟩
  · rw [k1] at hR
    have ho : dmOpen d i = false := by unfold dmOpen; rw [k1]
    rw [ho] at hop
    have HR := Lib.hid hR; have HO := Lib.hid hop; clear hR hi h1 hop ho k1 hwf
    go_enter Tryz.func11, Tryz.ntmps11
    go_upto_region 1 with fail
    rw [HW1.out]
    go_wp2_with (first | (go_at_call 26; refine HIS.out.mono ?_; rintro e wE ⟨rfl, hwE⟩; rw [hwE]; clear hwE wE) | (go_at_call 22; refine HO.out.mono ?_; rintro e wE ⟨rfl, hwE⟩; rw [hwE]; clear hwE wE))
    refine bodyPost_ret (results_cell_row2 rfl _ _ w.heap.size 37 (actCells Clo.Act.zero (.slice none 0 0) (.slice none 0 0)).toArray (0, 0) _ rfl (act_heap HN1.out Clo.Act.zero (.slice none 0 0) (.slice none 0 0)) Tryz.underlying37 rfl (by kernel_rfl)) rfl ?_
    refine PickPost.zero HR.out HD.out ?_
    exact (putAct_kpt (S := fun _ => False) (N := w.heap.size) (fun h => absurd h (by omega)) (Kpt.of (hb1)) Clo.Act.zero (.slice none 0 0) (.slice none 0 0)).toBelow (Nat.le_refl _) (fun _ h => h.elim)
  rw [k1] at hR
  have ho : dmOpen d i = !c.closed := by unfold dmOpen; rw [k1]
  rw [ho] at hop
  simp only at hR
  have HO := Lib.hid hop; have HK0 := Lib.hid k0; have HK1 := Lib.hid k1; have HK2 := Lib.hid k2; have HK3 := Lib.hid k3
  have hX := (h1.tb _ _ (h1.tcb i B k0).1).1
  have hDne := h1.ne_cb k0
  obtain ⟨⟨p0, p1, p2, p3, p4, p5, p6, p7⟩, pf⟩ := k2.cells
  clear hi h1 hop ho k0 k1 k2 k3 hwf
  cases hcl : c.closed with
  | true =>
    rw [if_pos hcl] at hR
    rw [hcl] at HO
    have HR := Lib.hid hR; clear hR pf hcl
    go_enter Tryz.func11, Tryz.ntmps11
    go_upto_region 1 with fail
    rw [HW1.out]
    go_wp2_with (first | (go_at_call 26; refine HIS.out.mono ?_; rintro e wE ⟨rfl, hwE⟩; rw [hwE]; clear hwE wE) | (go_at_call 22; refine HO.out.mono ?_; rintro e wE ⟨rfl, hwE⟩; rw [hwE]; clear hwE wE))
    refine bodyPost_ret (results_cell_row2 rfl _ _ w.heap.size 37 (actCells Clo.Act.zero (.slice none 0 0) (.slice none 0 0)).toArray (0, 0) _ rfl (act_heap HN1.out Clo.Act.zero (.slice none 0 0) (.slice none 0 0)) Tryz.underlying37 rfl (by kernel_rfl)) rfl ?_
    refine PickPost.zero HR.out HD.out ?_
    exact (putAct_kpt (S := fun _ => False) (N := w.heap.size) (fun h => absurd h (by omega)) (Kpt.of (hb1)) Clo.Act.zero (.slice none 0 0) (.slice none 0 0)).toBelow (Nat.le_refl _) (fun _ h => h.elim)
  | false =>
  rw [if_neg (by simp [hcl])] at hR
  rw [hcl] at HO
  have HR := Lib.hid hR; have HCL := Lib.hid hcl; clear hR hcl
  have han := HK2.out.an
  cases hca : c.answer with
  | some r =>
    rw [hca] at han
    obtain ⟨ab, av, hab, hbk, hpv⟩ := han.some_of
    rw [hab] at p7
    simp only [ansV, Option.map_some, ptrV] at p7
    have hrok := HK3.out.a r hca
    have hx := HR.out
    unfold cnPick at hx
    rw [hca] at hx
    simp only at hx
    have f7 := pf 7
    unfold rsObj at hbk
    obtain ⟨q0, q1, q2, q3⟩ := cells4 hbk
    have HX := Lib.hid hx; have HPV := Lib.hid hpv; have HAB := Lib.hid hab; have HROK := Lib.hid hrok
    obtain ⟨ad, cap, rfl, z1, z2, z3⟩ := hpv
    clear hx pf han hca hab hbk hrok z1 z2 z3
    go_enter Tryz.func11, Tryz.ntmps11
    go_upto_region 1 with fail
    rw [HW1.out]
    go_upto_region 8 with (first | (go_at_call 26; refine HIS.out.mono ?_; rintro e wE ⟨rfl, hwE⟩; rw [hwE]; clear hwE wE) | (go_at_call 22; refine HO.out.mono ?_; rintro e wE ⟨rfl, hwE⟩; rw [hwE]; clear hwE wE))
    have hM : w1.heap.size = w.heap.size + 1 := by rw [← HW1.out]; simp
    generalize hw2 : w1.alloc _ = w2
    have hb2 : Below w1.heap.size w1 w2 := by rw [← hw2]; exact (Below.refl _ _).alloc (Nat.le_refl _) _
    have hm2 : w2.heap[w1.heap.size]? = some (.cells #[.int .i64 r.status, .slice ad r.fields.length cap, .string ⟨r.body.toArray⟩, .bool r.close] 41 (0, 0)) := by rw [← hw2]; exact heap_alloc_new _ _
    have hc2 := (hb2.block _ (lt_of_blk HK2.out.cell)).trans HK2.out.cell
    have hn2 := (hb2.block _ (lt_of_blk HN1.out)).trans HN1.out
    have hneM : w1.heap.size ≠ B.cb := by have := lt_of_blk HK2.out.cell; omega
    have hneN : w.heap.size ≠ B.cb := fun e => by
      have h2 := (HD.out.tb _ _ (HD.out.tcb i B HK0.out).1).2
      omega
    have hp2 := HPV.out.below hb2
    have m7 : w2.cell? ⟨B.cb, 7, none⟩ = some (ansV B.ans) := by rw [blk_cell hc2]; rfl
    have f7 : w2.frozen? ⟨B.cb, 7, none⟩ = false := blk_free hc2 7
    have HMM := Lib.hid hM; clear hM
    clear hw2 p0 p1 p2 p3 p4 p5 p6 p7 f7 q0 q1 q2 q3 d0 d1 d2 d3 d4 n0 n1 n2 n3 n4 n5 n6 n7 n8 n9 n10 n11 n12 n13 n14 g0 g1 g2 g3 g4 g5 g6 g7 g8 g9 g10 g11 g12 g13 g14
    have f7 : w2.frozen? ⟨B.cb, 7, none⟩ = false := blk_free hc2 7
    go_upto_region 9 with fail
    generalize hw3 : w2.setCell _ _ = w3
    have hc3 : w3.heap[B.cb]? = some (cnObj { B with ans := none } { c with answer := none }) := by rw [← hw3]; exact heap_set hc2 7 (.pointer none)
    have hk3 : Kpt (fun k => k = B.cb) w2 w3 := by rw [← hw3]; exact (Kpt.refl (fun k => k = B.cb) w2).set (p := ⟨B.cb, 7, none⟩) (fun _ => rfl) _
    have hm3 := (hk3.block _ (lt_of_blk hm2) hneM).trans hm2
    have hn3 := (hk3.block _ (lt_of_blk hn2) hneN).trans hn2
    have hp3 := hp2.keptCn hc2 hk3
    obtain ⟨s0, s1, s2, s3⟩ := cells4 hm3
    have e6 : w3.cell? ⟨B.cb, 6, none⟩ = some (.bool c.ends) := by rw [blk_cell hc3]; rfl
    have fm3 : w3.frozen? ⟨w1.heap.size, 3, none⟩ = false := blk_free hm3 3
    have HC3 := Lib.hid hc3; have HKP3 := Lib.hid hk3; have HM3 := Lib.hid hm3; have HN3 := Lib.hid hn3; have HP3 := Lib.hid hp3; have HB2 := Lib.hid hb2
    clear hw3 hc3 hk3 hm3 hn3 hp3 hb2 hm2 hc2 hn2 hp2 m7 f7
    go_upto_region 9 with fail
    go_cut [7] (fun a wx => a = .pointer (some ⟨w1.heap.size, 0, none⟩) ∧ wx = w3.setCell ⟨w1.heap.size, 3, none⟩ (.bool (r.close || c.ends)))
    case first =>
      cases hrc : r.close
      all_goals
        rw [hrc] at s3
        go_wp2_with fail
        go_meet
        exact ⟨rfl, by rw [hrc]; rfl⟩
    case rest =>
    obtain ⟨rfl, hw4⟩ := hcut
    rename World => w4
    have hm4 : w4.heap[w1.heap.size]? = some (.cells #[.int .i64 r.status, .slice ad r.fields.length cap, .string ⟨r.body.toArray⟩, .bool (r.close || c.ends)] 41 (0, 0)) := by rw [hw4]; exact heap_set HM3.out 3 _
    have hc4 : w4.heap[B.cb]? = some (cnObj { B with ans := none } { c with answer := none }) := by rw [hw4]; exact (heap_set_ne (fun e => hneM e.symm) _).trans HC3.out
    have hn4 : w4.heap[w.heap.size]? = some (.cells actZero 37 (0, 0)) := by rw [hw4]; exact (heap_set_ne (by show w.heap.size ≠ w1.heap.size; have := HMM.out; omega) _).trans HN3.out
    have hk4 : Kpt (fun k => k = B.cb) w1 w4 := by
      rw [hw4]
      exact ((Kpt.of HB2.out : Kpt (fun k => k = B.cb) w1 w2).trans (HKP3.out.mono fun k _ h => h)).set (p := ⟨w1.heap.size, 3, none⟩) (fun h => absurd h (Nat.lt_irrefl _)) _
    have hp4 := HPV.out.keptCn HK2.out.cell hk4
    have hE4 : Env w4 := HE1.out.kpt hk4 fun k hk => by rw [hk]; exact hX
    clear s0 s1 s2 s3 e6 fm3 hw4
    obtain ⟨s0, s1, s2, s3⟩ := cells4 hm4
    have HC4 := Lib.hid hc4; have HN4 := Lib.hid hn4; have HP4 := Lib.hid hp4; have HE4 := Lib.hid hE4; have HK4 := Lib.hid hk4
    clear hm4 hc4 hn4 hp4 hE4 hk4
    go_wp2_with fail
    go_at_call 29
    refine (emits_any { B with ans := none } { c with answer := none } { r with close := r.close || c.ends } (.slice ad r.fields.length cap) w4 HE4.out hX HC4.out HP4.out HROK.out).mono ?_
    generalize hCE : cnEmits { c with answer := none } { r with close := r.close || c.ends } = CE
    rw [hCE] at HX
    have hrq : CE.2.request = Rq.zero := by rw [← hCE]; rfl
    have hps : CE.1.ps = c.ps := by rw [← hCE]; rfl
    have han : CE.1.answer = none := by rw [← hCE]; rfl
    have HRQ := Lib.hid hrq; have HPS := Lib.hid hps; have HAN := Lib.hid han
    clear hCE hrq hps han
    obtain ⟨C2, A⟩ := CE
    simp only at HX HRQ HPS HAN ⊢
    rintro e wE ⟨rfl, hcE, hkE⟩
    have hnE := (hkE.block _ (lt_of_blk HN4.out) hneN).trans HN4.out
    clear s0 s1 s2 s3
    obtain ⟨⟨n0, n1, n2, n3, n4, n5, n6, n7, n8, n9, n10, n11, n12, n13, n14⟩, nf⟩ := cells15 hnE
    have g0 := nf 0; have g1 := nf 1; have g2 := nf 2; have g3 := nf 3; have g4 := nf 4; have g5 := nf 5; have g6 := nf 6; have g7 := nf 7; have g8 := nf 8; have g9 := nf 9; have g10 := nf 10; have g11 := nf 11; have g12 := nf 12; have g13 := nf 13; have g14 := nf 14
    clear nf
    have HCE := Lib.hid hcE; have HNE := Lib.hid hnE; have HKE := Lib.hid hkE
    clear hcE hnE hkE
    unfold actV actCells nilS
    go_wp2_with fail
    refine bodyPost_ret (results_cell_row2 rfl _ _ w.heap.size 37 (actCells A (.slice none 0 0) (.slice none 0 0)).toArray (0, 0) _ rfl (act_heap HNE.out A (.slice none 0 0) (.slice none 0 0)) Tryz.underlying37 rfl (by kernel_rfl)) rfl ?_
    have hkp : Kpt (fun k => k = B.cb) w (putAct wE w.heap.size A (.slice none 0 0) (.slice none 0 0)) := putAct_kpt (S := fun k => k = B.cb) (N := w.heap.size) (fun h => absurd h (Nat.lt_irrefl _)) (((Kpt.of hb1 : Kpt (fun k => k = B.cb) w w1).trans (HK4.out.mono fun k _ h => h)).trans (HKE.out.mono fun k _ h => h)) A (.slice none 0 0) (.slice none 0 0)
    have hcb := (putAct_ne hneN.symm A (.slice none 0 0) (.slice none 0 0)).trans HCE.out
    obtain ⟨c0, x1, x2, x3⟩ := HD.out.some_ i B HK0.out
    have hx0 : c0 = c := by rw [HK1.out] at x1; exact (Option.some.inj x1).symm
    subst hx0
    rw [HX.out]
    exact ⟨_, _, rfl, HD.out.emit HK0.out x2 x3 hkp hcb rfl rfl rfl HPS.out HAN.out, by rw [show ((d.set i C2, A, (0 : Int)).2.1).request = Rq.zero from HRQ.out]; exact PairsAt.nil _, by rw [show ((d.set i C2, A, (0 : Int)).2.1).request = Rq.zero from HRQ.out]; exact PairsAt.nil _⟩
  | none =>
  rw [hca] at han
  rw [han.none_of] at p7
  simp only [ansV, Option.map_none, ptrV] at p7
  have HCA := Lib.hid hca; clear han hca
  cases hwt : c.waits with
  | true =>
    have hx := HR.out
    unfold cnPick at hx
    rw [HCA.out] at hx
    simp only at hx
    rw [if_pos hwt] at hx
    rw [Dm.set_self HK1.out] at hx
    rw [hwt] at p4
    have HX := Lib.hid hx; clear hx hwt pf
    go_enter Tryz.func11, Tryz.ntmps11
    go_upto_region 1 with fail
    rw [HW1.out]
    go_wp2_with (first | (go_at_call 26; refine HIS.out.mono ?_; rintro e wE ⟨rfl, hwE⟩; rw [hwE]; clear hwE wE) | (go_at_call 22; refine HO.out.mono ?_; rintro e wE ⟨rfl, hwE⟩; rw [hwE]; clear hwE wE))
    refine bodyPost_ret (results_cell_row2 rfl _ _ w.heap.size 37 (actCells Clo.Act.zero (.slice none 0 0) (.slice none 0 0)).toArray (0, 0) _ rfl (act_heap HN1.out Clo.Act.zero (.slice none 0 0) (.slice none 0 0)) Tryz.underlying37 rfl (by kernel_rfl)) rfl ?_
    refine PickPost.zero HX.out HD.out ?_
    exact (putAct_kpt (S := fun _ => False) (N := w.heap.size) (fun h => absurd h (by omega)) (Kpt.of (hb1)) Clo.Act.zero (.slice none 0 0) (.slice none 0 0)).toBelow (Nat.le_refl _) (fun _ h => h.elim)
  | false =>
  rw [hwt] at p4
  cases hlo : c.lost with
  | true =>
    have hx := HR.out
    unfold cnPick at hx
    rw [HCA.out] at hx
    simp only at hx
    rw [if_neg (by rw [hwt]; decide), if_pos hlo] at hx
    rw [hlo] at p3
    have HX := Lib.hid hx; clear hx hlo hwt
    have hbn : B.ans = none := by have h := HK2.out.an; rw [HCA.out] at h; exact h.none_of
    have HBN := Lib.hid hbn; clear hbn pf
    have hneN : w.heap.size ≠ B.cb := fun e => by
      have h2 := (HD.out.tb _ _ (HD.out.tcb i B HK0.out).1).2
      omega
    go_enter Tryz.func11, Tryz.ntmps11
    go_upto_region 1 with fail
    rw [HW1.out]
    go_wp2_with (first | (go_at_call 26; refine HIS.out.mono ?_; rintro e wE ⟨rfl, hwE⟩; rw [hwE]; clear hwE wE) | (go_at_call 22; refine HO.out.mono ?_; rintro e wE ⟨rfl, hwE⟩; rw [hwE]; clear hwE wE))
    go_at_call 30
    refine (plain_any _ _ _ _).mono ?_
    rintro e w4 ⟨rfl, hb4⟩
    have HC4 := Lib.hid ((hb4.block _ (lt_of_blk HK2.out.cell)).trans HK2.out.cell)
    have HN4 := Lib.hid ((hb4.block _ (lt_of_blk HN1.out)).trans HN1.out)
    have HE4 := Lib.hid (HE1.out.below hb4)
    have HK4 := Lib.hid (Kpt.of hb4 : Kpt (fun k => k = B.cb) w1 w4)
    clear p0 p1 p2 p3 p4 p5 p6 p7 d0 d1 d2 d3 d4 n0 n1 n2 n3 n4 n5 n6 n7 n8 n9 n10 n11 n12 n13 n14 g0 g1 g2 g3 g4 g5 g6 g7 g8 g9 g10 g11 g12 g13 g14
    go_wp2_with fail
    go_at_call 29
    refine (emitsPlain B c 413 true w4 HE4.out hX HC4.out).mono ?_
    generalize hCE : cnEmits c (plainR 413 true) = CE
    rw [hCE] at HX
    have hrq : CE.2.request = Rq.zero := by rw [← hCE]; rfl
    have hps : CE.1.ps = c.ps := by rw [← hCE]; rfl
    have han : CE.1.answer = none := by rw [← hCE]; exact HCA.out
    have HRQ := Lib.hid hrq; have HPS := Lib.hid hps; have HAN := Lib.hid han
    clear hCE hrq hps han
    obtain ⟨C2, A⟩ := CE
    simp only at HX HRQ HPS HAN ⊢
    rintro e wE ⟨rfl, hcE, hkE⟩
    have hnE := (hkE.block _ (lt_of_blk HN4.out) hneN).trans HN4.out
    obtain ⟨⟨n0, n1, n2, n3, n4, n5, n6, n7, n8, n9, n10, n11, n12, n13, n14⟩, nf⟩ := cells15 hnE
    have g0 := nf 0; have g1 := nf 1; have g2 := nf 2; have g3 := nf 3; have g4 := nf 4; have g5 := nf 5; have g6 := nf 6; have g7 := nf 7; have g8 := nf 8; have g9 := nf 9; have g10 := nf 10; have g11 := nf 11; have g12 := nf 12; have g13 := nf 13; have g14 := nf 14
    clear nf
    have HCE := Lib.hid hcE; have HNE := Lib.hid hnE; have HKE := Lib.hid hkE
    clear hcE hnE hkE
    unfold actV actCells
    go_wp2_with fail
    refine bodyPost_ret (results_cell_row2 rfl _ _ w.heap.size 37 (actCells A (.slice none 0 0) (.slice none 0 0)).toArray (0, 0) _ rfl (act_heap HNE.out A (.slice none 0 0) (.slice none 0 0)) Tryz.underlying37 rfl (by kernel_rfl)) rfl ?_
    have hkp : Kpt (fun k => k = B.cb) w (putAct wE w.heap.size A (.slice none 0 0) (.slice none 0 0)) := putAct_kpt (S := fun k => k = B.cb) (N := w.heap.size) (fun h => absurd h (Nat.lt_irrefl _)) (((Kpt.of hb1 : Kpt (fun k => k = B.cb) w w1).trans (HK4.out.mono fun k _ h => h)).trans (HKE.out.mono fun k _ h => h)) A (.slice none 0 0) (.slice none 0 0)
    have hcb := (putAct_ne hneN.symm A (.slice none 0 0) (.slice none 0 0)).trans HCE.out
    obtain ⟨c0, x1, x2, x3⟩ := HD.out.some_ i B HK0.out
    have hx0 : c0 = c := by rw [HK1.out] at x1; exact (Option.some.inj x1).symm
    subst hx0
    rw [HX.out]
    exact ⟨_, _, rfl, HD.out.emit HK0.out x2 x3 hkp hcb rfl rfl HBN.out HPS.out HAN.out, by rw [show ((d.set i C2, A, (0 : Int)).2.1).request = Rq.zero from HRQ.out]; exact PairsAt.nil _, by rw [show ((d.set i C2, A, (0 : Int)).2.1).request = Rq.zero from HRQ.out]; exact PairsAt.nil _⟩
  | false =>
  rw [hlo] at p3
  have hx := HR.out
  rw [cnPick_none d i c HCA.out] at hx
  rw [if_neg (by rw [hwt]; decide), if_neg (by rw [hlo]; decide)] at hx
  have hbn : B.ans = none := by have h := HK2.out.an; rw [HCA.out] at h; exact h.none_of
  have HBN := Lib.hid hbn
  have htb := HD.out.tcb i B HK0.out
  have hneN : w.heap.size ≠ B.cb := fun e => by
    have h2 := (HD.out.tb _ _ htb.1).2
    omega
  have hneNp : w.heap.size ≠ B.pb := fun e => by
    have h2 := (HD.out.tb _ _ htb.2.1).2
    omega
  have hneP : B.cb ≠ B.pb := fun e => by
    have h2 := htb.1
    rw [e, htb.2.1] at h2; cases h2
  have hXp := (HD.out.tb _ _ htb.2.1).1
  have hcpw := (HD.out.tb _ _ htb.1).2
  have hppw := (HD.out.tb _ _ htb.2.1).2
  have hnx := fun W h1 h2 => next_any B.pb ⟨c.ps.s.toArray⟩ c.ps.status W h1 hXp h2 (by show c.ps.s.length ≤ _; have := HK3.out.s; omega)
  have he : (⟨bl ⟨c.ps.s.toArray⟩, c.ps.status⟩ : Ps) = c.ps := rfl
  rw [he] at hnx
  unfold NextPost at hnx
  have hnl := next_len HK3.out.s
  have hng := next_good c.ps
  have hnb := next_body c.ps HK3.out.s
  generalize next c.ps = nx at hx hnx hnl hng hnb
  obtain ⟨np, nr, nok, nst⟩ := nx
  simp only at hx hnx hnl hng hnb
  have HX := Lib.hid hx; have HNX := Lib.hid (hnx w1 HE1.out HK2.out.ps); have HNL := Lib.hid hnl; have HNG := Lib.hid hng; have HNB := Lib.hid hnb
  clear hx hnx hnl hng hnb he hlo hwt hbn htb pf
  go_enter Tryz.func11, Tryz.ntmps11
  go_upto_region 1 with fail
  rw [HW1.out]
  go_wp2_with (first | (go_at_call 26; refine HIS.out.mono ?_; rintro e wE ⟨rfl, hwE⟩; rw [hwE]; clear hwE wE) | (go_at_call 22; refine HO.out.mono ?_; rintro e wE ⟨rfl, hwE⟩; rw [hwE]; clear hwE wE))
  go_at_call 31
  refine HNX.out.mono ?_
  rintro e w2 ⟨nv, nq, rfl, hp2, hv2, hq2, hk2, hvb, hqb⟩
  have hlc := Nat.lt_of_lt_of_le hcpw hb1.size
  have hc2 := (hk2.block _ hlc hneP).trans HK2.out.cell
  have hn2 := (hk2.block _ (lt_of_blk HN1.out) hneNp).trans HN1.out
  obtain ⟨va, vc, rfl, _, _, _⟩ := id hv2
  obtain ⟨qa, qc, rfl, _, _, _⟩ := id hq2
  have HP2 := Lib.hid hp2; have HC2 := Lib.hid hc2; have HN2 := Lib.hid hn2; have HV2 := Lib.hid hv2; have HQ2 := Lib.hid hq2; have HKP2 := Lib.hid hk2; have HVB := Lib.hid hvb; have HQB := Lib.hid hqb
  clear hp2 hc2 hn2 hv2 hq2 hk2 hvb hqb
  clear p0 p1 p2 p3 p4 p5 p6 p7 d0 d1 d2 d3 d4 n0 n1 n2 n3 n4 n5 n6 n7 n8 n9 n10 n11 n12 n13 n14 g0 g1 g2 g3 g4 g5 g6 g7 g8 g9 g10 g11 g12 g13 g14
  go_upto_region 16 with fail
  generalize hw3 : w2.alloc _ = w3
  have hb3 : Below w2.heap.size w2 w3 := by rw [← hw3]; exact (Below.refl _ _).alloc (Nat.le_refl _) _
  have hm3 : w3.heap[w2.heap.size]? = some (.cells #[.string ⟨nr.head.method.toArray⟩, .string ⟨nr.head.target.toArray⟩, .int .i64 nr.head.minor, .slice va nr.head.fields.length vc, .string ⟨nr.path.toArray⟩, .slice qa nr.query.length qc, .string ⟨nr.body.toArray⟩, .bool nr.close] 35 (0, 0)) := by rw [← hw3]; exact heap_alloc_new _ _
  have hp3 := (hb3.block _ (lt_of_blk HP2.out)).trans HP2.out
  have hc3 := (hb3.block _ (lt_of_blk HC2.out)).trans HC2.out
  have hn3 := (hb3.block _ (lt_of_blk HN2.out)).trans HN2.out
  have hkw3 : Kpt (fun k => k = B.cb ∨ k = B.pb) w w3 := ((Kpt.of hb1).trans (HKP2.out.mono fun k _ h => .inr h)).below hb3
  have hE3 : Env w3 := HE1.out.kpt ((HKP2.out : Kpt (fun k => k = B.pb) w1 w2).below hb3) fun k hk => by rw [hk]; exact hXp
  have HM3 := Lib.hid hm3; have HP3 := Lib.hid hp3; have HC3 := Lib.hid hc3; have HN3 := Lib.hid hn3; have HE3 := Lib.hid hE3; have HKW3 := Lib.hid hkw3
  have HV3 := Lib.hid (HV2.out.below hb3); have HQ3 := Lib.hid (HQ2.out.below hb3)
  clear hw3 hm3 hp3 hc3 hn3 hE3 hkw3
  have hzN : w1.heap.size = w.heap.size + 1 := by rw [← HW1.out]; simp
  have HZN := Lib.hid hzN; clear hzN
  by_cases hst : nst = 0
  · have t1 : (nst != 0) = false := by rw [hst]; rfl
    have hx := HX.out
    rw [if_neg (fun h => h hst)] at hx
    clear hst
    cases nok with
    | false =>
      rw [if_pos rfl] at hx
      have HX2 := Lib.hid hx; clear hx
      obtain ⟨⟨n0, n1, n2, n3, n4, n5, n6, n7, n8, n9, n10, n11, n12, n13, n14⟩, nf⟩ := cells15 HN3.out
      have g0 := nf 0; have g1 := nf 1; have g2 := nf 2; have g3 := nf 3; have g4 := nf 4; have g5 := nf 5; have g6 := nf 6; have g7 := nf 7; have g8 := nf 8; have g9 := nf 9; have g10 := nf 10; have g11 := nf 11; have g12 := nf 12; have g13 := nf 13; have g14 := nf 14
      clear nf
      go_wp2_with fail
      refine bodyPost_ret (results_cell_row2 rfl _ _ w.heap.size 37 (actCells Clo.Act.zero (.slice none 0 0) (.slice none 0 0)).toArray (0, 0) _ rfl (act_heap HN3.out Clo.Act.zero (.slice none 0 0) (.slice none 0 0)) Tryz.underlying37 rfl (by kernel_rfl)) rfl ?_
      have hkp : Kpt (fun k => k = B.cb ∨ k = B.pb) w (putAct w3 w.heap.size Clo.Act.zero (.slice none 0 0) (.slice none 0 0)) := putAct_kpt (S := fun k => k = B.cb ∨ k = B.pb) (N := w.heap.size) (fun h => absurd h (Nat.lt_irrefl _)) HKW3.out Clo.Act.zero (.slice none 0 0) (.slice none 0 0)
      have hcb := (putAct_ne hneN.symm Clo.Act.zero (.slice none 0 0) (.slice none 0 0)).trans HC3.out
      have hpb := (putAct_ne hneNp.symm Clo.Act.zero (.slice none 0 0) (.slice none 0 0)).trans HP3.out
      rw [HX2.out]
      obtain ⟨G', y1, y2, _⟩ := HD.out.turn (c' := { c with ps := np }) HK0.out hkp hcb hpb HNL.out HBN.out HCA.out
      exact ⟨_, _, rfl, ⟨G', y1, y2⟩, PairsAt.nil _, PairsAt.nil _⟩
    | true =>
      rw [if_neg (by decide)] at hx
      obtain ⟨G1, y1, y2, y3, y4⟩ := HD.out.turn (c' := { c with ps := np }) HK0.out HKW3.out HC3.out HP3.out HNL.out HBN.out HCA.out
      have htN : G1.tag w.heap.size = none := by
        cases ht : G1.tag w.heap.size with
        | none => rfl
        | some t =>
          rcases y4 w.heap.size (by rw [ht]; simp) with h | h
          · cases ht2 : G.tag w.heap.size with
            | none => exact absurd ht2 h
            | some t2 => have := (HD.out.tb _ _ ht2).2; omega
          · have := lt_of_blk HN3.out; omega
      have hrq := drequest_any D G1 (d.set i { c with ps := np }) i B { c with ps := np } nr va qa nr.head.fields.length vc nr.query.length qc w3 HE3.out y1 y3 (upd_same _ _ _) HV3.out HQ3.out HNG.out (by have := HNB.out; omega)
      have hsame := dmRequest_same (d.set i { c with ps := np }) { c with ps := np } nr
      generalize dmRequest (d.set i { c with ps := np }) { c with ps := np } nr = CE at hx hrq hsame
      obtain ⟨C2, A⟩ := CE
      simp only at hx hsame
      have HX2 := Lib.hid hx; have HRQ := Lib.hid hrq; have HSM := Lib.hid hsame; have HG1 := Lib.hid y1; have HG2 := Lib.hid y2; have HG3 := Lib.hid y3; have HTN := Lib.hid htN
      clear hx hrq hsame y1 y2 y3 y4 htN
      obtain ⟨r0, r1, r2, r3, r4, r5, r6, r7⟩ := rq_cells HM3.out
      go_wp2_with fail
      go_at_call 32
      refine HRQ.out.mono ?_
      rintro e wE hpost
      have hpost' : ∃ (va' : Option Addr) (vn' vc' : Nat) (qa' : Option Addr) (qn' qc' : Nat), ActPost B C2 A (.slice va' vn' vc') (.slice qa' qn' qc') w3 e wE ∧ (∀ W, Kpt (fun k => k = w.heap.size) wE W → PairsAt W (.slice va' vn' vc') A.request.head.fields ∧ PairsAt W (.slice qa' qn' qc') A.request.query) := by
        rcases hpost with ⟨h1, h2⟩ | ⟨h1, h2, h3⟩
        · refine ⟨none, 0, 0, none, 0, 0, h1, fun W _ => ?_⟩
          simp only at h2
          rw [h2]
          exact ⟨PairsAt.nil _, PairsAt.nil _⟩
        · refine ⟨va, nr.head.fields.length, vc, qa, nr.query.length, qc, h1, fun W hW => ⟨h2.kept fun g hg hl => hW.block g hl ?_, h3.kept fun g hg hl => hW.block g hl ?_⟩⟩
          · have := HVB.out g hg; have := HZN.out; omega
          · have := HQB.out g hg; have := HZN.out; omega
      clear hpost
      obtain ⟨va', vn', vc', qa', qn', qc', ⟨rfl, hcE, hkE⟩, hpairs⟩ := hpost'
      have hnE := (hkE.block _ (lt_of_blk HN3.out) hneN).trans HN3.out
      clear r0 r1 r2 r3 r4 r5 r6 r7
      obtain ⟨⟨n0, n1, n2, n3, n4, n5, n6, n7, n8, n9, n10, n11, n12, n13, n14⟩, nf⟩ := cells15 hnE
      have g0 := nf 0; have g1 := nf 1; have g2 := nf 2; have g3 := nf 3; have g4 := nf 4; have g5 := nf 5; have g6 := nf 6; have g7 := nf 7; have g8 := nf 8; have g9 := nf 9; have g10 := nf 10; have g11 := nf 11; have g12 := nf 12; have g13 := nf 13; have g14 := nf 14
      have HCE := Lib.hid hcE; have HNE := Lib.hid hnE; have HKE := Lib.hid hkE; have HPR := Lib.hid hpairs
      clear hcE hnE hkE hpairs nf
      simp only at HCE HKE ⊢
      unfold actV actCells
      go_wp2_with fail
      refine bodyPost_ret (results_cell_row2 rfl _ _ w.heap.size 37 (actCells A (.slice va' vn' vc') (.slice qa' qn' qc')).toArray (0, 0) _ rfl (act_heap HNE.out A (.slice va' vn' vc') (.slice qa' qn' qc')) Tryz.underlying37 rfl (by kernel_rfl)) rfl ?_
      have hkN : Kpt (fun k => k = w.heap.size) wE (putAct wE w.heap.size A (.slice va' vn' vc') (.slice qa' qn' qc')) := putAct_kpt (S := fun k => k = w.heap.size) (N := w.heap.size) (fun _ => rfl) (Kpt.refl _ _) A (.slice va' vn' vc') (.slice qa' qn' qc')
      have hat : CnAt w3 B { c with ps := np } := ⟨HC3.out, HP3.out, by rw [HBN.out]; show AnsAt w3 none c.answer; rw [HCA.out]; trivial⟩
      obtain ⟨G2, u1, u2⟩ := HG1.out.setCn (c' := C2) HG3.out hat ⟨HNL.out, fun r hr => by have : c.answer = some r := hr; rw [HCA.out] at this; cases this⟩ HKE.out HCE.out HSM.out.1 HSM.out.2
      have htN2 : G2.tag w.heap.size = none := by
        cases ht : G2.tag w.heap.size with
        | none => rfl
        | some t =>
          rcases u2.tags w.heap.size (by rw [ht]; simp) with h | h
          · exact absurd HTN.out h
          · have := lt_of_blk HN3.out; omega
      rw [HX2.out]
      refine ⟨_, _, rfl, ⟨G2, ?_, ?_⟩, (HPR.out _ hkN).1, (HPR.out _ hkN).2⟩
      · rw [Dm.set_set] at u1
        exact u1.kept hkN fun k hk => by rw [hk]; exact htN2
      · exact (HG2.out.trans u2).late (hkN.mono fun k _ hk => Nat.le_of_eq hk.symm)
  · have t1 : (nst != 0) = true := by simpa using hst
    have hx := HX.out
    rw [if_pos hst] at hx
    have HX2 := Lib.hid hx; clear hx hst
    go_wp2_with fail
    go_at_call 30
    refine (plain_any _ _ _ _).mono ?_
    rintro e w4 ⟨rfl, hb4⟩
    have HC4 := Lib.hid ((hb4.block _ (lt_of_blk HC3.out)).trans HC3.out)
    have HN4 := Lib.hid ((hb4.block _ (lt_of_blk HN3.out)).trans HN3.out)
    have HP4 := Lib.hid ((hb4.block _ (lt_of_blk HP3.out)).trans HP3.out)
    have HE4 := Lib.hid (HE3.out.below hb4)
    go_wp2_with fail
    go_at_call 29
    refine (emitsPlain B { c with ps := np } nst true w4 HE4.out hX HC4.out).mono ?_
    generalize hCE : cnEmits { c with ps := np } (plainR nst true) = CE
    rw [hCE] at HX2
    have hrq : CE.2.request = Rq.zero := by rw [← hCE]; rfl
    have hps : CE.1.ps = np := by rw [← hCE]; rfl
    have han : CE.1.answer = none := by rw [← hCE]; exact HCA.out
    have HRQ := Lib.hid hrq; have HPS := Lib.hid hps; have HAN := Lib.hid han
    clear hCE hrq hps han
    obtain ⟨C2, A⟩ := CE
    simp only at HX2 HRQ HPS HAN ⊢
    rintro e wE ⟨rfl, hcE, hkE⟩
    have hnE := (hkE.block _ (lt_of_blk HN4.out) hneN).trans HN4.out
    have hpE := (hkE.block _ (lt_of_blk HP4.out) hneP.symm).trans HP4.out
    obtain ⟨⟨n0, n1, n2, n3, n4, n5, n6, n7, n8, n9, n10, n11, n12, n13, n14⟩, nf⟩ := cells15 hnE
    have g0 := nf 0; have g1 := nf 1; have g2 := nf 2; have g3 := nf 3; have g4 := nf 4; have g5 := nf 5; have g6 := nf 6; have g7 := nf 7; have g8 := nf 8; have g9 := nf 9; have g10 := nf 10; have g11 := nf 11; have g12 := nf 12; have g13 := nf 13; have g14 := nf 14
    have HCE := Lib.hid hcE; have HNE := Lib.hid hnE; have HKE := Lib.hid hkE; have HPE := Lib.hid hpE
    clear hcE hnE hkE hpE nf
    unfold actV actCells
    go_wp2_with fail
    refine bodyPost_ret (results_cell_row2 rfl _ _ w.heap.size 37 (actCells A (.slice none 0 0) (.slice none 0 0)).toArray (0, 0) _ rfl (act_heap HNE.out A (.slice none 0 0) (.slice none 0 0)) Tryz.underlying37 rfl (by kernel_rfl)) rfl ?_
    have hkp : Kpt (fun k => k = B.cb ∨ k = B.pb) w (putAct wE w.heap.size A (.slice none 0 0) (.slice none 0 0)) := putAct_kpt (S := fun k => k = B.cb ∨ k = B.pb) (N := w.heap.size) (fun h => absurd h (Nat.lt_irrefl _)) ((HKW3.out.below hb4).trans (HKE.out.mono fun k _ h => .inl h)) A (.slice none 0 0) (.slice none 0 0)
    have hcb := (putAct_ne hneN.symm A (.slice none 0 0) (.slice none 0 0)).trans HCE.out
    have hpb := (putAct_ne hneNp.symm A (.slice none 0 0) (.slice none 0 0)).trans HPE.out
    rw [HX2.out]
    obtain ⟨G', y1, y2, _⟩ := HD.out.turn (c' := C2) HK0.out hkp hcb (by rw [HPS.out]; exact hpb) (by rw [HPS.out]; exact HNL.out) HBN.out HAN.out
    exact ⟨_, _, rfl, ⟨G', y1, y2⟩, by rw [show ((d.set i C2, A, (0 : Int)).2.1).request = Rq.zero from HRQ.out]; exact PairsAt.nil _, by rw [show ((d.set i C2, A, (0 : Int)).2.1).request = Rq.zero from HRQ.out]; exact PairsAt.nil _⟩
end Go.Proofs.YtacdkcapejijdaaGreatDoor
