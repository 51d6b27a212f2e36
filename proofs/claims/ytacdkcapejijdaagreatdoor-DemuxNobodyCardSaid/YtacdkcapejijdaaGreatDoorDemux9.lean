/- package demux: login. -/
import Derived.Test.YtacdkcapejijdaaGreatDoorDemux8
namespace Go.Proofs.YtacdkcapejijdaaGreatDoor
open Go.RowKit Go.Maps Go.WideMaps Clo

theorem emitsPlain (B : CnB) (c : Cn) (st : Int) (cl : Bool) (w : World) (hE : Env w) (hX : envB ≤ B.cb) (hb : w.heap[B.cb]? = some (cnObj B c)) :
    Calls Tryz.prog 29 #[.pointer (some ⟨B.cb, 0, none⟩), .agg #[.int .i64 st, .slice none 0 0, .string ⟨#[]⟩, .bool cl]] w
      (ActPost B (cnEmits c (plainR st cl)).1 (cnEmits c (plainR st cl)).2 (.slice none 0 0) (.slice none 0 0) w) :=
  emits_any B c (plainR st cl) nilS w hE hX hb (PairsAt.nil w) ⟨by intro k hk; simp [plainR] at hk, by simp [plainR]⟩
theorem rq_cells {w : World} {N : Nat} {r : Rq} {v q : Value} {T : TypeId} (h : w.heap[N]? = some (.cells #[.string ⟨r.head.method.toArray⟩, .string ⟨r.head.target.toArray⟩, .int .i64 r.head.minor, v, .string ⟨r.path.toArray⟩, q, .string ⟨r.body.toArray⟩, .bool r.close] T (0, 0))) :
    w.cell? ⟨N, 0, none⟩ = some (.string ⟨r.head.method.toArray⟩) ∧ w.cell? ⟨N, 1, none⟩ = some (.string ⟨r.head.target.toArray⟩) ∧ w.cell? ⟨N, 2, none⟩ = some (.int .i64 r.head.minor) ∧ w.cell? ⟨N, 3, none⟩ = some v ∧ w.cell? ⟨N, 4, none⟩ = some (.string ⟨r.path.toArray⟩) ∧ w.cell? ⟨N, 5, none⟩ = some q ∧ w.cell? ⟨N, 6, none⟩ = some (.string ⟨r.body.toArray⟩) ∧ w.cell? ⟨N, 7, none⟩ = some (.bool r.close) :=
  ⟨by rw [blk_cell h]; rfl, by rw [blk_cell h]; rfl, by rw [blk_cell h]; rfl, by rw [blk_cell h]; rfl, by rw [blk_cell h]; rfl, by rw [blk_cell h]; rfl, by rw [blk_cell h]; rfl, by rw [blk_cell h]; rfl⟩

set_option maxHeartbeats 4000000 in
set_option maxRecDepth 100000 in
theorem login_any (B : CnB) (c : Cn) (r : Rq) (va qa : Option Addr) (vn vc qn qc : Nat) (w : World) (hE : Env w) (hX : envB ≤ B.cb) (hb : w.heap[B.cb]? = some (cnObj B c)) (hbd : r.body.length ≤ 1073741824) :
    Calls Tryz.prog 50 #[.pointer (some ⟨B.cb, 0, none⟩), rqV r (.slice va vn vc) (.slice qa qn qc)] w
      (ActPost B (cnLogin c r).1 (cnLogin c r).2 nilS nilS w) := by
  obtain ⟨C, hC⟩ : ∃ C, C = cnLogin c r := ⟨_, rfl⟩
  rw [← hC]
  have HB := Lib.hid hb; have HE := Lib.hid hE
  clear hb hE
  have hlt := lt_of_blk HB.out
  have hC0 : ∀ x y, getP (form r.body).1 userW = x → getP (form r.body).1 wordW = y → C = match x, y with
    | some name, some word =>
      if (form r.body).2.1 ≠ 0 then cnEmits c (plainR 400 r.close)
      else if c.user ≠ -1 then cnEmits c (plainR 403 r.close)
      else cnHands c r (-1) { Clo.Act.zero with kind := 2, name := name, word := word }
    | _, _ => cnEmits c (plainR 400 r.close) := fun x y hx hy => by rw [hC, cnLogin, hx, hy]; rfl
  clear hC
  have hfm := fun W hE => form_any ⟨r.body.toArray⟩ W hE (by show r.body.length < _; omega)
  have e0 : bl ⟨r.body.toArray⟩ = r.body := rfl
  rw [e0] at hfm
  unfold FormPost at hfm
  generalize form r.body = F at hfm hC0
  obtain ⟨fl, fe, fp⟩ := F
  simp only at hfm hC0
  have hg1 := fun W cv (h : PairsAt W cv fl) => get_any cv fl ⟨#[117, 115, 101, 114]⟩ W h
  have hg2 := fun W cv (h : PairsAt W cv fl) => get_any cv fl ⟨#[119, 111, 114, 100]⟩ W h
  have e1 : bl ⟨#[117, 115, 101, 114]⟩ = userW := rfl
  have e2 : bl ⟨#[119, 111, 114, 100]⟩ = wordW := rfl
  rw [e1] at hg1
  rw [e2] at hg2
  unfold GetPost at hg1 hg2
  have hC := hC0 _ _ rfl rfl
  clear hC0
  generalize getP fl userW = nm at hC hg1
  generalize getP fl wordW = wd at hC hg2
  have HC := Lib.hid hC; have HF := Lib.hid hfm; have HG1 := Lib.hid hg1; have HG2 := Lib.hid hg2
  clear hC hfm hg1 hg2 e0 e1 e2
  unfold rqV
  go_enter Tryz.func50, Tryz.ntmps50
  go_upto_region 1 with fail
  generalize hw1 : (w.alloc _).alloc _ = w1
  have hb1 : Below w.heap.size w w1 := by rw [← hw1]; exact ((Below.refl _ _).alloc (Nat.le_refl _) _).alloc (by simp) _
  have hr1 : w1.heap[w.heap.size]? = some (.cells #[.string ⟨r.head.method.toArray⟩, .string ⟨r.head.target.toArray⟩, .int .i64 r.head.minor, .slice va vn vc, .string ⟨r.path.toArray⟩, .slice qa qn qc, .string ⟨r.body.toArray⟩, .bool r.close] 35 (0, 0)) := by rw [← hw1, Lib.alloc_old _ _ _ (by simp)]; exact heap_alloc_new _ _
  have hn1 : w1.heap[w.heap.size + 1]? = some (.cells actZero 37 (0, 0)) := by rw [← hw1]; exact alloc_at _ _ _ (by simp)
  obtain ⟨r0, r1, r2, r3, r4, r5, r6, r7⟩ := rq_cells hr1
  have HR1 := Lib.hid hr1; have HN1 := Lib.hid hn1; have HE1 := Lib.hid (HE.out.below hb1)
  clear hw1 hr1 hn1 r0 r1 r2 r3 r4 r5 r7
  go_wp2_with fail
  go_at_call 86
  refine (HF.out _ HE1.out).mono ?_
  rintro e w2 ⟨fv, rfl, hof, hb2⟩
  obtain ⟨fa, fc, rfl⟩ := hof.len
  have HO2 := Lib.hid hof.at
  clear hof r6
  go_wp2_with fail
  go_at_call 90
  refine (HG1.out _ _ HO2.out).mono ?_
  rintro e w3 ⟨rfl, hb3⟩
  have HO3 := Lib.hid (HO2.out.below hb3)
  go_wp2_with fail
  go_at_call 90
  refine (HG2.out _ _ HO3.out).mono ?_
  rintro e w4 ⟨rfl, hb4⟩
  have hb14 := (hb2.trans (hb3.mono hb2.size)).trans (hb4.mono (Nat.le_trans hb2.size hb3.size))
  have hb04 := hb1.trans (hb14.mono hb1.size)
  have hr4 := (hb14.block _ (lt_of_blk HR1.out)).trans HR1.out
  have hn4 := (hb14.block _ (lt_of_blk HN1.out)).trans HN1.out
  have hc4 := (hb04.block _ hlt).trans HB.out
  obtain ⟨r0, r1, r2, r3, r4, r5, r6, r7⟩ := rq_cells hr4
  have p1 : w4.cell? ⟨B.cb, 1, none⟩ = some (.int .i64 c.user) := by rw [blk_cell hc4]; rfl
  have HN4 := Lib.hid hn4; have HC4 := Lib.hid hc4; have HE4 := Lib.hid (HE.out.below hb04)
  clear hr4 hn4 hc4 hb14
  have hz4 := hb04.size
  have hne : w.heap.size + 1 ≠ B.cb := by omega
  have hne0 : w.heap.size ≠ B.cb := by omega
  go_upto_region 4 with fail
  by_cases hgood : fe = 0 ∧ nm.isSome = true ∧ wd.isSome = true
  · obtain ⟨h1, h2, h3⟩ := hgood
    obtain ⟨a, rfl⟩ := Option.isSome_iff_exists.1 h2
    obtain ⟨b, rfl⟩ := Option.isSome_iff_exists.1 h3
    subst h1
    have hC1 := HC.out
    simp only at hC1
    rw [if_neg (by simp)] at hC1
    clear h2 h3
    by_cases hu : c.user = -1
    · have t2 : (c.user != -1) = false := by rw [hu]; rfl
      rw [if_neg (fun h => h hu)] at hC1
      have HC1 := Lib.hid hC1; clear hC1 hu
      go_wp2_with fail
      go_at_call 52
      refine (hands_any B c r (-1) { Clo.Act.zero with kind := 2, name := a, word := b } none none 0 0 0 0 (.slice va vn vc) (.slice qa qn qc) w4 hX HC4.out).mono ?_
      generalize hA : (cnHands c r (-1) { Clo.Act.zero with kind := 2, name := a, word := b }).2 = A
      have HAA := Lib.hid hA; clear hA
      rintro e w6 ⟨rfl, hc6, hk6⟩
      have hn6 := (hk6.block _ (lt_of_blk HN4.out) hne).trans HN4.out
      clear r0 r1 r2 r3 r4 r5 r6 r7 p1
      obtain ⟨⟨n0, n1, n2, n3, n4, n5, n6, n7, n8, n9, n10, n11, n12, n13, n14⟩, nf⟩ := cells15 hn6
      have g0 := nf 0; have g1 := nf 1; have g2 := nf 2; have g3 := nf 3; have g4 := nf 4; have g5 := nf 5; have g6 := nf 6; have g7 := nf 7; have g8 := nf 8; have g9 := nf 9; have g10 := nf 10; have g11 := nf 11; have g12 := nf 12; have g13 := nf 13; have g14 := nf 14
      have HC6 := Lib.hid hc6; have HN6 := Lib.hid hn6; have HK6 := Lib.hid hk6
      clear hc6 hn6 hk6 nf
      unfold actV actCells
      go_wp2_with fail
      refine bodyPost_ret (results_cell_row rfl _ _ (w.heap.size + 1) 37 (actCells A (.slice none 0 0) (.slice none 0 0)).toArray (0, 0) _ rfl (act_heap HN6.out A (.slice none 0 0) (.slice none 0 0)) Tryz.underlying37 rfl (by kernel_rfl)) rfl ?_
      rw [HC1.out, HAA.out]
      refine ⟨rfl, (putAct_ne hne.symm A (.slice none 0 0) (.slice none 0 0)).trans HC6.out, ?_⟩
      exact putAct_kpt (S := fun k => k = B.cb) (N := w.heap.size + 1) (fun h => absurd h (by omega)) ((Kpt.of hb04 : Kpt (fun k => k = B.cb) w w4).trans HK6.out) A (.slice none 0 0) (.slice none 0 0)
    · have t2 : (c.user != -1) = true := by simpa using hu
      rw [if_pos hu] at hC1
      have HC1 := Lib.hid hC1; clear hC1 hu
      go_wp2_with fail
      go_at_call 30
      refine (plain_any _ _ _ _).mono ?_
      rintro e w5 ⟨rfl, hb5⟩
      have hc5 := (hb5.block _ (lt_of_blk HC4.out)).trans HC4.out
      have hn5 := (hb5.block _ (lt_of_blk HN4.out)).trans HN4.out
      have HE5 := Lib.hid (HE4.out.below hb5); have HC5 := Lib.hid hc5; have HN5 := Lib.hid hn5
      clear hc5 hn5 r0 r1 r2 r3 r4 r5 r6 r7 p1
      go_wp2_with fail
      go_at_call 29
      refine (emitsPlain B c 403 r.close w5 HE5.out hX HC5.out).mono ?_
      generalize hA : (cnEmits c (plainR 403 r.close)).2 = A
      have HAA := Lib.hid hA; clear hA
      rintro e w6 ⟨rfl, hc6, hk6⟩
      have hn6 := (hk6.block _ (lt_of_blk HN5.out) hne).trans HN5.out
      obtain ⟨⟨n0, n1, n2, n3, n4, n5, n6, n7, n8, n9, n10, n11, n12, n13, n14⟩, nf⟩ := cells15 hn6
      have g0 := nf 0; have g1 := nf 1; have g2 := nf 2; have g3 := nf 3; have g4 := nf 4; have g5 := nf 5; have g6 := nf 6; have g7 := nf 7; have g8 := nf 8; have g9 := nf 9; have g10 := nf 10; have g11 := nf 11; have g12 := nf 12; have g13 := nf 13; have g14 := nf 14
      have HC6 := Lib.hid hc6; have HN6 := Lib.hid hn6; have HK6 := Lib.hid hk6
      clear hc6 hn6 hk6 nf
      unfold actV actCells
      go_wp2_with fail
      refine bodyPost_ret (results_cell_row rfl _ _ (w.heap.size + 1) 37 (actCells A (.slice none 0 0) (.slice none 0 0)).toArray (0, 0) _ rfl (act_heap HN6.out A (.slice none 0 0) (.slice none 0 0)) Tryz.underlying37 rfl (by kernel_rfl)) rfl ?_
      rw [HC1.out, HAA.out]
      refine ⟨rfl, (putAct_ne hne.symm A (.slice none 0 0) (.slice none 0 0)).trans HC6.out, ?_⟩
      exact putAct_kpt (S := fun k => k = B.cb) (N := w.heap.size + 1) (fun h => absurd h (by omega)) (((Kpt.of hb04 : Kpt (fun k => k = B.cb) w w4).below hb5).trans HK6.out) A (.slice none 0 0) (.slice none 0 0)
  · have hC1 : C = cnEmits c (plainR 400 r.close) := by
      rw [HC.out]
      cases nm with
      | none => rfl
      | some a => cases wd with
        | none => rfl
        | some b => simp only; rw [if_pos (fun h => hgood ⟨h, rfl, rfl⟩)]
    have HC1 := Lib.hid hC1; clear hC1
    by_cases h1 : fe = 0
    · have t1 : (fe != 0) = false := by rw [h1]; rfl
      have hg2 : nm = none ∨ (∃ a, nm = some a ∧ wd = none) := by
        cases nm with
        | none => exact .inl rfl
        | some a => cases wd with
          | none => exact .inr ⟨a, rfl, rfl⟩
          | some b => exact absurd ⟨h1, rfl, rfl⟩ hgood
      clear hgood h1
      rcases hg2 with rfl | ⟨a, rfl, rfl⟩
      all_goals
        go_wp2_with fail
        go_at_call 30
        refine (plain_any _ _ _ _).mono ?_
        rintro e w5 ⟨rfl, hb5⟩
        have hc5 := (hb5.block _ (lt_of_blk HC4.out)).trans HC4.out
        have hn5 := (hb5.block _ (lt_of_blk HN4.out)).trans HN4.out
        have HE5 := Lib.hid (HE4.out.below hb5); have HC5 := Lib.hid hc5; have HN5 := Lib.hid hn5
        clear hc5 hn5 r0 r1 r2 r3 r4 r5 r6 r7 p1
        go_wp2_with fail
        go_at_call 29
        refine (emitsPlain B c 400 r.close w5 HE5.out hX HC5.out).mono ?_
        generalize hA : (cnEmits c (plainR 400 r.close)).2 = A
        have HAA := Lib.hid hA; clear hA
        rintro e w6 ⟨rfl, hc6, hk6⟩
        have hn6 := (hk6.block _ (lt_of_blk HN5.out) hne).trans HN5.out
        obtain ⟨⟨n0, n1, n2, n3, n4, n5, n6, n7, n8, n9, n10, n11, n12, n13, n14⟩, nf⟩ := cells15 hn6
        have g0 := nf 0; have g1 := nf 1; have g2 := nf 2; have g3 := nf 3; have g4 := nf 4; have g5 := nf 5; have g6 := nf 6; have g7 := nf 7; have g8 := nf 8; have g9 := nf 9; have g10 := nf 10; have g11 := nf 11; have g12 := nf 12; have g13 := nf 13; have g14 := nf 14
        have HC6 := Lib.hid hc6; have HN6 := Lib.hid hn6; have HK6 := Lib.hid hk6
        clear hc6 hn6 hk6 nf
        unfold actV actCells
        go_wp2_with fail
        refine bodyPost_ret (results_cell_row rfl _ _ (w.heap.size + 1) 37 (actCells A (.slice none 0 0) (.slice none 0 0)).toArray (0, 0) _ rfl (act_heap HN6.out A (.slice none 0 0) (.slice none 0 0)) Tryz.underlying37 rfl (by kernel_rfl)) rfl ?_
        rw [HC1.out, HAA.out]
        refine ⟨rfl, (putAct_ne hne.symm A (.slice none 0 0) (.slice none 0 0)).trans HC6.out, ?_⟩
        exact putAct_kpt (S := fun k => k = B.cb) (N := w.heap.size + 1) (fun h => absurd h (by omega)) (((Kpt.of hb04 : Kpt (fun k => k = B.cb) w w4).below hb5).trans HK6.out) A (.slice none 0 0) (.slice none 0 0)
    · have t1 : (fe != 0) = true := by simpa using h1
      clear hgood h1
      go_wp2_with fail
      go_at_call 30
      refine (plain_any _ _ _ _).mono ?_
      rintro e w5 ⟨rfl, hb5⟩
      have hc5 := (hb5.block _ (lt_of_blk HC4.out)).trans HC4.out
      have hn5 := (hb5.block _ (lt_of_blk HN4.out)).trans HN4.out
      have HE5 := Lib.hid (HE4.out.below hb5); have HC5 := Lib.hid hc5; have HN5 := Lib.hid hn5
      clear hc5 hn5 r0 r1 r2 r3 r4 r5 r6 r7 p1
      go_wp2_with fail
      go_at_call 29
      refine (emitsPlain B c 400 r.close w5 HE5.out hX HC5.out).mono ?_
      generalize hA : (cnEmits c (plainR 400 r.close)).2 = A
      have HAA := Lib.hid hA; clear hA
      rintro e w6 ⟨rfl, hc6, hk6⟩
      have hn6 := (hk6.block _ (lt_of_blk HN5.out) hne).trans HN5.out
      obtain ⟨⟨n0, n1, n2, n3, n4, n5, n6, n7, n8, n9, n10, n11, n12, n13, n14⟩, nf⟩ := cells15 hn6
      have g0 := nf 0; have g1 := nf 1; have g2 := nf 2; have g3 := nf 3; have g4 := nf 4; have g5 := nf 5; have g6 := nf 6; have g7 := nf 7; have g8 := nf 8; have g9 := nf 9; have g10 := nf 10; have g11 := nf 11; have g12 := nf 12; have g13 := nf 13; have g14 := nf 14
      have HC6 := Lib.hid hc6; have HN6 := Lib.hid hn6; have HK6 := Lib.hid hk6
      clear hc6 hn6 hk6 nf
      unfold actV actCells
      go_wp2_with fail
      refine bodyPost_ret (results_cell_row rfl _ _ (w.heap.size + 1) 37 (actCells A (.slice none 0 0) (.slice none 0 0)).toArray (0, 0) _ rfl (act_heap HN6.out A (.slice none 0 0) (.slice none 0 0)) Tryz.underlying37 rfl (by kernel_rfl)) rfl ?_
      rw [HC1.out, HAA.out]
      refine ⟨rfl, (putAct_ne hne.symm A (.slice none 0 0) (.slice none 0 0)).trans HC6.out, ?_⟩
      exact putAct_kpt (S := fun k => k = B.cb) (N := w.heap.size + 1) (fun h => absurd h (by omega)) (((Kpt.of hb04 : Kpt (fun k => k = B.cb) w w4).below hb5).trans HK6.out) A (.slice none 0 0) (.slice none 0 0)
end Go.Proofs.YtacdkcapejijdaaGreatDoor
