/- package demux: request. -/
import Derived.Test.YtacdkcapejijdaaGreatDoorDemux9
import Derived.Test.YtacdkcapejijdaaGreatDoorSpec5
namespace Go.Proofs.YtacdkcapejijdaaGreatDoor
open Go.RowKit Go.Maps Go.WideMaps Clo

theorem beq_lit (a : ByteArray) (l : List UInt8) : (a.toList == l) = decide (bl a = l) := by
  rw [toList_bl, Bool.eq_iff_iff, beq_iff_eq, decide_eq_true_iff]
/-- What an act's call leaves, slices told. -/
def DReqPost (B : CnB) (C : Cn × Clo.Act) (v0 q0 : Value) (w : World) (e : Ending) (w' : World) : Prop :=
  (ActPost B C.1 C.2 (.slice none 0 0) (.slice none 0 0) w e w' ∧ C.2.request = Rq.zero) ∨ (ActPost B C.1 C.2 v0 q0 w e w' ∧ PairsAt w' v0 C.2.request.head.fields ∧ PairsAt w' q0 C.2.request.query)
theorem DmAt.ne_cb {w : World} {D : Nat} {G : Gh} {d : Dm} (h : DmAt w D G d) {i : Int} {B : CnB} (hi : G.cs i = some B) : D ≠ B.cb := fun e => by
  have h1 := (h.tcb i B hi).1
  rw [← e, h.tD] at h1; cases h1

theorem cnLogin_req (c : Cn) (r : Rq) : (cnLogin c r).2.request = Rq.zero := by
  unfold cnLogin
  split
  · split
    · rfl
    · split <;> rfl
  · rfl
theorem PairsAt.keptCn {w w' : World} {v : Value} {l : List (Str × Str)} {B : CnB} {c : Cn} (h : PairsAt w v l) (hb : w.heap[B.cb]? = some (cnObj B c)) (hk : Kpt (fun k => k = B.cb) w w') : PairsAt w' v l := by
  obtain ⟨ad, cap, rfl, h1, h2, h3⟩ := h
  refine ⟨ad, cap, rfl, h1, h2, fun hne => ?_⟩
  obtain ⟨g, off, rfl, h4⟩ := h3 hne
  have hg : g ≠ B.cb := by
    intro e
    subst e
    have hl : 0 < l.length := List.length_pos_iff.2 hne
    have h5 := (h4 0 hl).1
    rw [blk_cell hb] at h5
    have hs : ∀ (j : Nat) (s : ByteArray), (#[Value.pointer (some ⟨B.pb, 0, none⟩), .int .i64 c.user, .bool c.closed, .bool c.lost, .bool c.waits, .int .i64 c.asks, .bool c.ends, ansV B.ans] : Array Value)[j]? ≠ some (Value.string s) := by
      intro j s
      rcases j with _|_|_|_|_|_|_|_|j
      · simp
      · simp
      · simp
      · simp
      · simp
      · simp
      · simp
      · simp [ansV]; cases (B.ans.map Prod.fst) <;> simp [ptrV]
      · simp
    exact hs _ _ h5
  refine ⟨g, off, rfl, fun i hi => ?_⟩
  obtain ⟨h5, h6⟩ := h4 i hi
  have hb := hk.block g (lt_of_cell h5) hg
  exact ⟨by rw [World.cell?_of_block (w := w) hb]; exact h5, by rw [World.cell?_of_block (w := w) hb]; exact h6⟩
set_option maxHeartbeats 8000000 in
set_option maxRecDepth 100000 in
theorem drequest_any (D : Nat) (G : Gh) (d : Dm) (i : Int) (B : CnB) (c : Cn) (r : Rq) (va qa : Option Addr) (vn vc qn qc : Nat) (w : World) (hE : Env w) (h : DmAt w D G d) (hi : G.cs i = some B) (hc : d.c i = some c)
    (hv : PairsAt w (.slice va vn vc) r.head.fields) (hq : PairsAt w (.slice qa qn qc) r.query) (hg : HdGood r.head) (hbd : r.body.length ≤ 1073741824) :
    Calls Tryz.prog 32 #[.pointer (some ⟨D, 0, none⟩), .pointer (some ⟨B.cb, 0, none⟩), rqV r (.slice va vn vc) (.slice qa qn qc)] w
      (DReqPost B (dmRequest d c r) (.slice va vn vc) (.slice qa qn qc) w) := by
  obtain ⟨C, hC⟩ : ∃ C, C = dmRequest d c r := ⟨_, rfl⟩
  rw [← hC]
  obtain ⟨c', hc1, hc2, hc3⟩ := h.some_ i B hi
  rw [hc] at hc1
  cases hc1
  have hX := (h.tb _ _ (h.tcb i B hi).1).1
  have hDne := h.ne_cb hi
  unfold dmRequest at hC
  have hlog := fun W h1 h2 => login_any B c r va qa vn vc qn qc W h1 hX h2 hbd
  have htk := fun W h1 (h2 : PairsAt W (.slice va vn vc) r.head.fields) => tokenOf_any r (.slice va vn vc) (.slice qa qn qc) W h1 h2 hg
  have htl := tokenOf_len r hg
  unfold rqV at hlog htk ⊢
  obtain ⟨pm, hpm⟩ : ∃ pm, pm = decide (r.head.method = postW) := ⟨_, rfl⟩
  obtain ⟨pl, hpl⟩ : ∃ pl, pl = decide (r.path = loginW) := ⟨_, rfl⟩
  obtain ⟨po, hpo⟩ : ∃ po, po = decide (r.path = logoutW) := ⟨_, rfl⟩
  have hC' : C = if (pm && pl) = true then cnLogin c r else match d.ss (tokenOf r) with
    | none => cnEmits c (plainR 401 r.close)
    | some user =>
      if c.user ≠ -1 ∧ c.user ≠ user then cnEmits c (plainR 403 r.close)
      else if c.user = -1 ∧ d.conns ≤ (dmCounts d user).1 then cnEmits c (plainR 503 true)
      else if (pm && po) = true then cnHands { c with user := user } r (-1) { Clo.Act.zero with kind := 3, user := user, token := tokenOf r }
        else if d.asks ≤ (dmCounts d user).2 then cnEmits { c with user := user } (plainR 503 r.close)
        else cnHands { c with user := user } r user { Clo.Act.zero with kind := 4, user := user, request := r } := by
    rw [hC, hpm, hpl, hpo]
    simp only [Bool.and_eq_true, decide_eq_true_eq]
    rfl
  clear hC
  obtain ⟨bm, ebm, bbm⟩ := str_of r.head.method
  obtain ⟨bp, ebp, bbp⟩ := str_of r.path
  have t0 : (bm.toList == [80, 79, 83, 84]) = pm := by rw [beq_lit, hpm, bbm]; rfl
  have t1 : (bp.toList == [47, 108, 111, 103, 105, 110]) = pl := by rw [beq_lit, hpl, bbp]; rfl
  have t2 : (bp.toList == [47, 108, 111, 103, 111, 117, 116]) = po := by rw [beq_lit, hpo, bbp]; rfl
  have HC := Lib.hid hC'; have HD := Lib.hid h; have HE := Lib.hid hE; have HCN := Lib.hid hc2; have HLG := Lib.hid hlog; have HTK := Lib.hid htk; have HV := Lib.hid hv; have HQ := Lib.hid hq; have HDC := Lib.hid hc
  have HBM := Lib.hid ebm; have HBP := Lib.hid ebp
  clear hC' h hE hc2 hc3 hlog htk hv hq hpm hpl hpo bbm bbp hc
  rw [ebm, ebp]
  go_enter Tryz.func32, Tryz.ntmps32
  go_upto_region 1 with fail
  rw [← ebm, ← ebp]
  generalize hw1 : (w.alloc _).alloc _ = w1
  have hb1 : Below w.heap.size w w1 := by rw [← hw1]; exact ((Below.refl _ _).alloc (Nat.le_refl _) _).alloc (by simp) _
  have hr1 : w1.heap[w.heap.size]? = some (.cells #[.string ⟨r.head.method.toArray⟩, .string ⟨r.head.target.toArray⟩, .int .i64 r.head.minor, .slice va vn vc, .string ⟨r.path.toArray⟩, .slice qa qn qc, .string ⟨r.body.toArray⟩, .bool r.close] 35 (0, 0)) := by rw [← hw1, Lib.alloc_old _ _ _ (by simp)]; exact heap_alloc_new _ _
  have hn1 : w1.heap[w.heap.size + 1]? = some (.cells actZero 37 (0, 0)) := by rw [← hw1]; exact alloc_at _ _ _ (by simp)
  clear hw1
  obtain ⟨r0, r1, r2, r3, r4, r5, r6, r7⟩ := rq_cells hr1
  rw [ebm] at r0; rw [ebp] at r4
  rw [ebm, ebp]
  clear ebm ebp
  go_upto_region 2 with fail
  go_cut [22] (fun b wx => b = .bool (pm && pl) ∧ wx = w1)
  case first =>
    cases pm
    all_goals
      go_wp2_with fail
      go_meet
      exact ⟨rfl, rfl⟩
  case rest =>
  obtain ⟨rfl, rfl⟩ := hcut
  rename World => w1
  have HR1 := Lib.hid hr1; have HN1 := Lib.hid hn1
  have HD1 := Lib.hid (HD.out.below hb1); have HE1 := Lib.hid (HE.out.below hb1); have HV1 := Lib.hid (HV.out.below hb1); have HQ1 := Lib.hid (HQ.out.below hb1)
  have hc1 := (hb1.block _ (lt_of_blk HCN.out.cell)).trans HCN.out.cell
  have HC1 := Lib.hid hc1
  have hne : w.heap.size + 1 ≠ B.cb := by have := lt_of_blk HCN.out.cell; omega
  have hne0 : w.heap.size ≠ B.cb := by have := lt_of_blk HCN.out.cell; omega
  clear hr1 hn1 hc1
  cases hlg : (pm && pl) with
  | true =>
    have hx := HC.out
    rw [if_pos hlg] at hx
    have HX := Lib.hid hx; clear hx
    have hl := HLG.out w1 HE1.out HC1.out
    rw [HBM.out, HBP.out] at hl
    have HL := Lib.hid hl; clear hl
    go_wp2_with fail
    go_at_call 50
    refine HL.out.mono ?_
    have HNB := HN1
    generalize hA : (cnLogin c r).2 = A
    have HAA := Lib.hid hA; clear hA
    rintro e wE ⟨rfl, hcE, hkE⟩
    have hnE := (hkE.block _ (lt_of_blk HNB.out) hne).trans HNB.out
    clear r0 r1 r2 r3 r4 r5 r6 r7
    obtain ⟨⟨n0, n1, n2, n3, n4, n5, n6, n7, n8, n9, n10, n11, n12, n13, n14⟩, nf⟩ := cells15 hnE
    have g0 := nf 0; have g1 := nf 1; have g2 := nf 2; have g3 := nf 3; have g4 := nf 4; have g5 := nf 5; have g6 := nf 6; have g7 := nf 7; have g8 := nf 8; have g9 := nf 9; have g10 := nf 10; have g11 := nf 11; have g12 := nf 12; have g13 := nf 13; have g14 := nf 14
    have HCE := Lib.hid hcE; have HNE := Lib.hid hnE; have HKE := Lib.hid hkE
    clear hcE hnE hkE nf
    unfold actV actCells nilS
    go_wp2_with fail
    refine bodyPost_ret (results_cell_row rfl _ _ (w.heap.size + 1) 37 (actCells A (.slice none 0 0) (.slice none 0 0)).toArray (0, 0) _ rfl (act_heap HNE.out A (.slice none 0 0) (.slice none 0 0)) Tryz.underlying37 rfl (by kernel_rfl)) rfl ?_
    have hkp : Kpt (fun k => k = B.cb) w (putAct wE (w.heap.size + 1) A (.slice none 0 0) (.slice none 0 0)) := putAct_kpt (S := fun k => k = B.cb) (N := w.heap.size + 1) (fun h => absurd h (by omega)) ((Kpt.of hb1 : Kpt (fun k => k = B.cb) w w1).trans HKE.out) A (.slice none 0 0) (.slice none 0 0)
    have hcb := (putAct_ne hne.symm A (.slice none 0 0) (.slice none 0 0)).trans HCE.out
    rw [← HAA.out] at hkp hcb ⊢
    rw [HX.out]
    exact .inl ⟨⟨rfl, hcb, hkp⟩, cnLogin_req c r⟩
  | false =>
  have hx := HC.out
  rw [if_neg (by simp [hlg])] at hx
  have HX := Lib.hid hx; clear hx
  go_upto_region 4 with fail
  have htk := HTK.out w1 HE1.out HV1.out
  rw [HBM.out, HBP.out] at htk
  unfold TokPost at htk
  obtain ⟨tk, etk, btk⟩ := str_of (tokenOf r)
  have htz : tk.size ≤ maxLen := by rw [← bl_length, btk]; exact Nat.le_trans htl (by decide)
  rw [etk] at htk
  have HTT := Lib.hid htk; have BTK := Lib.hid btk; have ETK := Lib.hid etk; have HTZ := Lib.hid htz
  clear htk btk etk htz
  go_wp2_with fail
  go_at_call 51
  refine HTT.out.mono ?_
  rintro e w2 ⟨rfl, hb2⟩
  have hb02 := hb1.trans (hb2.mono hb1.size)
  have hr2 := (hb2.block _ (lt_of_blk HR1.out)).trans HR1.out
  have hn2 := (hb2.block _ (lt_of_blk HN1.out)).trans HN1.out
  have hc2 := (hb2.block _ (lt_of_blk HC1.out)).trans HC1.out
  have hd2 := HD1.out.below hb2
  clear r0 r1 r2 r3 r4 r5 r6 r7
  obtain ⟨r0, r1, r2, r3, r4, r5, r6, r7⟩ := rq_cells hr2
  rw [HBM.out] at r0; rw [HBP.out] at r4
  obtain ⟨d0, d1, d2, d3, d4⟩ := hd2.cells
  have hlk := hd2.sessLook tk HTZ.out
  have p1 : w2.cell? ⟨B.cb, 1, none⟩ = some (.int .i64 c.user) := by rw [blk_cell hc2]; rfl
  have hx := HX.out
  rw [← BTK.out] at hx
  have HR2 := Lib.hid hr2; have HN2 := Lib.hid hn2; have HC2 := Lib.hid hc2; have HD2 := Lib.hid hd2; have HE2 := Lib.hid (HE.out.below hb02); have HV2 := Lib.hid (HV1.out.below hb2); have HQ2 := Lib.hid (HQ1.out.below hb2)
  clear hr2 hn2 hc2 hd2
  cases hss : d.ss (bl tk) with
  | none =>
    rw [hss] at hlk hx
    simp only [Option.getD_none, Option.isSome_none] at hlk
    have HX2 := Lib.hid hx; clear hx hss
    have KK2 : Kpt (fun k => k = B.cb) w w2 := .of hb02
    go_wp2_with fail
    go_at_call 30
    refine (plain_any _ _ _ _).mono ?_
    rintro e wP ⟨rfl, hbP⟩
    have HEP := Lib.hid (HE2.out.below hbP)
    have HCP := Lib.hid ((hbP.block _ (lt_of_blk HC2.out)).trans HC2.out)
    have HNB := Lib.hid ((hbP.block _ (lt_of_blk HN2.out)).trans HN2.out)
    clear r0 r1 r2 r3 r4 r5 r6 r7 p1 d0 d1 d2 d3 d4 hlk
    go_wp2_with fail
    go_at_call 29
    refine (emitsPlain B c 401 r.close wP HEP.out hX HCP.out).mono ?_
    generalize hA : (cnEmits c (plainR 401 r.close)).2 = A
    have HAA := Lib.hid hA; clear hA
    rintro e wE ⟨rfl, hcE, hkE⟩
    have hnE := (hkE.block _ (lt_of_blk HNB.out) hne).trans HNB.out
    obtain ⟨⟨n0, n1, n2, n3, n4, n5, n6, n7, n8, n9, n10, n11, n12, n13, n14⟩, nf⟩ := cells15 hnE
    have g0 := nf 0; have g1 := nf 1; have g2 := nf 2; have g3 := nf 3; have g4 := nf 4; have g5 := nf 5; have g6 := nf 6; have g7 := nf 7; have g8 := nf 8; have g9 := nf 9; have g10 := nf 10; have g11 := nf 11; have g12 := nf 12; have g13 := nf 13; have g14 := nf 14
    have HCE := Lib.hid hcE; have HNE := Lib.hid hnE; have HKE := Lib.hid hkE
    clear hcE hnE hkE nf
    unfold actV actCells
    go_wp2_with fail
    refine bodyPost_ret (results_cell_row rfl _ _ (w.heap.size + 1) 37 (actCells A (.slice none 0 0) (.slice none 0 0)).toArray (0, 0) _ rfl (act_heap HNE.out A (.slice none 0 0) (.slice none 0 0)) Tryz.underlying37 rfl (by kernel_rfl)) rfl ?_
    have hkp : Kpt (fun k => k = B.cb) w (putAct wE (w.heap.size + 1) A (.slice none 0 0) (.slice none 0 0)) := putAct_kpt (S := fun k => k = B.cb) (N := w.heap.size + 1) (fun h => absurd h (by omega)) ((Kpt.below KK2 hbP).trans HKE.out) A (.slice none 0 0) (.slice none 0 0)
    have hcb := (putAct_ne hne.symm A (.slice none 0 0) (.slice none 0 0)).trans HCE.out
    rw [← HAA.out] at hkp hcb ⊢
    rw [HX2.out]
    exact .inl ⟨⟨rfl, hcb, hkp⟩, rfl⟩
  | some u =>
  rw [hss] at hlk hx
  simp only [Option.getD_some, Option.isSome_some] at hlk
  simp only at hx
  have HX2 := Lib.hid hx; clear hx hss
  go_upto_region 8 with fail
  go_cut [56] (fun a wx => a = .bool (decide (c.user ≠ -1 ∧ c.user ≠ u)) ∧ wx = w2)
  case first =>
    by_cases hu1 : c.user = -1
    · have q1 : (c.user != -1) = false := by rw [hu1]; rfl
      have hd : decide (c.user ≠ -1 ∧ c.user ≠ u) = false := decide_eq_false fun h => h.1 hu1
      have HDD := Lib.hid hd
      clear hu1 hd
      go_wp2_with fail
      go_meet
      exact ⟨congrArg Value.bool HDD.out.symm, rfl⟩
    · have q1 : (c.user != -1) = true := by simpa using hu1
      by_cases hu2 : c.user = u
      · have q2 : (c.user != u) = false := by rw [hu2]; simp
        have hd : decide (c.user ≠ -1 ∧ c.user ≠ u) = false := decide_eq_false fun h => h.2 hu2
        have HDD := Lib.hid hd
        clear hu1 hd hu2
        go_wp2_with fail
        go_meet
        exact ⟨congrArg Value.bool HDD.out.symm, rfl⟩
      · have q2 : (c.user != u) = true := by simpa using hu2
        have hd : decide (c.user ≠ -1 ∧ c.user ≠ u) = true := decide_eq_true ⟨hu1, hu2⟩
        have HDD := Lib.hid hd
        clear hu1 hd hu2
        go_wp2_with fail
        go_meet
        exact ⟨congrArg Value.bool HDD.out.symm, rfl⟩
  case rest =>
  obtain ⟨rfl, rfl⟩ := hcut
  rename World => w2
  have KK2 : Kpt (fun k => k = B.cb) w w2 := .of hb02
  by_cases h403 : c.user ≠ -1 ∧ c.user ≠ u
  · rw [decide_eq_true h403]
    have hx := HX2.out
    rw [if_pos h403] at hx
    have HX3 := Lib.hid hx; clear hx h403
    go_wp2_with fail
    go_at_call 30
    refine (plain_any _ _ _ _).mono ?_
    rintro e wP ⟨rfl, hbP⟩
    have HEP := Lib.hid (HE2.out.below hbP)
    have HCP := Lib.hid ((hbP.block _ (lt_of_blk HC2.out)).trans HC2.out)
    have HNB := Lib.hid ((hbP.block _ (lt_of_blk HN2.out)).trans HN2.out)
    clear r0 r1 r2 r3 r4 r5 r6 r7 p1 d0 d1 d2 d3 d4 hlk
    go_wp2_with fail
    go_at_call 29
    refine (emitsPlain B c 403 r.close wP HEP.out hX HCP.out).mono ?_
    generalize hA : (cnEmits c (plainR 403 r.close)).2 = A
    have HAA := Lib.hid hA; clear hA
    rintro e wE ⟨rfl, hcE, hkE⟩
    have hnE := (hkE.block _ (lt_of_blk HNB.out) hne).trans HNB.out
    obtain ⟨⟨n0, n1, n2, n3, n4, n5, n6, n7, n8, n9, n10, n11, n12, n13, n14⟩, nf⟩ := cells15 hnE
    have g0 := nf 0; have g1 := nf 1; have g2 := nf 2; have g3 := nf 3; have g4 := nf 4; have g5 := nf 5; have g6 := nf 6; have g7 := nf 7; have g8 := nf 8; have g9 := nf 9; have g10 := nf 10; have g11 := nf 11; have g12 := nf 12; have g13 := nf 13; have g14 := nf 14
    have HCE := Lib.hid hcE; have HNE := Lib.hid hnE; have HKE := Lib.hid hkE
    clear hcE hnE hkE nf
    unfold actV actCells
    go_wp2_with fail
    refine bodyPost_ret (results_cell_row rfl _ _ (w.heap.size + 1) 37 (actCells A (.slice none 0 0) (.slice none 0 0)).toArray (0, 0) _ rfl (act_heap HNE.out A (.slice none 0 0) (.slice none 0 0)) Tryz.underlying37 rfl (by kernel_rfl)) rfl ?_
    have hkp : Kpt (fun k => k = B.cb) w (putAct wE (w.heap.size + 1) A (.slice none 0 0) (.slice none 0 0)) := putAct_kpt (S := fun k => k = B.cb) (N := w.heap.size + 1) (fun h => absurd h (by omega)) ((Kpt.below KK2 hbP).trans HKE.out) A (.slice none 0 0) (.slice none 0 0)
    have hcb := (putAct_ne hne.symm A (.slice none 0 0) (.slice none 0 0)).trans HCE.out
    rw [← HAA.out] at hkp hcb ⊢
    rw [HX3.out]
    exact .inl ⟨⟨rfl, hcb, hkp⟩, rfl⟩
  · rw [decide_eq_false h403]
    have hx := HX2.out
    rw [if_neg h403] at hx
    have hct := fun W h => counts_any D G d u W h
    unfold CountsPost at hct
    generalize dmCounts d u = cc at hx hct
    have HX3 := Lib.hid hx; have HCT := Lib.hid hct; have H403 := Lib.hid h403
    clear hx hct h403
    go_wp2_with fail
    go_at_call 21
    refine (HCT.out w2 HD2.out).mono ?_
    rintro e w3 ⟨rfl, hb3⟩
    have hb03 := hb02.trans (hb3.mono hb02.size)
    have hr3 := (hb3.block _ (lt_of_blk HR2.out)).trans HR2.out
    have hn3 := (hb3.block _ (lt_of_blk HN2.out)).trans HN2.out
    have hc3 := (hb3.block _ (lt_of_blk HC2.out)).trans HC2.out
    have hd3 := HD2.out.below hb3
    clear r0 r1 r2 r3 r4 r5 r6 r7 d0 d1 d2 d3 d4 p1 hlk
    obtain ⟨r0, r1, r2, r3, r4, r5, r6, r7⟩ := rq_cells hr3
    rw [HBM.out] at r0; rw [HBP.out] at r4
    obtain ⟨d0, d1, d2, d3, d4⟩ := hd3.cells
    have p1 : w3.cell? ⟨B.cb, 1, none⟩ = some (.int .i64 c.user) := by rw [blk_cell hc3]; rfl
    have f1 : w3.frozen? ⟨B.cb, 1, none⟩ = false := blk_free hc3 1
    have HR3 := Lib.hid hr3; have HN3 := Lib.hid hn3; have HC3 := Lib.hid hc3; have HD3 := Lib.hid hd3; have HE3 := Lib.hid (HE.out.below hb03)
    have KK3 : Kpt (fun k => k = B.cb) w w3 := .of hb03
    clear hr3 hn3 hc3 hd3
    go_upto_if 72 with fail
    go_cut [7] (fun a wx => a = .bool pm ∧ wx.heap[B.cb]? = some (cnObj B { c with user := u }) ∧ Kpt (fun k => k = B.cb) w3 wx ∧ ¬ (c.user = -1 ∧ d.conns ≤ cc.1))
    case first =>
      by_cases hu : c.user = -1
      · have q3 : (c.user == -1) = true := by rw [hu]; rfl
        by_cases hcn : d.conns ≤ cc.1
        · have hx := HX3.out
          rw [if_pos ⟨hu, hcn⟩] at hx
          have HX4 := Lib.hid hx; clear hx hu
          go_wp2_with fail
          go_at_call 30
          refine (plain_any _ _ _ _).mono ?_
          rintro e wP ⟨rfl, hbP⟩
          have HEP := Lib.hid (HE3.out.below hbP)
          have HCP := Lib.hid ((hbP.block _ (lt_of_blk HC3.out)).trans HC3.out)
          have HNB := Lib.hid ((hbP.block _ (lt_of_blk HN3.out)).trans HN3.out)
          clear r0 r1 r2 r3 r4 r5 r6 r7 p1 d0 d1 d2 d3 d4 f1
          go_wp2_with fail
          go_at_call 29
          refine (emitsPlain B c 503 true wP HEP.out hX HCP.out).mono ?_
          generalize hA : (cnEmits c (plainR 503 true)).2 = A
          have HAA := Lib.hid hA; clear hA
          rintro e wE ⟨rfl, hcE, hkE⟩
          have hnE := (hkE.block _ (lt_of_blk HNB.out) hne).trans HNB.out
          obtain ⟨⟨n0, n1, n2, n3, n4, n5, n6, n7, n8, n9, n10, n11, n12, n13, n14⟩, nf⟩ := cells15 hnE
          have g0 := nf 0; have g1 := nf 1; have g2 := nf 2; have g3 := nf 3; have g4 := nf 4; have g5 := nf 5; have g6 := nf 6; have g7 := nf 7; have g8 := nf 8; have g9 := nf 9; have g10 := nf 10; have g11 := nf 11; have g12 := nf 12; have g13 := nf 13; have g14 := nf 14
          have HCE := Lib.hid hcE; have HNE := Lib.hid hnE; have HKE := Lib.hid hkE
          clear hcE hnE hkE nf
          unfold actV actCells
          go_wp2_with fail
          refine bodyPost_ret (results_cell_row rfl _ _ (w.heap.size + 1) 37 (actCells A (.slice none 0 0) (.slice none 0 0)).toArray (0, 0) _ rfl (act_heap HNE.out A (.slice none 0 0) (.slice none 0 0)) Tryz.underlying37 rfl (by kernel_rfl)) rfl ?_
          have hkp : Kpt (fun k => k = B.cb) w (putAct wE (w.heap.size + 1) A (.slice none 0 0) (.slice none 0 0)) := putAct_kpt (S := fun k => k = B.cb) (N := w.heap.size + 1) (fun h => absurd h (by omega)) ((Kpt.below KK3 hbP).trans HKE.out) A (.slice none 0 0) (.slice none 0 0)
          have hcb := (putAct_ne hne.symm A (.slice none 0 0) (.slice none 0 0)).trans HCE.out
          rw [← HAA.out] at hkp hcb ⊢
          rw [HX4.out]
          exact .inl ⟨⟨rfl, hcb, hkp⟩, rfl⟩
        · have HU := Lib.hid hu; clear hu
          go_wp2_with fail
          go_meet
          exact ⟨rfl, heap_set HC3.out 1 _, (Kpt.refl (fun k => k = B.cb) _).set (p := ⟨B.cb, 1, none⟩) (fun _ => rfl) _, fun h => by have := h.2; omega⟩
      · have q3 : (c.user == -1) = false := by simpa using hu
        have hcu : c.user = u := by
          apply Classical.byContradiction
          intro h
          exact H403.out ⟨hu, h⟩
        have he : ({ c with user := u } : Cn) = c := by rw [← hcu]
        have HEQ := Lib.hid he; have HU := Lib.hid hu
        clear hu hcu he
        go_wp2_with fail
        go_meet
        exact ⟨rfl, by rw [HEQ.out]; exact HC3.out, Kpt.refl _ _, fun h => HU.out h.1⟩
    case rest =>
    obtain ⟨rfl, hc4, hk4, hn503⟩ := hcut
    rename World => w4
    have hx := HX3.out
    rw [if_neg hn503] at hx
    have HX4 := Lib.hid hx
    have hr4 := (hk4.block _ (lt_of_blk HR3.out) hne0).trans HR3.out
    have hn4 := (hk4.block _ (lt_of_blk HN3.out) hne).trans HN3.out
    have hd4 := (hk4.block _ (lt_of_blk HD3.out.cell) hDne).trans HD3.out.cell
    clear r0 r1 r2 r3 r4 r5 r6 r7 d0 d1 d2 d3 d4 p1 f1 hx hn503
    obtain ⟨r0, r1, r2, r3, r4, r5, r6, r7⟩ := rq_cells hr4
    rw [HBM.out] at r0; rw [HBP.out] at r4
    have d2 : w4.cell? ⟨D, 2, none⟩ = some (.int .i64 d.asks) := by rw [blk_cell hd4]; rfl
    have KK4 : Kpt (fun k => k = B.cb) w w4 := KK3.trans (hk4.mono fun k _ h => h)
    have HR4 := Lib.hid hr4; have HN4 := Lib.hid hn4; have HC4 := Lib.hid hc4; have HE4 := Lib.hid (HE.out.kpt KK4 (fun k hk => by rw [hk]; exact hX))
    clear hr4 hn4 hc4 hd4 hk4
    go_upto_region 15 with fail
    go_cut [91] (fun a wx => a = .bool (pm && po) ∧ wx = w4)
    case first =>
      cases pm
      all_goals
        go_wp2_with fail
        go_meet
        exact ⟨rfl, rfl⟩
    case rest =>
    obtain ⟨rfl, rfl⟩ := hcut
    rename World => w4
    cases hlo : (pm && po) with
    | true =>
      have hx := HX4.out
      rw [if_pos hlo] at hx
      have HX5 := Lib.hid hx; clear hx
      go_wp2_with fail
      go_at_call 52
      have hh := hands_any B { c with user := u } r (-1) { Clo.Act.zero with kind := 3, user := u, token := bl tk } none none 0 0 0 0 (.slice va vn vc) (.slice qa qn qc) w4 hX HC4.out
      rw [HBM.out, HBP.out] at hh
      refine hh.mono ?_
      clear hh
      have HNB := HN4
      generalize hA : (cnHands { c with user := u } r (-1) { Clo.Act.zero with kind := 3, user := u, token := bl tk }).2 = A
      have HAA := Lib.hid hA; clear hA
      rintro e wE ⟨rfl, hcE, hkE⟩
      have hnE := (hkE.block _ (lt_of_blk HNB.out) hne).trans HNB.out
      clear r0 r1 r2 r3 r4 r5 r6 r7 d2
      obtain ⟨⟨n0, n1, n2, n3, n4, n5, n6, n7, n8, n9, n10, n11, n12, n13, n14⟩, nf⟩ := cells15 hnE
      have g0 := nf 0; have g1 := nf 1; have g2 := nf 2; have g3 := nf 3; have g4 := nf 4; have g5 := nf 5; have g6 := nf 6; have g7 := nf 7; have g8 := nf 8; have g9 := nf 9; have g10 := nf 10; have g11 := nf 11; have g12 := nf 12; have g13 := nf 13; have g14 := nf 14
      have HCE := Lib.hid hcE; have HNE := Lib.hid hnE; have HKE := Lib.hid hkE
      clear hcE hnE hkE nf
      unfold actV actCells
      go_wp2_with fail
      refine bodyPost_ret (results_cell_row rfl _ _ (w.heap.size + 1) 37 (actCells A (.slice none 0 0) (.slice none 0 0)).toArray (0, 0) _ rfl (act_heap HNE.out A (.slice none 0 0) (.slice none 0 0)) Tryz.underlying37 rfl (by kernel_rfl)) rfl ?_
      have hkp : Kpt (fun k => k = B.cb) w (putAct wE (w.heap.size + 1) A (.slice none 0 0) (.slice none 0 0)) := putAct_kpt (S := fun k => k = B.cb) (N := w.heap.size + 1) (fun h => absurd h (by omega)) (KK4.trans HKE.out) A (.slice none 0 0) (.slice none 0 0)
      have hcb := (putAct_ne hne.symm A (.slice none 0 0) (.slice none 0 0)).trans HCE.out
      rw [← HAA.out] at hkp hcb ⊢
      rw [HX5.out]
      exact .inl ⟨⟨rfl, hcb, hkp⟩, rfl⟩
    | false =>
    have hx := HX4.out
    rw [if_neg (by simp [hlo])] at hx
    by_cases has : d.asks ≤ cc.2
    · rw [if_pos has] at hx
      have HX5 := Lib.hid hx; clear hx
      go_wp2_with fail
      go_at_call 30
      refine (plain_any _ _ _ _).mono ?_
      rintro e wP ⟨rfl, hbP⟩
      have HEP := Lib.hid (HE4.out.below hbP)
      have HCP := Lib.hid ((hbP.block _ (lt_of_blk HC4.out)).trans HC4.out)
      have HNB := Lib.hid ((hbP.block _ (lt_of_blk HN4.out)).trans HN4.out)
      clear r0 r1 r2 r3 r4 r5 r6 r7 d2
      go_wp2_with fail
      go_at_call 29
      refine (emitsPlain B { c with user := u } 503 r.close wP HEP.out hX HCP.out).mono ?_
      generalize hA : (cnEmits { c with user := u } (plainR 503 r.close)).2 = A
      have HAA := Lib.hid hA; clear hA
      rintro e wE ⟨rfl, hcE, hkE⟩
      have hnE := (hkE.block _ (lt_of_blk HNB.out) hne).trans HNB.out
      obtain ⟨⟨n0, n1, n2, n3, n4, n5, n6, n7, n8, n9, n10, n11, n12, n13, n14⟩, nf⟩ := cells15 hnE
      have g0 := nf 0; have g1 := nf 1; have g2 := nf 2; have g3 := nf 3; have g4 := nf 4; have g5 := nf 5; have g6 := nf 6; have g7 := nf 7; have g8 := nf 8; have g9 := nf 9; have g10 := nf 10; have g11 := nf 11; have g12 := nf 12; have g13 := nf 13; have g14 := nf 14
      have HCE := Lib.hid hcE; have HNE := Lib.hid hnE; have HKE := Lib.hid hkE
      clear hcE hnE hkE nf
      unfold actV actCells
      go_wp2_with fail
      refine bodyPost_ret (results_cell_row rfl _ _ (w.heap.size + 1) 37 (actCells A (.slice none 0 0) (.slice none 0 0)).toArray (0, 0) _ rfl (act_heap HNE.out A (.slice none 0 0) (.slice none 0 0)) Tryz.underlying37 rfl (by kernel_rfl)) rfl ?_
      have hkp : Kpt (fun k => k = B.cb) w (putAct wE (w.heap.size + 1) A (.slice none 0 0) (.slice none 0 0)) := putAct_kpt (S := fun k => k = B.cb) (N := w.heap.size + 1) (fun h => absurd h (by omega)) ((Kpt.below KK4 hbP).trans HKE.out) A (.slice none 0 0) (.slice none 0 0)
      have hcb := (putAct_ne hne.symm A (.slice none 0 0) (.slice none 0 0)).trans HCE.out
      rw [← HAA.out] at hkp hcb ⊢
      rw [HX5.out]
      exact .inl ⟨⟨rfl, hcb, hkp⟩, rfl⟩
    · rw [if_neg has] at hx
      have HX5 := Lib.hid hx; clear hx
      go_wp2_with fail
      go_at_call 52
      have hh := hands_any B { c with user := u } r u { Clo.Act.zero with kind := 4, user := u, request := r } va qa vn vc qn qc (.slice va vn vc) (.slice qa qn qc) w4 hX HC4.out
      unfold actV actCells at hh
      simp only [HBM.out, HBP.out] at hh
      refine hh.mono ?_
      clear hh
      have HNB := HN4
      generalize hA : (cnHands { c with user := u } r u { Clo.Act.zero with kind := 4, user := u, request := r }).2 = A
      have HAA := Lib.hid hA; clear hA
      rintro e wE ⟨rfl, hcE, hkE⟩
      have hnE := (hkE.block _ (lt_of_blk HNB.out) hne).trans HNB.out
      clear r0 r1 r2 r3 r4 r5 r6 r7 d2
      obtain ⟨⟨n0, n1, n2, n3, n4, n5, n6, n7, n8, n9, n10, n11, n12, n13, n14⟩, nf⟩ := cells15 hnE
      have g0 := nf 0; have g1 := nf 1; have g2 := nf 2; have g3 := nf 3; have g4 := nf 4; have g5 := nf 5; have g6 := nf 6; have g7 := nf 7; have g8 := nf 8; have g9 := nf 9; have g10 := nf 10; have g11 := nf 11; have g12 := nf 12; have g13 := nf 13; have g14 := nf 14
      have HCE := Lib.hid hcE; have HNE := Lib.hid hnE; have HKE := Lib.hid hkE
      clear hcE hnE hkE nf
      unfold actV actCells
      go_wp2_with fail
      refine bodyPost_ret (results_cell_row rfl _ _ (w.heap.size + 1) 37 (actCells A (.slice va vn vc) (.slice qa qn qc)).toArray (0, 0) _ rfl (act_heap HNE.out A (.slice va vn vc) (.slice qa qn qc)) Tryz.underlying37 rfl (by kernel_rfl)) rfl ?_
      have hkp : Kpt (fun k => k = B.cb) w (putAct wE (w.heap.size + 1) A (.slice va vn vc) (.slice qa qn qc)) := putAct_kpt (S := fun k => k = B.cb) (N := w.heap.size + 1) (fun h => absurd h (by omega)) (KK4.trans HKE.out) A (.slice va vn vc) (.slice qa qn qc)
      have hcb := (putAct_ne hne.symm A (.slice va vn vc) (.slice qa qn qc)).trans HCE.out
      rw [← HAA.out] at hkp hcb ⊢
      rw [HX5.out]
      exact .inr ⟨⟨rfl, hcb, hkp⟩, HV.out.keptCn HCN.out.cell hkp, HQ.out.keptCn HCN.out.cell hkp⟩
end Go.Proofs.YtacdkcapejijdaaGreatDoor
