/- package demux: New, given, is, Open, User, Waits, Shut. -/
import Derived.Test.YtacdkcapejijdaaGreatDoorDemux1
namespace Go.Proofs.YtacdkcapejijdaaGreatDoor
open Go.RowKit Go.Maps Clo

def GivenIs (p : Value) (g : Bool) (w : World) : Prop := Calls Tryz.prog 25 #[p] w fun e w' => e = .returned (.bool g) ∧ w' = w
theorem given_nil (w : World) : GivenIs (.pointer none) false w := by
  unfold GivenIs
  go_enter Tryz.func25, Tryz.ntmps25
  go_wp2
  go_ret
  exact ⟨rfl, rfl⟩
theorem given_cell (D : Nat) (u : Int) (w : World) (hc : w.cell? ⟨D, 0, none⟩ = some (.int .i64 u)) : GivenIs (.pointer (some ⟨D, 0, none⟩)) (decide (0 < u)) w := by
  unfold GivenIs
  by_cases h : 0 < u
  all_goals
    go_enter Tryz.func25, Tryz.ntmps25
    go_wp2
    go_ret
    exact ⟨ret_bool (by simp [h]), rfl⟩
theorem is_any (p : Value) (g : Bool) (i : Int) (w : World) (hg : GivenIs p g w) : Calls Tryz.prog 26 #[p, .int .i64 i] w fun e w' => e = .returned (.bool (g && isC i)) ∧ w' = w := by
  have HG := Lib.hid hg; clear hg
  obtain ⟨R, hR⟩ : ∃ R, R = (g && isC i) := ⟨_, rfl⟩
  rw [← hR]
  have HR := Lib.hid hR; clear hR
  cases g
  · go_enter Tryz.func26, Tryz.ntmps26
    go_wp2_with (go_at_call 25; refine HG.out.mono ?_; rintro e w1 ⟨rfl, rfl⟩)
    go_ret
    exact ⟨ret_bool (by rw [HR.out]; rfl), rfl⟩
  · by_cases h0 : 0 ≤ i <;> by_cases h1 : i < 64
    all_goals
      go_enter Tryz.func26, Tryz.ntmps26
      go_wp2_with (go_at_call 25; refine HG.out.mono ?_; rintro e w1 ⟨rfl, rfl⟩)
      all_goals (go_ret; exact ⟨ret_bool (by rw [HR.out]; simp [isC, h0, h1]), rfl⟩)

theorem zeroConn (w : World) : (zeroValue 76).run Tryz.prog w = .ok (.pointer none) w := by kernel_rfl
theorem isC_wf {i : Int} (h : isC i = true) : (Lit.int .i64 i).wf = true := by
  simp [isC] at h
  exact WalkArith.wf_i64 (by omega)
theorem DmAt.look {w : World} {D : Nat} {G : Gh} {d : Dm} (h : DmAt w D G d) (i : Int) (hi : (Lit.int .i64 i).wf = true) :
    (Instr.lookup 66 (.map (some G.ml)) (.int .i64 i) false).run Tryz.prog w = .ok (ptrV ((G.cs i).map (·.cb))) w := by
  obtain ⟨v, ps, hrun, hv⟩ := h.l.lookup (int_keyed Tryz.underlying3) Tryz.underlying66 (zeroConn w) (zd := ptrD none) (zp := []) rfl (keyOf_int_mk Tryz.underlying3 hi)
  rw [h.lk] at hv
  obtain ⟨o, rfl, ho⟩ := ptrR_inv hv
  rw [hrun]
  have : o = (G.cs i).map (·.cb) := by
    have h1 := congrArg Prod.fst ho
    simp only at h1
    cases hc : G.cs i with
    | none => rw [hc] at h1; exact (ptrD_inj h1).symm
    | some B => rw [hc] at h1; exact (ptrD_inj h1).symm
  rw [this]
theorem DmAt.cells {w : World} {D : Nat} {G : Gh} {d : Dm} (h : DmAt w D G d) :
    w.cell? ⟨D, 0, none⟩ = some (.int .i64 d.users) ∧ w.cell? ⟨D, 1, none⟩ = some (.int .i64 d.conns) ∧ w.cell? ⟨D, 2, none⟩ = some (.int .i64 d.asks) ∧ w.cell? ⟨D, 3, none⟩ = some (.map (some G.ml)) ∧ w.cell? ⟨D, 4, none⟩ = some (.map (some G.ms)) :=
  ⟨by rw [blk_cell h.cell]; rfl, by rw [blk_cell h.cell]; rfl, by rw [blk_cell h.cell]; rfl, by rw [blk_cell h.cell]; rfl, by rw [blk_cell h.cell]; rfl⟩
theorem CnAt.cells {w : World} {B : CnB} {c : Cn} (h : CnAt w B c) :
    (w.cell? ⟨B.cb, 0, none⟩ = some (.pointer (some ⟨B.pb, 0, none⟩)) ∧ w.cell? ⟨B.cb, 1, none⟩ = some (.int .i64 c.user) ∧ w.cell? ⟨B.cb, 2, none⟩ = some (.bool c.closed) ∧ w.cell? ⟨B.cb, 3, none⟩ = some (.bool c.lost) ∧ w.cell? ⟨B.cb, 4, none⟩ = some (.bool c.waits) ∧ w.cell? ⟨B.cb, 5, none⟩ = some (.int .i64 c.asks) ∧ w.cell? ⟨B.cb, 6, none⟩ = some (.bool c.ends) ∧ w.cell? ⟨B.cb, 7, none⟩ = some (ansV B.ans)) ∧ ∀ i, w.frozen? ⟨B.cb, i, none⟩ = false :=
  ⟨⟨by rw [blk_cell h.cell]; rfl, by rw [blk_cell h.cell]; rfl, by rw [blk_cell h.cell]; rfl, by rw [blk_cell h.cell]; rfl, by rw [blk_cell h.cell]; rfl, by rw [blk_cell h.cell]; rfl, by rw [blk_cell h.cell]; rfl, by rw [blk_cell h.cell]; rfl⟩, fun i => blk_free h.cell i⟩
theorem DmAt.given {w : World} {D : Nat} {G : Gh} {d : Dm} (h : DmAt w D G d) : GivenIs (.pointer (some ⟨D, 0, none⟩)) true w := by
  have := given_cell D d.users w h.cells.1
  rwa [decide_eq_true h.pos.1] at this

/-- What a walk is handed of connection i. -/
theorem DmAt.pick {w : World} {D : Nat} {G : Gh} {d : Dm} (h : DmAt w D G d) (i : Int) (hi : (Lit.int .i64 i).wf = true) :
    (d.c i = none ∧ G.cs i = none ∧ (Instr.lookup 66 (.map (some G.ml)) (.int .i64 i) false).run Tryz.prog w = .ok (.pointer none) w) ∨
    (∃ B c, d.c i = some c ∧ G.cs i = some B ∧ CnAt w B c ∧ CnOk c ∧ (Instr.lookup 66 (.map (some G.ml)) (.int .i64 i) false).run Tryz.prog w = .ok (.pointer (some ⟨B.cb, 0, none⟩)) w) := by
  have hl := h.look i hi
  cases hc : G.cs i with
  | none => rw [hc] at hl; exact .inl ⟨h.none_ i hc, rfl, hl⟩
  | some B =>
    rw [hc] at hl
    obtain ⟨c, h1, h2, h3⟩ := h.some_ i B hc
    exact .inr ⟨B, c, h1, rfl, h2, h3, hl⟩

set_option maxHeartbeats 2000000 in
theorem open_any (D : Nat) (G : Gh) (d : Dm) (i : Int) (w : World) (h : DmAt w D G d) (hi : (Lit.int .i64 i).wf = true) :
    Calls Tryz.prog 22 #[.pointer (some ⟨D, 0, none⟩), .int .i64 i] w fun e w' => e = .returned (.bool (dmOpen d i)) ∧ w' = w := by
  obtain ⟨R, hR⟩ : ∃ R, R = dmOpen d i := ⟨_, rfl⟩
  rw [← hR]
  unfold dmOpen at hR
  have HG := Lib.hid h.given
  obtain ⟨c0, c1, c2, c3, c4⟩ := h.cells
  rcases h.pick i hi with ⟨h1, _, hl⟩ | ⟨B, c, h1, _, h2, _, hl⟩
  · rw [h1] at hR
    have HR := Lib.hid hR; clear hR h h1
    go_enter Tryz.func22, Tryz.ntmps22
    go_wp2_with (go_at_call 25; refine HG.out.mono ?_; rintro e w1 ⟨rfl, rfl⟩)
    go_ret
    exact ⟨ret_bool HR.out.symm, rfl⟩
  · rw [h1] at hR
    obtain ⟨⟨p0, p1, p2, p3, p4, p5, p6, p7⟩, pf⟩ := h2.cells
    have HR := Lib.hid hR; clear hR h h1 h2
    go_enter Tryz.func22, Tryz.ntmps22
    go_wp2_with (go_at_call 25; refine HG.out.mono ?_; rintro e w1 ⟨rfl, rfl⟩)
    go_ret
    exact ⟨ret_bool HR.out.symm, rfl⟩

theorem DmAt.isIs {w : World} {D : Nat} {G : Gh} {d : Dm} (h : DmAt w D G d) (i : Int) : Calls Tryz.prog 26 #[.pointer (some ⟨D, 0, none⟩), .int .i64 i] w fun e w' => e = .returned (.bool (isC i)) ∧ w' = w := by
  have := is_any _ true i w h.given
  rwa [Bool.true_and] at this
theorem DmAt.none_is {w : World} {D : Nat} {G : Gh} {d : Dm} (h : DmAt w D G d) {i : Int} (hi : isC i = false) : d.c i = none := by
  apply h.none_
  cases hc : G.cs i with
  | none => rfl
  | some B => rw [h.in64 i B hc] at hi; cases hi

set_option maxHeartbeats 2000000 in
theorem user_any (D : Nat) (G : Gh) (d : Dm) (i : Int) (w : World) (h : DmAt w D G d) :
    Calls Tryz.prog 16 #[.pointer (some ⟨D, 0, none⟩), .int .i64 i] w fun e w' => e = .returned (.int .i64 (dmUser d i)) ∧ w' = w := by
  obtain ⟨R, hR⟩ : ∃ R, R = dmUser d i := ⟨_, rfl⟩
  rw [← hR]
  unfold dmUser at hR
  have HIS := Lib.hid (h.isIs i)
  obtain ⟨c0, c1, c2, c3, c4⟩ := h.cells
  cases hi : isC i with
  | false =>
    rw [h.none_is hi] at hR
    rw [hi] at HIS
    have HR := Lib.hid hR; clear hR h hi
    go_enter Tryz.func16, Tryz.ntmps16
    go_wp2_with (go_at_call 26; refine HIS.out.mono ?_; rintro e w1 ⟨rfl, rfl⟩)
    go_ret
    exact ⟨ret_int HR.out.symm, rfl⟩
  | true =>
    rw [hi] at HIS
    rcases h.pick i (isC_wf hi) with ⟨h1, _, hl⟩ | ⟨B, c, h1, _, h2, _, hl⟩
    · rw [h1] at hR
      have HR := Lib.hid hR; clear hR h h1 hi
      go_enter Tryz.func16, Tryz.ntmps16
      go_wp2_with (go_at_call 26; refine HIS.out.mono ?_; rintro e w1 ⟨rfl, rfl⟩)
      go_ret
      exact ⟨ret_int HR.out.symm, rfl⟩
    · rw [h1] at hR
      obtain ⟨⟨p0, p1, p2, p3, p4, p5, p6, p7⟩, pf⟩ := h2.cells
      have HR := Lib.hid hR; clear hR h h1 h2 hi
      go_enter Tryz.func16, Tryz.ntmps16
      go_wp2_with (go_at_call 26; refine HIS.out.mono ?_; rintro e w1 ⟨rfl, rfl⟩)
      go_ret
      exact ⟨ret_int HR.out.symm, rfl⟩

set_option maxHeartbeats 2000000 in
theorem waits_any (D : Nat) (G : Gh) (d : Dm) (i : Int) (w : World) (h : DmAt w D G d) :
    Calls Tryz.prog 23 #[.pointer (some ⟨D, 0, none⟩), .int .i64 i] w fun e w' => e = .returned (.bool (dmWaits d i)) ∧ w' = w := by
  obtain ⟨R, hR⟩ : ∃ R, R = dmWaits d i := ⟨_, rfl⟩
  rw [← hR]
  unfold dmWaits at hR
  have HIS := Lib.hid (h.isIs i)
  obtain ⟨c0, c1, c2, c3, c4⟩ := h.cells
  cases hi : isC i with
  | false =>
    rw [h.none_is hi] at hR
    rw [hi] at HIS
    have HR := Lib.hid hR; clear hR h hi
    go_enter Tryz.func23, Tryz.ntmps23
    go_wp2_with (go_at_call 26; refine HIS.out.mono ?_; rintro e w1 ⟨rfl, rfl⟩)
    go_ret
    exact ⟨ret_bool HR.out.symm, rfl⟩
  | true =>
    rw [hi] at HIS
    rcases h.pick i (isC_wf hi) with ⟨h1, _, hl⟩ | ⟨B, c, h1, _, h2, _, hl⟩
    · rw [h1] at hR
      have HR := Lib.hid hR; clear hR h h1 hi
      go_enter Tryz.func23, Tryz.ntmps23
      go_wp2_with (go_at_call 26; refine HIS.out.mono ?_; rintro e w1 ⟨rfl, rfl⟩)
      go_ret
      exact ⟨ret_bool HR.out.symm, rfl⟩
    · rw [h1] at hR
      obtain ⟨⟨p0, p1, p2, p3, p4, p5, p6, p7⟩, pf⟩ := h2.cells
      have HR := Lib.hid hR; clear hR h h1 h2 hi
      go_enter Tryz.func23, Tryz.ntmps23
      go_wp2_with (go_at_call 26; refine HIS.out.mono ?_; rintro e w1 ⟨rfl, rfl⟩)
      go_ret
      exact ⟨ret_bool HR.out.symm, rfl⟩

def DmPost (D : Nat) (G : Gh) (m : Nat) (r : Dm × Int) (w : World) (e : Ending) (w' : World) : Prop :=
  e = .returned (.int .i64 r.2) ∧ ∃ G', DmAt w' D G' r.1 ∧ Grow w w' G G' m
theorem DmPost.same {D : Nat} {G : Gh} {m : Nat} {d : Dm} {n : Int} {r : Dm × Int} {w : World} (hr : r = (d, n)) (h : DmAt w D G d) : DmPost D G m r w (.returned (.int .i64 n)) w := by
  subst hr
  exact ⟨rfl, G, h, Grow.refl _ _ _⟩
/-- A connection's block is written: what it was but for its cells. -/
theorem DmAt.setCn {w w' : World} {D : Nat} {G : Gh} {d : Dm} {i : Int} {B : CnB} {c c' : Cn} (h : DmAt w D G d) (hi : G.cs i = some B) (hat : CnAt w B c) (hok : CnOk c)
    (hk : Kpt (fun k => k = B.cb) w w') (hb : w'.heap[B.cb]? = some (cnObj B c')) (hps : c'.ps = c.ps) (han : c'.answer = c.answer) : ∃ G', DmAt w' D G' (d.set i c') ∧ Grow w w' G G' 0 := by
  obtain ⟨t1, t2, t3⟩ := h.tcb i B hi
  have hne : ∀ k t, G.tag k = some t → t ≠ .cn i → w'.heap[k]? = w.heap[k]? := fun k t hkt hn => hk.block k (h.tb k t hkt).2 fun e => by
    subst e; rw [t1] at hkt; exact hn (Option.some.inj hkt).symm
  have ha : AnsAt w' B.ans c'.answer := by rw [han]; exact hat.an.kept fun b v hv => ⟨hne _ _ (t3 b v hv).1 (by simp), fun g hg => hne _ _ ((t3 b v hv).2 g hg) (by simp)⟩
  have hp : w'.heap[B.pb]? = some (parserObj ⟨c'.ps.s.toArray⟩ c'.ps.status) := by rw [hps]; exact (hne _ _ t2 (by simp)).trans hat.ps
  obtain ⟨G', g1, g2, _⟩ := h.put (c' := c') (B' := B) hi (hk.mono fun k _ e => .inl (by rw [e]; exact t1)) rfl rfl ⟨hb, hp, ha⟩ ⟨by rw [hps]; exact hok.s, by rw [han]; exact hok.a⟩ _ (Nat.le_refl _) fun a v hv => ⟨.inl (t3 a v hv).1, fun g hg => .inl ((t3 a v hv).2 g hg)⟩
  exact ⟨G', g1, g2⟩

set_option maxHeartbeats 2000000 in
theorem shut_any (D : Nat) (G : Gh) (d : Dm) (i : Int) (w : World) (h : DmAt w D G d) :
    Calls Tryz.prog 18 #[.pointer (some ⟨D, 0, none⟩), .int .i64 i] w (DmPost D G 0 (dmShut d i) w) := by
  obtain ⟨R, hR⟩ : ∃ R, R = dmShut d i := ⟨_, rfl⟩
  rw [← hR]
  unfold dmShut at hR
  have HIS := Lib.hid (h.isIs i)
  obtain ⟨c0, c1, c2, c3, c4⟩ := h.cells
  cases hi : isC i with
  | false =>
    rw [if_pos hi] at hR
    rw [hi] at HIS
    have HR := Lib.hid hR; have HD := Lib.hid h; clear hR h hi
    go_enter Tryz.func18, Tryz.ntmps18
    go_wp2_with (go_at_call 26; refine HIS.out.mono ?_; rintro e w1 ⟨rfl, rfl⟩)
    go_ret
    exact DmPost.same HR.out HD.out
  | true =>
    rw [if_neg (by simp [hi])] at hR
    rw [hi] at HIS
    have hop := open_any D G d i w h (isC_wf hi)
    rcases h.pick i (isC_wf hi) with ⟨h1, _, hl⟩ | ⟨B, c, h1, h0, h2, h3, hl⟩
    · rw [h1] at hR
      have ho : dmOpen d i = false := by unfold dmOpen; rw [h1]
      rw [ho] at hop
      have HR := Lib.hid hR; have HD := Lib.hid h; have HO := Lib.hid hop; clear hR h h1 hi hop ho
      go_enter Tryz.func18, Tryz.ntmps18
      go_wp2_with (first | (go_at_call 26; refine HIS.out.mono ?_; rintro e w1 ⟨rfl, rfl⟩) | (go_at_call 22; refine HO.out.mono ?_; rintro e w1 ⟨rfl, rfl⟩))
      go_ret
      exact DmPost.same HR.out HD.out
    · rw [h1] at hR
      have ho : dmOpen d i = !c.closed := by unfold dmOpen; rw [h1]
      rw [ho] at hop
      obtain ⟨⟨p0, p1, p2, p3, p4, p5, p6, p7⟩, pf⟩ := h2.cells
      have f2 := pf 2
      simp only at hR
      cases hcl : c.closed with
      | true =>
        rw [if_pos hcl] at hR
        rw [hcl] at hop
        have HR := Lib.hid hR; have HD := Lib.hid h; have HO := Lib.hid hop; clear hR h h1 hi hop ho h0 h2 h3 pf hcl
        go_enter Tryz.func18, Tryz.ntmps18
        go_wp2_with (first | (go_at_call 26; refine HIS.out.mono ?_; rintro e w1 ⟨rfl, rfl⟩) | (go_at_call 22; refine HO.out.mono ?_; rintro e w1 ⟨rfl, rfl⟩))
        go_ret
        exact DmPost.same HR.out HD.out
      | false =>
        rw [if_neg (by simp [hcl])] at hR
        rw [hcl] at hop
        have HR := Lib.hid hR; have HD := Lib.hid h; have HO := Lib.hid hop; have H0 := Lib.hid h0; have H2 := Lib.hid h2; have H3 := Lib.hid h3; clear hR h h1 hi hop ho h0 h2 h3 pf hcl
        go_enter Tryz.func18, Tryz.ntmps18
        go_wp2_with (first | (go_at_call 26; refine HIS.out.mono ?_; rintro e w1 ⟨rfl, rfl⟩) | (go_at_call 22; refine HO.out.mono ?_; rintro e w1 ⟨rfl, rfl⟩))
        go_ret
        rw [HR.out]
        refine ⟨rfl, ?_⟩
        exact HD.out.setCn H0.out H2.out H3.out ((Kpt.refl (fun k => k = B.cb) _).set (p := ⟨B.cb, 2, none⟩) (fun _ => rfl) _) (heap_set H2.out.cell 2 (.bool true)) rfl rfl
end Go.Proofs.YtacdkcapejijdaaGreatDoor
