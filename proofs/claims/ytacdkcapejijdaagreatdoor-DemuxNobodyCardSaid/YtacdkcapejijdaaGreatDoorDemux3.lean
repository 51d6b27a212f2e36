/- package demux: New, Bind, Free, Arrive. -/
import Derived.Test.YtacdkcapejijdaaGreatDoorDemux2
namespace Go.Proofs.YtacdkcapejijdaaGreatDoor
open Go.RowKit Go.Maps Go.WideMaps Clo

theorem DmAt.sess {w w' : World} {D : Nat} {G : Gh} {d : Dm} {n' : Nat} {ds' : DU} {ss' : Str → Option Int} (h : DmAt w D G d) (hk : Kpt (fun k => k = G.ms) w w')
    (hs : w'.ownsMap Tryz.prog 9 (plainElem Tryz.prog 3) G.ms n' ds') (h1 : G.n ≤ n') (h2 : n' ≤ G.n + 1)
    (hsk : ∀ t : Str, Maps.has ds' (.string t) = (ss' t).isSome ∧ ds'.atKey (.string t) (.lit (.int .i64 0)) = .lit (.int .i64 ((ss' t).getD 0))) :
    ∃ G', DmAt w' D G' { d with ss := ss' } ∧ Grow w w' G G' 1 := by
  have hne : ∀ k t, G.tag k = some t → t ≠ .ms → w'.heap[k]? = w.heap[k]? := fun k t hkt hn => hk.block k (h.tb k t hkt).2 fun e => by
    subst e; rw [h.tms] at hkt; exact hn (Option.some.inj hkt).symm
  refine ⟨{ G with n := n', ds := ds' }, ?_, ?_⟩
  · refine ⟨(hne _ _ h.tD (by simp)).trans h.cell, h.pos, (ownsMap_block h.l (hne _ _ h.tml (by simp))).mono h1, hs, h.lk, h.in64, ?_, h.none_, hsk, h.tD, h.tml, h.tms, h.tcb, ?_⟩
    · intro j Bj hj
      obtain ⟨c, g1, g2, g3⟩ := h.some_ j Bj hj
      obtain ⟨t1, t2, t3⟩ := h.tcb j Bj hj
      exact ⟨c, g1, g2.kept (hne _ _ t1 (by simp)) (hne _ _ t2 (by simp)) fun b v hv => ⟨hne _ _ (t3 b v hv).1 (by simp), fun g hg => hne _ _ ((t3 b v hv).2 g hg) (by simp)⟩, g3⟩
    · intro k t hkt
      have := h.tb k t hkt
      have := hk.size
      omega
  · refine ⟨hk.mono fun k _ e => by rw [e, h.tms]; simp, fun k hk => .inl hk, h2⟩
theorem Kpt.ofGrown {w w' : World} {b : Nat} (h : w.grownBy w' (some b)) : Kpt (fun k => k = b) w w' :=
  ⟨h.os, h.tape, h.output, h.size, fun k hk hn => h.block k hk fun e => hn (Option.some.inj e)⟩
theorem str_ne {a b : Str} (h : a ≠ b) : (Lit.string a) ≠ .string b := fun e => h (by injection e)

set_option maxHeartbeats 2000000 in
set_option maxRecDepth 100000 in
theorem bind_any (D : Nat) (G : Gh) (d : Dm) (t : ByteArray) (u : Int) (w : World) (h : DmAt w D G d) (ht : t.size ≤ maxLen) (hn : G.n < maxLen) :
    Calls Tryz.prog 8 #[.pointer (some ⟨D, 0, none⟩), .string t, .int .i64 u] w (DmPost D G 1 (dmBind d (bl t) u) w) := by
  obtain ⟨R, hR⟩ : ∃ R, R = dmBind d (bl t) u := ⟨_, rfl⟩
  rw [← hR]
  unfold dmBind at hR
  have HG := Lib.hid h.given
  obtain ⟨c0, c1, c2, c3, c4⟩ := h.cells
  by_cases hbad : u < 0 ∨ d.users ≤ u ∨ bl t = []
  · rw [if_pos hbad] at hR
    have HR := Lib.hid hR; have HD := Lib.hid h; clear hR h
    rcases Classical.em (u < 0) with hu | hu
    · clear hbad
      go_enter Tryz.func8, Tryz.ntmps8
      go_wp2_with (first | (go_at_call 25; refine HG.out.mono ?_; rintro e w1 ⟨rfl, rfl⟩))
      go_ret
      exact DmPost.same HR.out HD.out
    · rcases Classical.em (d.users ≤ u) with hv | hv
      · clear hbad
        go_enter Tryz.func8, Tryz.ntmps8
        go_wp2_with (first | (go_at_call 25; refine HG.out.mono ?_; rintro e w1 ⟨rfl, rfl⟩))
        go_ret
        exact DmPost.same HR.out HD.out
      · have te : t.toList.isEmpty = true := by
          rw [toList_bl]; rcases hbad with h | h | h
          · exact absurd h hu
          · exact absurd h hv
          · rw [h]; rfl
        clear hbad
        go_enter Tryz.func8, Tryz.ntmps8
        go_wp2_with (first | (go_at_call 25; refine HG.out.mono ?_; rintro e w1 ⟨rfl, rfl⟩))
        go_ret
        exact DmPost.same HR.out HD.out
  · rw [if_neg hbad] at hR
    have hu : ¬ u < 0 := fun h => hbad (.inl h)
    have hv : ¬ d.users ≤ u := fun h => hbad (.inr (.inl h))
    have hw : bl t ≠ [] := fun h => hbad (.inr (.inr h))
    have te : t.toList.isEmpty = false := by rw [toList_bl]; cases hb : bl t with | nil => exact absurd hb hw | cons a b => rfl
    have hwf : (Lit.int .i64 u).wf = true := WalkArith.wf_i64 (by have := h.pos; omega)
    have HR := Lib.hid hR; have HD := Lib.hid h; have HWF := Lib.hid hwf; have HS := Lib.hid h.s; clear hR h hbad hw hwf
    go_enter Tryz.func8, Tryz.ntmps8
    go_wp2_with (first | (go_at_call 25; refine HG.out.mono ?_; rintro e w1 ⟨rfl, rfl⟩) | (at_mapUpdate; refine wpList_mapUpdate_own _ rfl _ _ _ 67 rfl 9 3 (string_keyed Tryz.underlying9) Tryz.underlying67 _ G.ms G.n G.ds rfl HS.out hn _ _ _ rfl rfl (keyOf_string_mk Tryz.underlying9 ht) _ [] (plainElem_int Tryz.underlying3 HWF.out) ?_; intro w1 hown1 hgrow1))
    go_ret
    rw [HR.out]
    refine ⟨rfl, ?_⟩
    refine HD.out.sess (Kpt.ofGrown hgrow1) hown1 (Nat.le_succ _) (Nat.le_refl _) fun t' => ?_
    by_cases he : t' = bl t
    · subst he
      rw [upd_same]
      exact ⟨has_put_same HS.out.isMap (show WideAt.IsKeyLit (.string (bl t)) from trivial) _, atKey_put_same HS.out.isMap (show WideAt.IsKeyLit (.string (bl t)) from trivial) _ _⟩
    · rw [upd_ne _ _ he]
      obtain ⟨s1, s2⟩ := HD.out.sk t'
      exact ⟨(has_put_other (str_ne he) _).trans s1, (atKey_put_other (str_ne he) _ _).trans s2⟩

theorem lit_int {a b : Int} (h : (DataW.lit (Lit.int .i64 a) : DU) = .lit (.int .i64 b)) : a = b := by cases h; rfl
theorem zeroInt (w : World) : (zeroValue 3).run Tryz.prog w = .ok (.int .i64 0) w := by kernel_rfl
theorem DmAt.sessLook {w : World} {D : Nat} {G : Gh} {d : Dm} (h : DmAt w D G d) (t : ByteArray) (ht : t.size ≤ maxLen) :
    (Instr.lookup 67 (.map (some G.ms)) (.string t) true).run Tryz.prog w = .ok (.tuple #[.int .i64 ((d.ss (bl t)).getD 0), .bool (d.ss (bl t)).isSome]) w := by
  have hz : plainElem (H := Unit) Tryz.prog 3 (.int .i64 0) = some (.lit (.int .i64 0), []) := plainElem_int Tryz.underlying3 (by decide)
  obtain ⟨v, ps, hrun, hv⟩ := h.s.look_ok (string_keyed Tryz.underlying9) Tryz.underlying67 (zeroInt w) hz (keyOf_string_mk Tryz.underlying9 ht)
  obtain ⟨s1, s2⟩ := h.sk (bl t)
  rw [hrun]
  obtain ⟨a, rfl, hc, _⟩ := plainElem_int_inv Tryz.underlying3 hv
  have h1 := congrArg Prod.fst hc
  simp only at h1
  have h2 : (Lit.string t.data.toList) = .string (bl t) := rfl
  rw [h2, s2] at h1
  rw [h2, s1]
  have h3 : (d.ss (bl t)).getD 0 = a := lit_int h1
  rw [h3]

set_option maxHeartbeats 2000000 in
set_option maxRecDepth 100000 in
theorem free_any (D : Nat) (G : Gh) (d : Dm) (t : ByteArray) (w : World) (h : DmAt w D G d) (ht : t.size ≤ maxLen) :
    Calls Tryz.prog 15 #[.pointer (some ⟨D, 0, none⟩), .string t] w (DmPost D G 1 (dmFree d (bl t)) w) := by
  obtain ⟨R, hR⟩ : ∃ R, R = dmFree d (bl t) := ⟨_, rfl⟩
  rw [← hR]
  unfold dmFree at hR
  have HG := Lib.hid h.given
  obtain ⟨c0, c1, c2, c3, c4⟩ := h.cells
  have hl := h.sessLook t ht
  cases hs : d.ss (bl t) with
  | none =>
    rw [hs] at hl hR
    simp only [Option.getD_none, Option.isSome_none] at hl
    have HR := Lib.hid hR; have HD := Lib.hid h; clear hR h hs
    go_enter Tryz.func15, Tryz.ntmps15
    go_wp2_with (first | (go_at_call 25; refine HG.out.mono ?_; rintro e w1 ⟨rfl, rfl⟩))
    go_ret
    exact DmPost.same HR.out HD.out
  | some u =>
    rw [hs] at hl hR
    simp only [Option.getD_some, Option.isSome_some] at hl
    have HR := Lib.hid hR; have HD := Lib.hid h; have HS := Lib.hid h.s; clear hR h hs
    go_enter Tryz.func15, Tryz.ntmps15
    go_wp2_with (first | (go_at_call 25; refine HG.out.mono ?_; rintro e w1 ⟨rfl, rfl⟩) | (at_delete; refine wpList_delete_own _ rfl _ _ 67 9 rfl 3 (string_keyed Tryz.underlying9) Tryz.underlying67 _ G.ms G.n G.ds rfl HS.out _ _ rfl (keyOf_string_mk Tryz.underlying9 ht) ?_; intro w1 hown1 hturn1))
    go_ret
    rw [HR.out]
    refine ⟨rfl, ?_⟩
    refine HD.out.sess (Kpt.ofGrown hturn1.grown) hown1 (Nat.le_refl _) (Nat.le_succ _) fun t' => ?_
    by_cases he : t' = bl t
    · subst he
      rw [upd_same]
      exact ⟨has_del_same, atKey_del_same _⟩
    · rw [upd_ne _ _ he]
      obtain ⟨s1, s2⟩ := HD.out.sk t'
      exact ⟨(has_del_other (str_ne he)).trans s1, (atKey_del_other (str_ne he) _).trans s2⟩
end Go.Proofs.YtacdkcapejijdaaGreatDoor
