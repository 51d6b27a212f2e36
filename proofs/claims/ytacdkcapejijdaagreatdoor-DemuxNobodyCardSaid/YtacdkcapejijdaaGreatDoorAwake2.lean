/- The statements' awake: true. -/
import Derived.Test.YtacdkcapejijdaaGreatDoorNobody
import Derived.Test.YtacdkcapejijdaaGreatDoorAwake1
namespace Go.Proofs.YtacdkcapejijdaaGreatDoor
open Go.RowKit Go.Maps Go.WideMaps Clo

theorem Grow.own {w0 w w' : World} {G G' : Gh} {m : Nat} (h : Grow w w' G G' m) (hb : Below w0.heap.size w0 w) (ht : ∀ k, G.tag k ≠ none → w0.heap.size ≤ k) :
    Below w0.heap.size w0 w' ∧ ∀ k, G'.tag k ≠ none → w0.heap.size ≤ k := by
  refine ⟨⟨h.kpt.os.trans hb.os, h.kpt.tape.trans hb.tape, h.kpt.output.trans hb.output, Nat.le_trans hb.size h.kpt.size, fun k hk => ?_⟩, fun k hk => ?_⟩
  · refine (h.kpt.block k (Nat.lt_of_lt_of_le hk hb.size) fun hx => ?_).trans (hb.block k hk)
    have := ht k hx; omega
  · rcases h.tags k hk with hx | hx
    · exact ht k hx
    · exact Nat.le_trans hb.size hx
theorem Grow.keeps {w w' : World} {G G' : Gh} {m : Nat} (h : Grow w w' G G' m) {k : Nat} {o : Obj} (hk : w.heap[k]? = some o) (ht : G.tag k = none) : w'.heap[k]? = some o ∧ G'.tag k = none := by
  refine ⟨(h.kpt.block k (lt_of_blk hk) (fun hx => hx ht)).trans hk, ?_⟩
  cases hx : G'.tag k with
  | none => rfl
  | some t =>
    rcases h.tags k (by rw [hx]; simp) with hy | hy
    · exact absurd ht hy
    · have := lt_of_blk hk; omega
theorem DmAt.untag {w : World} {D : Nat} {G : Gh} {d : Dm} (h : DmAt w D G d) : G.tag w.heap.size = none := by
  cases hx : G.tag w.heap.size with
  | none => rfl
  | some t => have := (h.tb _ _ hx).2; omega

set_option maxHeartbeats 8000000 in
set_option maxRecDepth 100000 in
theorem awake_any (w : World) (hE : Env w) : Calls Tryz.prog 10 #[] w fun e w' => e = .returned (.bool true) ∧ Below w.heap.size w w' := by
  have HE := Lib.hid hE; clear hE
  have hnew := newOk_any 2 1 1 w HE.out (by omega) (by omega) (by omega)
  have HN := Lib.hid hnew; clear hnew
  go_enter Tryz.func10, Tryz.ntmps10
  go_wp2_with fail
  go_at_call 7
  refine HN.out.mono ?_
  rintro e w1 ⟨rfl, hb1, G1, hd1, hn1, ht1⟩
  generalize hD : w.heap.size + 2 = D at hd1 ⊢
  clear hD
  have hn1' : G1.n < maxLen := by rw [hn1]; decide
  have hbd := bind_any D G1 (dmNew 2 1 1) ⟨#[116]⟩ 1 w1 hd1 (by decide) hn1'
  unfold DmPost at hbd
  have e1 : (dmBind (dmNew 2 1 1) (bl ⟨#[116]⟩) 1).2 = 0 := aw_1
  have e1' : (dmBind (dmNew 2 1 1) (bl ⟨#[116]⟩) 1).1 = aw2 := rfl
  rw [e1, e1'] at hbd
  have HBD := Lib.hid hbd; clear hbd e1 e1'
  go_wp2_with fail
  go_at_call 8
  refine HBD.out.mono ?_
  rintro e w2 ⟨rfl, G2, hd2, hg2⟩
  obtain ⟨hb2, ht2⟩ := hg2.own hb1 ht1
  have hn2 : G2.n < maxLen := by have := hg2.n; rw [hn1] at this; exact Nat.lt_of_le_of_lt this (by decide)
  have hn2' := hg2.n
  have har := fun s => arrive_any D G2 aw2 0 s w2 hd2 hn2
  have HAR := Lib.hid har; clear har
  go_wp2_with fail
  go_at_call 9
  refine (HAR.out _).mono ?_
  unfold DmPost
  have e2 : ∀ s : ByteArray, bl s = getW ++ getW → (dmArrive aw2 0 (bl s)).2 = 0 ∧ (dmArrive aw2 0 (bl s)).1 = aw3 := fun s h => by rw [h]; exact ⟨aw_2, rfl⟩
  rw [(e2 _ rfl).1, (e2 _ rfl).2]
  rintro e w3 ⟨rfl, G3, hd3, hg3⟩
  obtain ⟨hb3, ht3⟩ := hg3.own hb2 ht2
  clear e2 HAR
  have hpk := pick_any D G3 aw3 0 w3 (HE.out.below hb3) hd3
  unfold PickPost at hpk
  have f1 : (dmPick aw3 0).2.2 = 0 := aw_3
  have f2 : (dmPick aw3 0).2.1.kind = 4 := aw_4
  have f3 : (dmPick aw3 0).2.1.user = 1 := aw_5
  have f4 : (dmPick aw3 0).1 = aw4 := rfl
  rw [f1, f4] at hpk
  generalize (dmPick aw3 0).2.1 = A1 at hpk f2 f3
  have HPK := Lib.hid hpk; have F2 := Lib.hid f2; have F3 := Lib.hid f3
  clear hpk f1 f2 f3 f4
  go_wp2_with fail
  go_at_call 11
  refine HPK.out.mono ?_
  rintro e w4 ⟨v1, q1, rfl, ⟨G4, hd4, hg4⟩, hv1, hq1⟩
  obtain ⟨hb4, ht4⟩ := hg4.own hb3 ht3
  have hu4 := hd4.untag
  obtain ⟨va, vc, rfl, _, _, _⟩ := hv1
  obtain ⟨qa, qc, rfl, _, _, _⟩ := hq1
  unfold actV actCells
  go_upto_region 6 with fail
  generalize hw5 : w4.alloc _ = w5
  have hb45 : Below w4.heap.size w4 w5 := by rw [← hw5]; exact (Below.refl _ _).alloc (Nat.le_refl _) _
  have hp5 : w5.heap[w4.heap.size]? = some (.cells (actCells A1 (.slice va A1.request.head.fields.length vc) (.slice qa A1.request.query.length qc)).toArray 37 (0, 0)) := by rw [← hw5]; exact heap_alloc_new _ _
  have hd5 := hd4.below hb45
  have hb5 := hb4.trans (hb45.mono hb4.size)
  clear hw5
  have han := answer_any D G4 aw4 0 rsHi (.slice none 0 0) w5 hd5 (PairsAt.nil _) ⟨fun k hk => by simp [rsHi] at hk, by decide⟩ (by decide)
  unfold DmPost at han
  have f1 : (dmAnswer aw4 0 rsHi).2 = 0 := aw_6
  have f4 : (dmAnswer aw4 0 rsHi).1 = aw5 := rfl
  rw [f1, f4] at han
  have HAN := Lib.hid han; clear han f1 f4
  go_wp2_with fail
  go_at_call 12
  refine HAN.out.mono ?_
  rintro e w6 ⟨rfl, G6, hd6, hg6⟩
  obtain ⟨hb6, ht6⟩ := hg6.own hb5 ht4
  obtain ⟨hp6, hu6⟩ := hg6.keeps hp5 hu4
  have hpk := pick_any D G6 aw5 0 w6 (HE.out.below hb6) hd6
  unfold PickPost at hpk
  have f1 : (dmPick aw5 0).2.2 = 0 := aw_7
  have f2 : (dmPick aw5 0).2.1.kind = 1 := aw_8
  have f3 : 20 < (dmPick aw5 0).2.1.out.length := of_decide_eq_true aw_9
  have f4 : (dmPick aw5 0).1 = aw6 := rfl
  rw [f1, f4] at hpk
  generalize (dmPick aw5 0).2.1 = A2 at hpk f2 f3
  have HPK2 := Lib.hid hpk; have E2 := Lib.hid f2; have E3 := Lib.hid f3
  clear hpk f1 f2 f3 f4
  go_wp2_with fail
  go_at_call 11
  refine HPK2.out.mono ?_
  rintro e w7 ⟨v2, q2, rfl, ⟨G7, hd7, hg7⟩, hv2, hq2⟩
  obtain ⟨hb7, ht7⟩ := hg7.own hb6 ht6
  obtain ⟨hp7, hu7⟩ := hg7.keeps hp6 hu6
  obtain ⟨va2, vc2, rfl, _, _, _⟩ := hv2
  obtain ⟨qa2, qc2, rfl, _, _, _⟩ := hq2
  unfold actV actCells
  go_upto_region 8 with fail
  generalize hw8 : w7.alloc _ = w8
  have hb78 : Below w7.heap.size w7 w8 := by rw [← hw8]; exact (Below.refl _ _).alloc (Nat.le_refl _) _
  have hp8 : w8.heap[w7.heap.size]? = some (.cells (actCells A2 (.slice va2 A2.request.head.fields.length vc2) (.slice qa2 A2.request.query.length qc2)).toArray 37 (0, 0)) := by rw [← hw8]; exact heap_alloc_new _ _
  have hp8' := (hb78.block _ (lt_of_blk hp7)).trans hp7
  have hd8 := hd7.below hb78
  have hb8 := hb7.trans (hb78.mono hb7.size)
  have hus := user_any D G7 aw6 0 w8 hd8
  have f1 : dmUser aw6 0 = 1 := aw_10
  rw [f1] at hus
  have HUS := Lib.hid hus
  have k0 : w8.cell? ⟨w4.heap.size, 0, none⟩ = some (.int .i64 4) := by rw [(act_cells hp8').1, F2.out]
  have k3 : w8.cell? ⟨w4.heap.size, 3, none⟩ = some (.int .i64 1) := by rw [(act_cells hp8').2.2.2.1, F3.out]
  have j0 : w8.cell? ⟨w7.heap.size, 0, none⟩ = some (.int .i64 1) := by rw [(act_cells hp8).1, E2.out]
  have j1 := (act_cells hp8).2.1
  obtain ⟨os, eos, bos⟩ := str_of A2.out
  rw [eos] at j1 ⊢
  have hol : 20 < os.size := by have := E3.out; rw [← bos, bl_length] at this; exact this
  have HB8 := Lib.hid hb8
  clear hw8 hp8 hp8' hd8 hus f1 hb8 eos bos
  go_wp2_with (go_at_call 16; refine HUS.out.mono ?_; rintro e w9 ⟨rfl, hw9⟩; rw [hw9]; clear hw9 w9)
  go_ret
  exact ⟨rfl, HB8.out⟩
end Go.Proofs.YtacdkcapejijdaaGreatDoor
