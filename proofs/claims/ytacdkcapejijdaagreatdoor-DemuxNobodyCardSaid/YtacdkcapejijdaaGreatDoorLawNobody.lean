/- DemuxNobody: the walk. -/
import Derived.Test.YtacdkcapejijdaaGreatDoorAwake2
namespace Go.Proofs.YtacdkcapejijdaaGreatDoor
open Go.RowKit Go.Maps Go.WideMaps Clo

set_option maxHeartbeats 8000000 in
set_option maxRecDepth 100000 in
theorem demuxNobody_any (n : Int) (s : ByteArray) (w : World) (hE : Env w) :
    Calls Tryz.prog 6 #[.int .i64 n, .string s] w fun e w' => e = .returned (.bool true) ∧ Below w.heap.size w w' := by
  have HE := Lib.hid hE; clear hE
  go_enter Tryz.func6, Tryz.ntmps6
  go_upto_region 2 with fail
  generalize hw1 : (w.alloc _).alloc _ = w1
  have hb1 : Below w.heap.size w w1 := by rw [← hw1]; exact ((Below.refl _ _).alloc (Nat.le_refl _) _).alloc (by simp) _
  have hd1 : w1.heap[w.heap.size]? = some (.cells #[.int .i64 0, .int .i64 0, .int .i64 0, .map none, .map none] 69 (0, 0)) := by rw [← hw1, Lib.alloc_old _ _ _ (by simp)]; exact heap_alloc_new _ _
  have hl1 : w1.heap[w.heap.size + 1]? = some (.cells #[.pointer none, .pointer (some ⟨w.heap.size, 0, none⟩)] 23 (0, 0)) := by rw [← hw1]; exact alloc_at _ _ _ (by simp)
  clear hw1
  have HD1 := Lib.hid hd1; have HL1 := Lib.hid hl1; clear hd1 hl1
  go_wp2_with fail
  go_loopw [6, 7, 8, 9, 10, 11] (fun i _ _ _ _ _ wr => ∃ k : Nat, k ≤ 2 ∧ i = .int .i64 k ∧ Below w1.heap.size w1 wr) (fun i _ _ _ _ _ _ => 2 - (intOf i).toNat)
  case atStart => exact ⟨0, Nat.zero_le _, rfl, Below.refl _ _⟩
  case round =>
    obtain ⟨k, hk, rfl, hbw⟩ := hrel
    have hz := hbw.size
    by_cases hlt : k < 2
    · have hp : ∃ p, wr.cell? ⟨w.heap.size + 1, k, none⟩ = some p ∧ (p = .pointer none ∨ ∃ D, p = .pointer (some ⟨D, 0, none⟩) ∧ wr.cell? ⟨D, 0, none⟩ = some (.int .i64 0)) := by
        have hl := (hbw.block _ (lt_of_blk HL1.out)).trans HL1.out
        have hd := (hbw.block _ (lt_of_blk HD1.out)).trans HD1.out
        rcases k with _ | _ | k
        · exact ⟨_, by rw [blk_cell hl]; rfl, .inl rfl⟩
        · exact ⟨_, by rw [blk_cell hl]; rfl, .inr ⟨w.heap.size, rfl, by rw [blk_cell hd]; rfl⟩⟩
        · omega
      obtain ⟨p, c0, hp⟩ := hp
      have HP := Lib.hid hp; clear hp
      go_wp2_with fail
      go_at_call 11
      refine (nobody_pick p n wr HP.out).mono ?_
      rintro e w2 ⟨rfl, hb2⟩
      unfold actV actCells
      go_upto_region 7 with fail
      generalize hw3 : w2.alloc _ = w3
      have hb3 : Below wr.heap.size wr w3 := by rw [← hw3]; exact hb2.trans ((Below.refl _ _).alloc hb2.size _)
      have ha3 : w3.heap[w2.heap.size]? = some (.cells (actCells Clo.Act.zero (.slice none 0 0) (.slice none 0 0)).toArray 37 (0, 0)) := by rw [← hw3]; exact heap_alloc_new _ _
      obtain ⟨a0, a1, a2, a3, a4, a5, a6, a7, a8, a9, a10, a11, a12, a13, a14⟩ := act_cells ha3
      clear hw3 ha3
      have hgi : ∀ W, Below wr.heap.size wr W → GivenIs p false W := fun W h => given_below HP.out h
      have HGI := Lib.hid hgi; clear hgi c0
      go_wp2_with (first | (go_at_call 21; refine (nobody_counts p n _ (HGI.out _ (by assumption))).mono ?_; rintro e wE ⟨rfl, hwE⟩; rw [hwE]; clear hwE wE) | (go_at_call 9; refine (nobody_arrive p n s _ (HGI.out _ (by assumption))).mono ?_; rintro e wE ⟨rfl, hwE⟩; rw [hwE]; clear hwE wE) | (go_at_call 18; refine (nobody_shut p n _ (HGI.out _ (by assumption))).mono ?_; rintro e wE ⟨rfl, hwE⟩; rw [hwE]; clear hwE wE))
      go_at_call 20
      refine (plainLaw_any Clo.Act.zero (.slice none 0 0) (.slice none 0 0) w3 (PairsAt.nil _) (PairsAt.nil _)).mono ?_
      rintro e w4 ⟨rfl, hb4⟩
      have hb34 := hb3.trans (hb4.mono hb3.size)
      clear a0 a1 a2 a3 a4 a5 a6 a7 a8 a9 a10 a11 a12 a13 a14
      unfold actV actCells
      go_wp2_with fail
      go_at_call 19
      refine (same18_any Clo.Act.zero (.slice none 0 0) (.slice none 0 0) (.slice none 0 0) (.slice none 0 0) w4 (PairsAt.nil _) (PairsAt.nil _) (PairsAt.nil _) (PairsAt.nil _)).mono ?_
      rintro e w5 ⟨rfl, hb5⟩
      have hb35 := hb34.trans (hb5.mono hb34.size)
      have hp5 : p = .pointer none ∨ ∃ D, p = .pointer (some ⟨D, 0, none⟩) ∧ w5.cell? ⟨D, 0, none⟩ = some (.int .i64 0) := by
        rcases HP.out with h | ⟨D, h, hc⟩
        · exact .inl h
        · exact .inr ⟨D, h, by rw [(bcell hb35).1 _ _ (lt_of_cell hc)]; exact hc⟩
      have HP5 := Lib.hid hp5; clear hp5
      go_wp2_with fail
      go_at_call 12
      refine (nobody_answer p n 0 ⟨#[]⟩ false w5 HP5.out).mono ?_
      rintro e w6 ⟨rfl, hb6⟩
      have hb36 := hb35.trans (hb6.mono hb35.size)
      go_wp2_with (first | (go_at_call 8; refine (nobody_bind p s n _ (HGI.out _ (by assumption))).mono ?_; rintro e wE ⟨rfl, hwE⟩; rw [hwE]; clear hwE wE) | (go_at_call 15; refine (nobody_free p s _ (HGI.out _ (by assumption))).mono ?_; rintro e wE ⟨rfl, hwE⟩; rw [hwE]; clear hwE wE) | (go_at_call 16; refine (nobody_user p n _ (HGI.out _ (by assumption))).mono ?_; rintro e wE ⟨rfl, hwE⟩; rw [hwE]; clear hwE wE) | (go_at_call 22; refine (nobody_open p n _ (HGI.out _ (by assumption))).mono ?_; rintro e wE ⟨rfl, hwE⟩; rw [hwE]; clear hwE wE) | (go_at_call 23; refine (nobody_waits p n _ (HGI.out _ (by assumption))).mono ?_; rintro e wE ⟨rfl, hwE⟩; rw [hwE]; clear hwE wE) | (go_at_call 24; refine (nobody_copy p _ (HGI.out _ (by assumption))).mono ?_; rintro e wE ⟨rfl, hwE⟩; rw [hwE]; clear hwE wE))
      go_goals
      go_roundw
      case rel => exact ⟨k + 1, by omega, by go_num, hbw.trans (hb36.mono hz)⟩
      case measure => simp [intOf]; omega
    · go_wp2_with fail
      go_at_call 10
      refine (awake_any wr (HE.out.below (hb1.trans (hbw.mono hb1.size)))).mono ?_
      rintro e w2 ⟨rfl, hb2⟩
      go_wp2_with fail
      go_ret
      exact ⟨rfl, (hb1.trans (hbw.mono hb1.size)).trans (hb2.mono (Nat.le_trans hb1.size hz))⟩
end Go.Proofs.YtacdkcapejijdaaGreatDoor
