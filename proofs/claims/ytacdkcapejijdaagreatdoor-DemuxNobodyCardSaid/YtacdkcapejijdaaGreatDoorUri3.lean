/- package uri: parts, over whatever closure. -/
import Derived.Test.YtacdkcapejijdaaGreatDoorUri2
import Derived.Test.YtacdkcapejijdaaGreatDoorKit2
namespace Go.Proofs.YtacdkcapejijdaaGreatDoor
open Go.RowKit Clo

theorem splitOn_miss (c : UInt8) : ∀ s : Str, Lib.indexByte s c < 0 → splitOn c s = [s]
  | [], _ => rfl
  | x :: r, h => by
    unfold Lib.indexByte at h
    by_cases hx : x = c
    · simp [hx] at h
    · have hr : Lib.indexByte r c < 0 := by
        have := Lib.indexByte_ge r c
        simp only [beq_iff_eq, hx, if_false] at h
        split at h
        · omega
        · omega
      simp [splitOn, hx, splitOn_miss c r hr]
theorem splitOn_hit (c : UInt8) : ∀ (s : Str) (k : Nat), Lib.indexByte s c = k → splitOn c s = s.take k :: splitOn c (s.drop (k + 1))
  | [], k, h => by unfold Lib.indexByte at h; omega
  | x :: r, k, h => by
    unfold Lib.indexByte at h
    by_cases hx : x = c
    · simp [hx] at h
      have : k = 0 := by omega
      subst this
      simp [splitOn, hx]
    · simp only [beq_iff_eq, hx, if_false] at h
      split at h
      · omega
      · obtain ⟨j, rfl⟩ : ∃ j, k = j + 1 := ⟨k - 1, by have := Lib.indexByte_ge r c; omega⟩
        have := splitOn_hit c r j (by omega)
        simp [splitOn, hx, this]
theorem indexByte_lt (c : UInt8) : ∀ (s : Str) (k : Nat), Lib.indexByte s c = k → k < s.length
  | [], k, h => by unfold Lib.indexByte at h; omega
  | x :: r, k, h => by
    unfold Lib.indexByte at h
    by_cases hx : x = c
    · simp [hx] at h
      simp; omega
    · simp only [beq_iff_eq, hx, if_false] at h
      split at h
      · omega
      · have hg := Lib.indexByte_ge r c
        have := indexByte_lt c r (k - 1) (by omega)
        simp; omega

theorem foldParts_cons {σ : Type} (upd : σ → Str → Nat → σ × Bool) (st : σ) (a : Nat) (p : Str) (r : List Str) : foldParts upd st a (p :: r) = if (upd st p a).2 then foldParts upd (upd st p a).1 (a + p.length + 1) r else (upd st p a).1 := rfl
theorem foldParts_last {σ : Type} (upd : σ → Str → Nat → σ × Bool) (st : σ) (a : Nat) (p : Str) : foldParts upd st a [p] = (upd st p a).1 := by
  rw [foldParts_cons]; split <;> rfl

/-- A closure that turns states by upd: f with what it captured. -/
def Turns {σ : Type} (f : Nat) (caps : Array Value) (R : Nat → σ → World → Prop) (upd : σ → Str → Nat → σ × Bool) (n : Nat) : Prop :=
  (∀ args w, (callFunc f args).run Tryz.prog w = .ok (.enter f args) w) ∧
  ∀ (p : ByteArray) (a : Nat) (st : σ) (w : World), R a st w → a + p.size ≤ n → Calls Tryz.prog f (#[.string p, .int .i64 a] ++ caps) w fun e w' => e = .returned (.bool (upd st (bl p) a).2) ∧ R (a + p.size + 1) (upd st (bl p) a).1 w'

set_option maxHeartbeats 1000000 in
theorem parts_any {σ : Type} (s : ByteArray) (c : UInt8) (f : Nat) (caps : Array Value) (R : Nat → σ → World → Prop) (upd : σ → Str → Nat → σ × Bool) (st0 : σ) (w : World) (hs : s.size ≤ 140737488355328) (hf : Turns f caps R upd s.size) (h0 : R 0 st0 w) :
    Calls Tryz.prog 127 #[.string s, .int .u8 c.toNat, .func (.func f) #[] caps] w fun e w' => e = .returned (.tuple #[]) ∧ ∃ a, a ≤ s.size + 1 ∧ R a (foldParts upd st0 0 (splitOn c (bl s))) w' := by
  obtain ⟨hent, hstep⟩ := hf
  have HS := Lib.hid hstep; clear hstep
  go_enter Tryz.func127, Tryz.ntmps127
  go_wp2
  go_loopw [6, 7] (fun i _ wr => ∃ (k : Nat) (st : σ), k ≤ s.size ∧ i = .int .i64 k ∧ foldParts upd st0 0 (splitOn c (bl s)) = foldParts upd st k (splitOn c ((bl s).drop k)) ∧ R k st wr) (fun i _ _ => s.size - (intOf i).toNat)
  case atStart => exact ⟨0, st0, Nat.zero_le _, rfl, rfl, h0⟩
  case round =>
    obtain ⟨k, st, hk, rfl, hfold, hR⟩ := hrel
    have HFO := Lib.hid hfold; clear hfold
    have HR := Lib.hid hR; clear hR
    obtain ⟨ix, hix⟩ : ∃ ix, Lib.indexByte ((bl s).drop k) c = ix := ⟨_, rfl⟩
    have hcall : Calls Tryz.prog 146 #[.string (s.extract k s.size), .int .u8 c.toNat] wr fun e w' => e = .returned (.int .i64 ix) ∧ w' = wr := by
      have h := Tryz.strings_IndexByte (s.extract k s.size) c.toNat wr
      rw [bl_eq, bl_drop] at h
      have e1 : ((c.toNat : Int)).toNat.toUInt8 = c := by simp
      rw [e1, hix] at h
      exact h
    have HC := Lib.hid hcall; clear hcall
    by_cases hneg : ix < 0
    · have hend : foldParts upd st0 0 (splitOn c (bl s)) = (upd st ((bl s).drop k) k).1 := by rw [HFO.out, splitOn_miss c _ (by omega), foldParts_last]
      have HE := Lib.hid hend; clear hend
      have hst := HS.out (s.extract k s.size) k st wr HR.out (by rw [size_extract]; omega)
      rw [bl_drop] at hst
      have HST := Lib.hid hst; clear hst hix
      go_wp2_with (first | (go_at_call 146; refine HC.out.mono ?_; rintro e w' ⟨rfl, rfl⟩) | (refine HST.out.mono ?_; rintro e w1 ⟨rfl, hR1⟩))
      refine bodyPost_ret (results_none rfl _ _ _) rfl ?_
      refine ⟨rfl, _, ?_, by rw [HE.out]; exact hR1⟩
      rw [size_extract]; omega
    · obtain ⟨j, rfl⟩ : ∃ j : Nat, ix = j := ⟨ix.toNat, by omega⟩
      have hjl := indexByte_lt c _ _ hix
      rw [List.length_drop, bl_length] at hjl
      have hsp := splitOn_hit c _ _ hix
      have hst := HS.out (s.extract k (k + j)) k st wr HR.out (by rw [size_extract]; omega)
      have etk : bl (s.extract k (k + j)) = ((bl s).drop k).take j := by rw [bl_extract]; congr 1; omega
      rw [etk] at hst
      by_cases hgo : (upd st (((bl s).drop k).take j) k).2 = true
      · have hnext : foldParts upd st0 0 (splitOn c (bl s)) = foldParts upd (upd st (((bl s).drop k).take j) k).1 (k + (j + 1)) (splitOn c ((bl s).drop (k + (j + 1)))) := by
          rw [HFO.out, hsp, foldParts_cons, if_pos hgo, List.drop_drop, List.length_take, List.length_drop, bl_length]
          congr 1
          omega
        have HN := Lib.hid hnext; clear hnext
        rw [hgo] at hst
        have HST := Lib.hid hst; clear hst hix hsp hgo etk
        go_wp2_with (first | (go_at_call 146; refine HC.out.mono ?_; rintro e w' ⟨rfl, rfl⟩) | (refine HST.out.mono ?_; rintro e w1 ⟨rfl, hR1⟩))
        go_roundw
        case rel => exact ⟨k + (j + 1), _, by omega, by go_num, HN.out, by have e : k + (s.extract k (k + j)).size + 1 = k + (j + 1) := by { rw [size_extract]; omega }; rw [e] at hR1; exact hR1⟩
        case measure => simp [intOf]; omega
      · have hgo' : (upd st (((bl s).drop k).take j) k).2 = false := by simpa using hgo
        have hend : foldParts upd st0 0 (splitOn c (bl s)) = (upd st (((bl s).drop k).take j) k).1 := by rw [HFO.out, hsp, foldParts_cons, if_neg hgo]
        have HE := Lib.hid hend; clear hend
        rw [hgo'] at hst
        have HST := Lib.hid hst; clear hst hix hsp hgo hgo' etk
        go_wp2_with (first | (go_at_call 146; refine HC.out.mono ?_; rintro e w' ⟨rfl, rfl⟩) | (refine HST.out.mono ?_; rintro e w1 ⟨rfl, hR1⟩))
        refine bodyPost_ret (results_none rfl _ _ _) rfl ?_
        refine ⟨rfl, _, ?_, by rw [HE.out]; exact hR1⟩
        rw [size_extract]; omega
end Go.Proofs.YtacdkcapejijdaaGreatDoor
