/- package head: version, field's and request's lines. -/
import Derived.Test.YtacdkcapejijdaaGreatDoorHead1
import Derived.Test.YtacdkcapejijdaaGreatDoorUri6
import Derived.Deep.RegionLaw
namespace Go.Proofs.YtacdkcapejijdaaGreatDoor
open Go.RowKit Clo

theorem bl_getD (s : ByteArray) (k : Nat) (h : k < s.size) : (bl s).getD k 0 = s[k] := by simp [bl, List.getD, h]; rfl

theorem version_any (s : ByteArray) (w : World) : Calls Tryz.prog 116 #[.string s] w fun e w' => e = .returned (.bool (version (bl s))) ∧ w' = w := by
  by_cases h8 : s.size = 8
  · have l5 : 5 < s.size := by omega
    have l6 : 6 < s.size := by omega
    have l7 : 7 < s.size := by omega
    have e5 := bl_getD s 5 l5
    have e6 := bl_getD s 6 l6
    have e7 := bl_getD s 7 l7
    have hp := fun w => hasPrefix_any s ⟨#[72, 84, 84, 80, 47]⟩ w
    have ep : bl ⟨#[72, 84, 84, 80, 47]⟩ = httpW := rfl
    rw [ep] at hp
    have hv : version (bl s) = (Lib.hasPrefix (bl s) httpW && (isDigit (s[5]'l5) && (decide ((s[6]'l6) = 46) && isDigit (s[7]'l7)))) := by
      unfold version; rw [e5, e6, e7, bl_length, decide_eq_true h8, Bool.true_and]
    generalize Lib.hasPrefix (bl s) httpW = b1 at hp hv
    have hq : (((s[6]'l6).toNat : Int) == 46) = decide ((s[6]'l6) = 46) := u8_beq (s[6]'l6) 46
    have d5 := fun w => digit_any (s[5]'l5) w
    have d7 := fun w => digit_any (s[7]'l7) w
    generalize isDigit (s[5]'l5) = b2 at d5 hv
    generalize isDigit (s[7]'l7) = b4 at d7 hv
    generalize decide ((s[6]'l6) = 46) = b3 at hq hv
    have HV := Lib.hid hv; have HP := Lib.hid hp; have D5 := Lib.hid d5; have D7 := Lib.hid d7
    have t8 : ((s.size : Int) == 8) = true := by rw [h8]; rfl
    clear h8 hv hp d5 d7 ep e5 e6 e7
    cases b1 <;> cases b2 <;> cases b3 <;> cases b4
    all_goals
      go_enter Tryz.func116, Tryz.ntmps116
      go_wp2_with (first | (go_at_call 83; refine (HP.out _).mono ?_; rintro e w' ⟨rfl, rfl⟩) | (go_at_call 76; (with_reducible refine (D5.out _).mono ?_); rintro e w' ⟨rfl, rfl⟩) | (go_at_call 76; (with_reducible refine (D7.out _).mono ?_); rintro e w' ⟨rfl, rfl⟩))
      go_ret
      exact ⟨ret_bool (by rw [HV.out]; rfl), rfl⟩
  · have hv : version (bl s) = false := by unfold version; rw [bl_length]; simp [h8]
    have HV := Lib.hid hv
    have t8 : ((s.size : Int) == 8) = false := by rw [beq_eq_false_iff_ne]; omega
    clear hv h8
    go_enter Tryz.func116, Tryz.ntmps116
    go_wp2
    go_ret
    exact ⟨ret_bool HV.out.symm, rfl⟩
end Go.Proofs.YtacdkcapejijdaaGreatDoor
