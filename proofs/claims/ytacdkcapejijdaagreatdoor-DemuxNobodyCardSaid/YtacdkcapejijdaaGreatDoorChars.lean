/- The program's predicates on bytes; head.all over whatever predicate. -/
import Derived.Test.YtacdkcapejijdaaGreatDoorShelf
import Derived.Test.YtacdkcapejijdaaGreatDoorSpec1
import Derived.Test.YtacdkcapejijdaaGreatDoorKit
namespace Go.Proofs.YtacdkcapejijdaaGreatDoor
open Go.RowKit Clo

theorem large_any (c : UInt8) (w : World) : Calls Tryz.prog 114 #[.int .u8 c.toNat] w fun e w' => e = .returned (.bool (isLarge c)) ∧ w' = w := by
  go_enter Tryz.func114, Tryz.ntmps114
  go_wp2
  all_goals (go_ret; exact ⟨ret_bool (by rw [Bool.eq_iff_iff]; simp [isLarge]; try omega), rfl⟩)
theorem visible_any (c : UInt8) (w : World) : Calls Tryz.prog 115 #[.int .u8 c.toNat] w fun e w' => e = .returned (.bool (isVisible c)) ∧ w' = w := by
  go_enter Tryz.func115, Tryz.ntmps115
  go_wp2
  all_goals (go_ret; exact ⟨ret_bool (by rw [Bool.eq_iff_iff]; simp [isVisible]; try omega), rfl⟩)
theorem digit_any (c : UInt8) (w : World) : Calls Tryz.prog 76 #[.int .u8 c.toNat] w fun e w' => e = .returned (.bool (isDigit c)) ∧ w' = w := by
  go_enter Tryz.func76, Tryz.ntmps76
  go_wp2
  all_goals (go_ret; exact ⟨ret_bool (by rw [Bool.eq_iff_iff]; simp [isDigit]; try omega), rfl⟩)
theorem loose_any (c : UInt8) (w : World) : Calls Tryz.prog 118 #[.int .u8 c.toNat] w fun e w' => e = .returned (.bool (isLoose c)) ∧ w' = w := by
  have hv : isVisible c = decide (33 ≤ c.toNat ∧ c.toNat ≤ 126) := rfl
  have HV := Lib.hid hv; clear hv
  by_cases h1 : isVisible c = true
  all_goals
    go_enter Tryz.func118, Tryz.ntmps118
    go_wp2_with (go_at_call 115; refine (visible_any _ _).mono ?_; rintro e w' ⟨rfl, rfl⟩)
    all_goals (go_ret; exact ⟨ret_bool (by rw [HV.out] at h1; rw [Bool.eq_iff_iff]; simp [isLoose] at h1 ⊢; try omega), rfl⟩)
theorem odd_any (c : UInt8) (w : World) : Calls Tryz.prog 84 #[.int .u8 c.toNat] w fun e w' => e = .returned (.bool (isOdd c)) ∧ w' = w := by
  go_enter Tryz.func84, Tryz.ntmps84
  go_wp2
  all_goals (go_ret; exact ⟨ret_bool (by rw [Bool.eq_iff_iff]; simp [isOdd]; try omega), rfl⟩)
theorem isMark_iff (c : UInt8) : (0 ≤ Lib.indexByte [33, 35, 36, 37, 38, 39, 42, 43, 45, 46, 94, 95, 96, 124, 126] c) ↔ isMark c = true := by
  unfold isMark marks
  rw [decide_eq_true_iff]
theorem token_any (c : UInt8) (w : World) : Calls Tryz.prog 117 #[.int .u8 c.toNat] w fun e w' => e = .returned (.bool (isToken c)) ∧ w' = w := by
  have HM := Lib.hid (isMark_iff c)
  by_cases h1 : isLarge c = true <;> by_cases h4 : isDigit c = true
  all_goals
    go_enter Tryz.func117, Tryz.ntmps117
    go_wp2_with (first | (go_at_call 114; refine (large_any _ _).mono ?_; rintro e w' ⟨rfl, rfl⟩) | (go_at_call 76; refine (digit_any _ _).mono ?_; rintro e w' ⟨rfl, rfl⟩) | (go_at_call 146; refine (Tryz.strings_IndexByte _ _ _).mono ?_; rintro e w' ⟨rfl, rfl⟩))
    all_goals (go_ret; exact ⟨ret_bool (by
      rw [Bool.eq_iff_iff]; simp only [isToken, Bool.or_eq_true, decide_eq_true_eq, ← HM.out, h1, h4]; (try simp); try omega), rfl⟩)

/-- A function value that answers bytes by p, and leaves the world alone. -/
def Says (fv : Value) (p : UInt8 → Bool) : Prop := ∃ f, fv = .func (.func f) #[] #[] ∧ (∀ args w, (callFunc f args).run Tryz.prog w = .ok (.enter f args) w) ∧ ∀ (c : UInt8) (w : World), Calls Tryz.prog f #[.int .u8 c.toNat] w fun e w' => e = .returned (.bool (p c)) ∧ w' = w

theorem all_any (s : ByteArray) (fv : Value) (p : UInt8 → Bool) (w : World) (hs : s.size ≤ maxLen) (hf : Says fv p) :
    Calls Tryz.prog 75 #[.string s, fv] w fun e w' => e = .returned (.bool ((bl s).all p)) ∧ w' = w := by
  obtain ⟨f, rfl, hent, hp⟩ := hf
  unfold maxLen at hs
  go_enter Tryz.func75, Tryz.ntmps75
  go_wp2
  go_loop [5, 8] (fun _ i => ∃ k : Nat, k ≤ s.size ∧ i = .int .i64 k ∧ ((bl s).take k).all p = true) (fun _ i => s.size - (intOf i).toNat)
  case atStart => exact ⟨0, Nat.zero_le _, rfl, rfl⟩
  case round =>
    obtain ⟨k, hk, rfl, hall⟩ := hrel
    have HA := Lib.hid hall; clear hall
    by_cases hlt : k < s.size
    · by_cases hpk : p s[k] = true
      · go_wp2_with (refine (hp s[k] _).mono ?_; rintro e w' ⟨rfl, rfl⟩)
        go_round
        case rel => exact ⟨k + 1, by omega, by go_num, by rw [take_snoc_bl s k hlt, List.all_append, HA.out]; simp [hpk]⟩
        case measure => simp [intOf]; omega
      · have hpf : p s[k] = false := by simpa using hpk
        clear hpk
        have HF := Lib.hid (all_false (p := p) (s := s) hlt hpf)
        go_wp2_with (refine (hp s[k] _).mono ?_; rintro e w' ⟨rfl, rfl⟩)
        go_ret
        exact ⟨ret_bool HF.out.symm, rfl⟩
    · have HF := Lib.hid (all_done (p := p) (s := s) (by omega : s.size ≤ k) HA.out)
      go_wp2
      go_ret
      exact ⟨ret_bool HF.out.symm, rfl⟩

theorem says_large : Says (.func (.func 114) #[] #[]) isLarge := ⟨_, rfl, enters_of Tryz.func114 (by kernel_rfl) rfl, large_any⟩
theorem says_visible : Says (.func (.func 115) #[] #[]) isVisible := ⟨_, rfl, enters_of Tryz.func115 (by kernel_rfl) rfl, visible_any⟩
theorem says_token : Says (.func (.func 117) #[] #[]) isToken := ⟨_, rfl, enters_of Tryz.func117 (by kernel_rfl) rfl, token_any⟩
theorem says_loose : Says (.func (.func 118) #[] #[]) isLoose := ⟨_, rfl, enters_of Tryz.func118 (by kernel_rfl) rfl, loose_any⟩
theorem says_digit : Says (.func (.func 76) #[] #[]) isDigit := ⟨_, rfl, enters_of Tryz.func76 (by kernel_rfl) rfl, digit_any⟩
end Go.Proofs.YtacdkcapejijdaaGreatDoor
