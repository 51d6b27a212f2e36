/- package reply: name, value, may, Reason. -/
import Derived.Test.YtacdkcapejijdaaGreatDoorUri1
import Derived.Test.YtacdkcapejijdaaGreatDoorShelf
import Derived.Lib.SlTrimSet
import Derived.BigQuiet
namespace Go.Proofs.YtacdkcapejijdaaGreatDoor
open Go.RowKit Clo

theorem trimS_trim (l : Str) : Lib.trimS l [32, 9] = trim l := by
  have e : (fun c => [(32 : UInt8), 9].contains c) = isBlank := by
    funext c
    rw [Bool.eq_iff_iff]; simp [isBlank]
  unfold trim trimL trimR Lib.trimS Lib.trimLeftS Lib.trimRightS
  simp only [e]

theorem trim_any (s : ByteArray) (w : World) (hs : s.size ≤ 140737488355328) :
    Calls Tryz.prog 88 #[.string s, .string ⟨#[32, 9]⟩] w fun e w' => e = .returned (.string ⟨(trim (bl s)).toArray⟩) ∧ Below w.heap.size w w' := by
  have h := Tryz.strings_Trim_set s ⟨#[32, 9]⟩ w (by omega) (by decide) (ascii_of_all (by decide))
  rw [← trimS_trim]
  exact h

theorem nameByte_iff (c : UInt8) : nameByte c = true ↔ (97 ≤ (c.toNat : Int) ∧ (c.toNat : Int) ≤ 122) ∨ (48 ≤ (c.toNat : Int) ∧ (c.toNat : Int) ≤ 57) ∨ 0 ≤ Lib.indexByte [33, 35, 36, 37, 38, 39, 42, 43, 45, 46, 94, 95, 96, 124, 126] c := by
  rw [isMark_iff]
  by_cases h : isMark c = true <;> simp [nameByte, isDigit, h] <;> omega

theorem bne_bl (a : ByteArray) (l : List UInt8) : (a.toList != l) = decide (bl a ≠ l) := by
  rw [toList_bl, Bool.eq_iff_iff, bne_iff_ne, decide_eq_true_iff]

set_option maxHeartbeats 400000 in
theorem name_any (s : ByteArray) (w : World) (hs : s.size ≤ 140737488355328) :
    Calls Tryz.prog 106 #[.string s] w fun e w' => e = .returned (.bool (nameOk (bl s))) ∧ w' = w := by
  go_enter Tryz.func106, Tryz.ntmps106
  go_wp2
  go_loop [3, 4, 7] (fun _ _ i => ∃ k : Nat, k ≤ s.size ∧ i = .int .i64 k ∧ ((bl s).take k).all nameByte = true) (fun _ _ i => s.size - (intOf i).toNat)
  case atStart => exact ⟨0, Nat.zero_le _, rfl, rfl⟩
  case round =>
    obtain ⟨k, hk, rfl, hall⟩ := hrel
    have HA := Lib.hid hall; clear hall
    by_cases hlt : k < s.size
    · by_cases hb : nameByte s[k] = true
      · have hb' := (nameByte_iff s[k]).1 hb
        have HB := Lib.hid hb; clear hb
        have HB' := Lib.hid hb'; clear hb'
        go_wp2_with (go_at_call 146; refine (Tryz.strings_IndexByte _ _ _).mono ?_; rintro e w' ⟨rfl, rfl⟩)
        all_goals first
          | (exfalso; have := HB'.out; simp at *; omega)
          | (go_round
             case rel => exact ⟨k + 1, by omega, by go_num, by rw [take_snoc_bl s k hlt, List.all_append, HA.out]; simp [HB.out]⟩
             case measure => simp [intOf]; omega)
      · have hb' := (not_congr (nameByte_iff s[k])).1 hb
        have hF : nameOk (bl s) = false := by
          unfold nameOk; rw [all_false (p := nameByte) hlt (by simpa using hb)]; rfl
        have HF := Lib.hid hF; clear hF hb
        have HB' := Lib.hid hb'; clear hb'
        go_wp2_with (go_at_call 146; refine (Tryz.strings_IndexByte _ _ _).mono ?_; rintro e w' ⟨rfl, rfl⟩)
        all_goals first
          | (exfalso; have := HB'.out; simp at *; omega)
          | (go_ret; exact ⟨ret_bool HF.out.symm, rfl⟩)
    · have hF : nameOk (bl s) = decide (bl s ≠ [] ∧ bl s ≠ clName ∧ bl s ≠ connName) := by
        unfold nameOk; rw [all_done (p := nameByte) (by omega : s.size ≤ k) HA.out]; rfl
      have HF := Lib.hid hF; clear hF
      have HT := Lib.hid (toList_bl s)
      go_wp2
      all_goals (go_ret; exact ⟨ret_bool (by rw [HF.out, ← HT.out, Bool.eq_iff_iff]; simp [clName, connName, *]), rfl⟩)

theorem valueByte_iff (c : UInt8) : valueByte c = true ↔ (c.toNat : Int) = 9 ∨ (32 ≤ (c.toNat : Int) ∧ (c.toNat : Int) ≤ 126) := by
  simp [valueByte]; omega

set_option maxHeartbeats 400000 in
theorem value_any (s : ByteArray) (w : World) (hs : s.size ≤ 140737488355328) :
    Calls Tryz.prog 107 #[.string s] w fun e w' => e = .returned (.bool (valueOk (bl s))) ∧ Below w.heap.size w w' := by
  obtain ⟨st, est, bst⟩ := str_of (trim (bl s))
  have htr := trim_any s w hs
  rw [est] at htr
  have HTR := Lib.hid htr; have BST := Lib.hid bst; clear htr bst est
  go_enter Tryz.func107, Tryz.ntmps107
  go_wp2
  go_loop [3, 4, 7] (fun _ _ i => ∃ k : Nat, k ≤ s.size ∧ i = .int .i64 k ∧ ((bl s).take k).all valueByte = true) (fun _ _ i => s.size - (intOf i).toNat)
  case atStart => exact ⟨0, Nat.zero_le _, rfl, rfl⟩
  case round =>
    obtain ⟨k, hk, rfl, hall⟩ := hrel
    have HA := Lib.hid hall; clear hall
    by_cases hlt : k < s.size
    · by_cases hb : valueByte s[k] = true
      · have hb' := (valueByte_iff s[k]).1 hb
        have HB := Lib.hid hb; clear hb
        have HB' := Lib.hid hb'; clear hb'
        go_wp2
        all_goals first
          | (exfalso; have := HB'.out; simp at *; omega)
          | (go_round
             case rel => exact ⟨k + 1, by omega, by go_num, by rw [take_snoc_bl s k hlt, List.all_append, HA.out]; simp [HB.out]⟩
             case measure => simp [intOf]; omega)
      · have hb' := (not_congr (valueByte_iff s[k])).1 hb
        have hF : valueOk (bl s) = false := by
          unfold valueOk; rw [all_false (p := valueByte) hlt (by simpa using hb)]; rfl
        have HF := Lib.hid hF; clear hF hb
        have HB' := Lib.hid hb'; clear hb'
        go_wp2
        all_goals first
          | (exfalso; have := HB'.out; simp at *; omega)
          | (go_ret; exact ⟨ret_bool HF.out.symm, Below.refl _ _⟩)
    · have hF : valueOk (bl s) = decide (trim (bl s) = bl s) := by
        unfold valueOk; rw [all_done (p := valueByte) (by omega : s.size ≤ k) HA.out]; rfl
      have HF := Lib.hid hF; clear hF
      have hq : (st.toList == s.toList) = decide (trim (bl s) = bl s) := by rw [beq_bl, BST.out]
      have HQ := Lib.hid hq; clear hq
      go_wp2_with (go_at_call 88; refine HTR.out.mono ?_; rintro e w' ⟨rfl, hb1⟩)
      go_ret
      exact ⟨ret_bool (by rw [HF.out, ← HQ.out]), hb1⟩
end Go.Proofs.YtacdkcapejijdaaGreatDoor
