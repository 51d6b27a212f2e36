/- package uri: Target. -/
import Derived.Test.YtacdkcapejijdaaGreatDoorUri5
namespace Go.Proofs.YtacdkcapejijdaaGreatDoor
open Go.RowKit Clo

def TargetPost (r : Str × List (Str × Str) × Int × Int) (w : World) (e : Ending) (w' : World) : Prop :=
  ∃ v q, e = .returned (.tuple #[.string ⟨r.1.toArray⟩, v, .int .i64 r.2.2.1, .int .i64 q]) ∧ OwnPairs w' w.heap.size v r.2.1 ∧ Below w.heap.size w w'

theorem firstOdd_step (s : ByteArray) (k : Nat) (h : k < s.size) : firstOdd k ((bl s).drop k) = if isOdd s[k] then some k else firstOdd (k + 1) ((bl s).drop (k + 1)) := by
  rw [drop_bl s k h]; rfl
theorem hasPrefix_any (s p : ByteArray) (w : World) : Calls Tryz.prog 83 #[.string s, .string p] w fun e w' => e = .returned (.bool (Lib.hasPrefix (bl s) (bl p))) ∧ w' = w := Tryz.strings_HasPrefix s p w
theorem OwnPairs.lift {w w' : World} {B : Nat} {v : Value} {l : List (Str × Str)} (h : OwnPairs w' B v l) (hB : w.heap.size ≤ B) : OwnPairs w' w.heap.size v l := h.mono hB

set_option maxHeartbeats 2000000 in
set_option maxRecDepth 100000 in
theorem target_any (s : ByteArray) (w : World) (hE : Env w) (hs : s.size ≤ 140737488355328) :
    Calls Tryz.prog 48 #[.string s] w (TargetPost (target (bl s)) w) := by
  obtain ⟨T, hT⟩ : ∃ T, T = target (bl s) := ⟨_, rfl⟩
  rw [← hT]
  by_cases h1 : 1024 < s.size
  · have hr : T = ([], [], 4, 0) := by rw [hT]; simp [target, bl_length, h1]
    have HR := Lib.hid hr; clear hr hT
    go_enter Tryz.func48, Tryz.ntmps48
    go_wp2
    refine bodyPost_ret (v := .tuple #[.string ⟨#[]⟩, .slice none 0 0, .int .i64 4, .int .i64 0]) (by simp [results, Tryz.results48, go_sem]) rfl ⟨_, _, (by rw [HR.out]; first | done | rfl), by rw [HR.out]; exact OwnPairs.nil _ _, Below.refl _ _⟩
  have hp := fun w => hasPrefix_any s ⟨#[47]⟩ w
  have ep : bl ⟨#[47]⟩ = [47] := rfl
  rw [ep] at hp
  by_cases h2 : Lib.hasPrefix (bl s) [47] = false
  · have hr : T = ([], [], 60, 0) := by rw [hT]; simp [target, bl_length, h1, h2]
    rw [h2] at hp
    have HR := Lib.hid hr; have HP := Lib.hid hp; clear hr hT hp h2 ep
    go_enter Tryz.func48, Tryz.ntmps48
    go_wp2_with (go_at_call 83; refine (HP.out _).mono ?_; rintro e w' ⟨rfl, rfl⟩)
    refine bodyPost_ret (v := .tuple #[.string ⟨#[]⟩, .slice none 0 0, .int .i64 60, .int .i64 0]) (by simp [results, Tryz.results48, go_sem]) rfl ⟨_, _, (by rw [HR.out]; first | done | rfl), by rw [HR.out]; exact OwnPairs.nil _ _, Below.refl _ _⟩
  have h2' : Lib.hasPrefix (bl s) [47] = true := by simpa using h2
  rw [h2'] at hp
  have HP := Lib.hid hp; have H2 := Lib.hid h2'; clear hp h2 h2' ep
  have HT := Lib.hid hT; clear hT
  go_enter Tryz.func48, Tryz.ntmps48
  go_wp2_with (go_at_call 83; refine (HP.out _).mono ?_; rintro e w' ⟨rfl, rfl⟩)
  rename_i w
  go_loop [6, 18] (fun _ i => ∃ k : Nat, k ≤ s.size ∧ i = .int .i64 k ∧ firstOdd 0 (bl s) = firstOdd k ((bl s).drop k)) (fun _ i => s.size - (intOf i).toNat)
  case atStart => exact ⟨0, Nat.zero_le _, rfl, rfl⟩
  case round =>
    obtain ⟨k, hk, rfl, hodd⟩ := hrel
    by_cases hlt : k < s.size
    · rw [firstOdd_step s k hlt] at hodd
      by_cases ho : isOdd s[k] = true
      · have hr : T = ([], [], 60, (k : Int)) := by rw [HT.out]; unfold target; rw [hodd, if_pos ho]; simp [bl_length, h1, H2.out]
        have HR := Lib.hid hr; clear hr hodd
        go_wp2_with (go_at_call 84; refine (odd_any _ _).mono ?_; rintro e w' ⟨rfl, rfl⟩)
        refine bodyPost_ret (v := .tuple #[.string ⟨#[]⟩, .slice none 0 0, .int .i64 60, .int .i64 k]) (by simp [results, Tryz.results48, go_sem]) rfl ⟨_, _, (by rw [HR.out]; first | done | rfl), by rw [HR.out]; exact OwnPairs.nil _ _, Below.refl _ _⟩
      · rw [if_neg ho] at hodd
        have ho' : isOdd s[k] = false := by simpa using ho
        have HO := Lib.hid hodd; clear hodd ho
        go_wp2_with (go_at_call 84; refine (odd_any _ _).mono ?_; rintro e w' ⟨rfl, rfl⟩)
        go_round
        case rel => exact ⟨k + 1, by omega, by go_num, HO.out⟩
        case measure => simp [intOf]; omega
    · have hno : firstOdd 0 (bl s) = none := by rw [hodd, List.drop_eq_nil_of_le (by simp [bl]; omega)]; rfl
      clear hodd
      have hT : T = _ := HT.out
      unfold target at hT
      rw [if_neg (by rw [bl_length]; exact h1), if_neg (by rw [H2.out]; simp), hno] at hT
      simp only at hT
      have hcut := fun w h => cut_any s ⟨#[63]⟩ w h (by omega)
      have ec : bl ⟨#[63]⟩ = query63 := rfl
      rw [ec] at hcut
      have hcl := cut_len (bl s) query63
      generalize Lib.cut (bl s) query63 = c at hT hcut hcl
      obtain ⟨x1, x2, two⟩ := c
      obtain ⟨n1, e1, b1⟩ := str_of x1
      obtain ⟨n2, e2, b2⟩ := str_of x2
      simp only at hT hcut hcl
      rw [e1, e2] at hcut
      subst b1; subst b2
      rw [bl_length, bl_length, bl_length] at hcl
      clear e1 e2 ec hno
      have HC := Lib.hid hcut; clear hcut
      cases hd : dec false 0 (bl n1) with
      | error k' =>
        rw [hd] at hT
        have HD := Lib.hid fun W => decode_err n1 false k' W (by omega) hd
        have HR := Lib.hid hT; clear hT hd
        have HEE := Lib.hid hE
        go_wp2_with fail
        refine (HC.out _ HEE.out).mono ?_
        rintro e w2 ⟨rfl, hb2⟩
        go_wp2_with fail
        refine (HD.out _).mono ?_
        rintro e w3 ⟨rfl, hb3⟩
        have hbw := hb2.trans (hb3.mono hb2.size)
        go_wp2
        refine bodyPost_ret (v := .tuple #[.string ⟨#[]⟩, .slice none 0 0, .int .i64 60, .int .i64 k']) (by simp [results, Tryz.results48, go_sem]) rfl ⟨_, _, (by rw [HR.out]; first | done | rfl), by rw [HR.out]; exact OwnPairs.nil _ _, hbw⟩
      | ok y =>
        obtain ⟨m1, -, em1⟩ := str_of y
        subst em1
        rw [hd] at hT
        simp only at hT
        have HD := Lib.hid fun W => decode_ok n1 m1 false W (by omega) hd
        clear hd
        have HEE := Lib.hid hE
        cases two with
        | false =>
          have HR := Lib.hid hT; clear hT
          go_wp2_with fail
          refine (HC.out _ HEE.out).mono ?_
          rintro e w2 ⟨rfl, hb2⟩
          go_wp2_with fail
          refine (HD.out _).mono ?_
          rintro e w3 ⟨rfl, hb3⟩
          have hbw := hb2.trans (hb3.mono hb2.size)
          go_wp2
          refine bodyPost_ret (v := .tuple #[.string m1, .slice none 0 0, .int .i64 0, .int .i64 0]) (by simp [results, Tryz.results48, go_sem]) rfl ⟨_, _, (by rw [HR.out]; first | done | rfl), by rw [HR.out]; exact OwnPairs.nil _ _, hbw⟩
        | true =>
          simp only [Bool.true_eq_false, if_false] at hT
          have hf := fun W h => form_any n2 W h (by omega)
          generalize form (bl n2) = F at hT hf
          obtain ⟨Fl, Fe, Fp⟩ := F
          simp only at hT
          have HF := Lib.hid hf; clear hf
          have HTT := Lib.hid hT; clear hT
          go_wp2_with fail
          refine (HC.out _ HEE.out).mono ?_
          rintro e w2 ⟨rfl, hb2⟩
          go_wp2_with fail
          refine (HD.out _).mono ?_
          rintro e w3 ⟨rfl, hb3⟩
          have hbw := hb2.trans (hb3.mono hb2.size)
          have henv3 := Lib.hid (HEE.out.below hbw)
          go_wp2_with fail
          refine (HF.out _ henv3.out).mono ?_
          rintro e w4 ⟨v, rfl, hown, hb4⟩
          have hbw4 := hbw.trans (hb4.mono hbw.size)
          have HOWN := Lib.hid (hown.mono hbw.size); clear hown
          simp only
          by_cases f0 : Fe = 0
          · have t0 : (Fe == 0) = true := by simpa using f0
            have t1 : (Fe != 0) = false := by simpa using f0
            have t2 : (Fe == 60) = false := by subst f0; rfl
            have hr := HTT.out
            rw [if_pos f0] at hr
            have HR := Lib.hid hr; clear hr f0
            go_wp2
            refine bodyPost_ret (v := .tuple #[.string m1, v, .int .i64 0, .int .i64 0]) (by simp [results, Tryz.results48, go_sem]) rfl ⟨_, _, (by rw [HR.out]; first | done | rfl), by rw [HR.out]; exact HOWN.out, hbw4⟩
          · by_cases f60 : Fe = 60
            · have hr := HTT.out
              rw [if_neg f0, if_pos f60] at hr
              subst f60
              have HR := Lib.hid hr; clear hr f0
              go_wp2
              refine bodyPost_ret (v := .tuple #[.string ⟨#[]⟩, .slice none 0 0, .int .i64 60, .int .i64 (wrap64 (Fp + (↑n1.size + 1)))]) (by simp [results, Tryz.results48, go_sem]) rfl ⟨_, _, (by rw [HR.out]; first | done | rfl), by rw [HR.out]; exact OwnPairs.nil _ _, hbw4⟩
            · have t1 : (Fe != 0) = true := by simpa using f0
              have t2 : (Fe == 60) = false := by simpa using f60
              have hr := HTT.out
              rw [if_neg f0, if_neg f60] at hr
              have HR := Lib.hid hr; clear hr f0 f60
              go_wp2
              refine bodyPost_ret (v := .tuple #[.string ⟨#[]⟩, .slice none 0 0, .int .i64 Fe, .int .i64 Fp]) (by simp [results, Tryz.results48, go_sem]) rfl ⟨_, _, (by rw [HR.out]; first | done | rfl), by rw [HR.out]; exact OwnPairs.nil _ _, hbw4⟩
end Go.Proofs.YtacdkcapejijdaaGreatDoor
