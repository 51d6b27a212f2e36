/- package head: request. -/
import Derived.Test.YtacdkcapejijdaaGreatDoorHead3
import Derived.RegionTactic
namespace Go.Proofs.YtacdkcapejijdaaGreatDoor
open Go.RowKit Clo

def ReqPost (X : Nat) (v : Value) (r : Int × Str × Str × Int) (w : World) (e : Ending) (w' : World) : Prop :=
  e = .returned (.int .i64 r.1) ∧ (if r.1 = 0 then w'.heap[X]? = some (.cells #[.string ⟨r.2.1.toArray⟩, .string ⟨r.2.2.1.toArray⟩, .int .i64 r.2.2.2, v] 33 (0, 0)) else w'.heap[X]? = w.heap[X]?) ∧ Kpt (fun k => k = X) w w'

theorem version_size {s : ByteArray} (h : version (bl s) = true) : s.size = 8 := by
  unfold version at h
  rw [Bool.and_eq_true] at h
  have := of_decide_eq_true h.1
  rwa [bl_length] at this

theorem split7 {two ok1 em ok2 ok3 : Bool} {n : Nat} (h : two = false ∨ n < 1 ∨ 16 < n ∨ ok1 = false ∨ em = true ∨ ok2 = false ∨ ok3 = false) :
    two = false ∨ (two = true ∧ n < 1) ∨ (two = true ∧ 1 ≤ n ∧ 16 < n) ∨ (two = true ∧ 1 ≤ n ∧ n ≤ 16 ∧ ok1 = false) ∨ (two = true ∧ 1 ≤ n ∧ n ≤ 16 ∧ ok1 = true ∧ em = true) ∨ (two = true ∧ 1 ≤ n ∧ n ≤ 16 ∧ ok1 = true ∧ em = false ∧ ok2 = false) ∨ (two = true ∧ 1 ≤ n ∧ n ≤ 16 ∧ ok1 = true ∧ em = false ∧ ok2 = true ∧ ok3 = false) := by
  cases two <;> cases ok1 <;> cases em <;> cases ok2 <;> cases ok3 <;> simp at h ⊢ <;> omega

theorem good7 {two ok1 em ok2 ok3 : Bool} {n : Nat} (h : ¬ (two = false ∨ n < 1 ∨ 16 < n ∨ ok1 = false ∨ em = true ∨ ok2 = false ∨ ok3 = false)) :
    two = true ∧ 1 ≤ n ∧ n ≤ 16 ∧ ok1 = true ∧ em = false ∧ ok2 = true ∧ ok3 = true := by
  refine ⟨?_, ?_, ?_, ?_, ?_, ?_, ?_⟩
  · cases two with | true => rfl | false => exact absurd (.inl rfl) h
  · apply Nat.le_of_not_lt; intro x; exact h (.inr (.inl (by omega)))
  · apply Nat.le_of_not_lt; intro x; exact h (.inr (.inr (.inl x)))
  · cases ok1 with | true => rfl | false => exact absurd (.inr (.inr (.inr (.inl rfl)))) h
  · cases em with | false => rfl | true => exact absurd (.inr (.inr (.inr (.inr (.inl rfl))))) h
  · cases ok2 with | true => rfl | false => exact absurd (.inr (.inr (.inr (.inr (.inr (.inl rfl)))))) h
  · cases ok3 with | true => rfl | false => exact absurd (.inr (.inr (.inr (.inr (.inr (.inr rfl)))))) h

set_option maxHeartbeats 4000000 in
set_option maxRecDepth 100000 in
theorem request_any (X : Nat) (v : Value) (m0 t0 : ByteArray) (minor0 : Int) (line : ByteArray) (w : World) (hE : Env w)
    (hb : w.heap[X]? = some (.cells #[.string m0, .string t0, .int .i64 minor0, v] 33 (0, 0))) (hl : line.size ≤ 1073741824) :
    Calls Tryz.prog 69 #[.pointer (some ⟨X, 0, none⟩), .string line] w (ReqPost X v (reqLine (bl line)) w) := by
  obtain ⟨R, hR⟩ : ∃ R, R = reqLine (bl line) := ⟨_, rfl⟩
  rw [← hR]
  have hXl := lt_of_blk hb
  unfold reqLine at hR
  have hcut := cut_any line ⟨#[32]⟩ w hE (by omega)
  have ec : bl ⟨#[32]⟩ = sp := rfl
  rw [ec] at hcut
  have hcl := cut_len (bl line) sp
  generalize Lib.cut (bl line) sp = c at hR hcut hcl
  obtain ⟨x1, x2, two0⟩ := c
  obtain ⟨n1, e1, b1⟩ := str_of x1
  obtain ⟨n2, e2, b2⟩ := str_of x2
  simp only at hR hcut hcl
  rw [e1, e2] at hcut
  subst b1; subst b2
  rw [bl_length, bl_length, bl_length] at hcl
  have hcut2 := fun W h => cut_any n2 ⟨#[32]⟩ W h (by omega)
  rw [ec] at hcut2
  have hcl2 := cut_len (bl n2) sp
  generalize Lib.cut (bl n2) sp = c2 at hR hcut2 hcl2
  obtain ⟨x3, x4, two⟩ := c2
  obtain ⟨n3, e3, b3⟩ := str_of x3
  obtain ⟨n4, e4, b4⟩ := str_of x4
  simp only at hR hcut2 hcl2
  rw [e3, e4] at hcut2
  subst b3; subst b4
  rw [bl_length, bl_length, bl_length] at hcl2
  clear e1 e2 e3 e4 ec
  have h1 := fun W => all_any n1 _ isLarge W (by unfold maxLen; omega) says_large
  have h2 := fun W => all_any n3 _ isVisible W (by unfold maxLen; omega) says_visible
  have h3 := fun W => version_any n4 W
  have hv8 := @version_size n4
  have htg := fun W h => target_any n3 W h (by omega)
  generalize hok1 : (bl n1).all isLarge = ok1 at h1 hR
  generalize hok2 : (bl n3).all isVisible = ok2 at h2 hR
  generalize hok3 : version (bl n4) = ok3 at h3 hR hv8
  generalize target (bl n3) = T at htg hR
  rw [bl_length] at hR
  have HC := Lib.hid hcut; have HC2 := Lib.hid hcut2; have H1 := Lib.hid h1; have H2 := Lib.hid h2; have H3 := Lib.hid h3; have HTG := Lib.hid htg; have HE := Lib.hid hE
  clear hcut hcut2 h1 h2 h3 htg hok1 hok2 hok3 hE
  have HB := Lib.hid hb; clear hb
  by_cases hbad : two = false ∨ n1.size < 1 ∨ 16 < n1.size ∨ ok1 = false ∨ bl n3 = [] ∨ ok2 = false ∨ ok3 = false
  · rw [if_pos hbad] at hR
    subst hR
    have em : (bl n3 = []) = (n3.toList.isEmpty = true) := by rw [toList_bl]; simp
    rw [em] at hbad
    have hb7 := split7 hbad
    clear em
    clear hbad hv8
    rcases hb7 with rfl | ⟨rfl, q1⟩ | ⟨rfl, q1, q2⟩ | ⟨rfl, q1, q2, rfl⟩ | ⟨rfl, q1, q2, rfl, q3⟩ | ⟨rfl, q1, q2, rfl, q3, rfl⟩ | ⟨rfl, q1, q2, rfl, q3, rfl, rfl⟩
    all_goals
      go_enter Tryz.func69, Tryz.ntmps69
      go_wp2_with fail
      refine HC.out.mono ?_
      rintro e w2 ⟨rfl, hb2⟩
      go_wp2_with fail
      refine (HC2.out _ (HE.out.below hb2)).mono ?_
      rintro e w3 ⟨rfl, hb3⟩
      have hbw : Below w.heap.size w w3 := hb2.trans (hb3.mono hb2.size)
      go_wp2_with (first | (go_at_call 75; (with_reducible refine (H1.out _).mono ?_); rintro e w' ⟨rfl, rfl⟩) | (go_at_call 75; (with_reducible refine (H2.out _).mono ?_); rintro e w' ⟨rfl, rfl⟩) | (go_at_call 116; (with_reducible refine (H3.out _).mono ?_); rintro e w' ⟨rfl, rfl⟩))
      go_ret
      exact ⟨rfl, hbw.block _ hXl, .of hbw⟩
  · rw [if_neg hbad] at hR
    obtain ⟨rfl, q1, q2, rfl, q3, rfl, rfl⟩ : two = true ∧ 1 ≤ n1.size ∧ n1.size ≤ 16 ∧ ok1 = true ∧ n3.toList.isEmpty = false ∧ ok2 = true ∧ ok3 = true := by
      have em : (bl n3 = []) = (n3.toList.isEmpty = true) := by rw [toList_bl]; simp
      rw [em] at hbad
      exact good7 hbad
    clear hbad
    have h8 := hv8 rfl
    have l5 : 5 ≤ n4.size := by omega
    have l7 : 7 < n4.size := by omega
    clear hv8
    have e5 : bl (n4.extract 5 n4.size) = (bl n4).drop 5 := bl_drop n4 5
    rw [← e5, bl_getD n4 7 l7] at hR
    have H8 := Lib.hid h8; clear h8 e5
    by_cases hver : bl (n4.extract 5 n4.size) ≠ [49, 46, 48] ∧ bl (n4.extract 5 n4.size) ≠ [49, 46, 49]
    · rw [if_pos hver] at hR
      subst hR
      obtain ⟨v0, v1⟩ := hver
      rw [← toList_bl] at v0 v1
      have v0b := beq_eq_false_iff_ne.2 v0
      have v1b := beq_eq_false_iff_ne.2 v1
      clear v0 v1
      go_enter Tryz.func69, Tryz.ntmps69
      go_wp2_with fail
      refine HC.out.mono ?_
      rintro e w2 ⟨rfl, hb2⟩
      go_wp2_with fail
      refine (HC2.out _ (HE.out.below hb2)).mono ?_
      rintro e w3 ⟨rfl, hb3⟩
      have hbw : Below w.heap.size w w3 := hb2.trans (hb3.mono hb2.size)
      go_wp2_with (first | (go_at_call 75; (with_reducible refine (H1.out _).mono ?_); rintro e w' ⟨rfl, rfl⟩) | (go_at_call 75; (with_reducible refine (H2.out _).mono ?_); rintro e w' ⟨rfl, rfl⟩) | (go_at_call 116; (with_reducible refine (H3.out _).mono ?_); rintro e w' ⟨rfl, rfl⟩))
      go_ret
      exact ⟨rfl, hbw.block _ hXl, .of hbw⟩
    · rw [if_neg hver] at hR
      have hb01 : (((n4.extract 5 n4.size).toList == [49, 46, 48]) = true) ∨ (((n4.extract 5 n4.size).toList == [49, 46, 48]) = false ∧ ((n4.extract 5 n4.size).toList == [49, 46, 49]) = true) := by
        rw [toList_bl]
        by_cases a : bl (n4.extract 5 n4.size) = [49, 46, 48]
        · exact .inl (by rw [a]; rfl)
        · refine .inr ⟨beq_eq_false_iff_ne.2 a, ?_⟩
          rw [beq_iff_eq]
          apply Classical.byContradiction
          intro b
          exact hver ⟨a, b⟩
      clear hver
      have HRX := Lib.hid hR; clear hR
      rcases hb01 with v0b | ⟨v0b, v1b⟩
      all_goals
        go_enter Tryz.func69, Tryz.ntmps69
        go_wp2_with fail
        refine HC.out.mono ?_
        rintro e w2 ⟨rfl, hb2⟩
        go_wp2_with fail
        refine (HC2.out _ (HE.out.below hb2)).mono ?_
        rintro e w3 ⟨rfl, hb3⟩
        have hbw : Below w.heap.size w w3 := hb2.trans (hb3.mono hb2.size)
        have hE3 := Lib.hid (HE.out.below hbw)
        go_wp2_with (first | (go_at_call 75; (with_reducible refine (H1.out _).mono ?_); rintro e w' ⟨rfl, rfl⟩) | (go_at_call 75; (with_reducible refine (H2.out _).mono ?_); rintro e w' ⟨rfl, rfl⟩) | (go_at_call 116; (with_reducible refine (H3.out _).mono ?_); rintro e w' ⟨rfl, rfl⟩))
        refine (HTG.out _ hE3.out).mono ?_
        rintro e w4 ⟨vq, q, rfl, -, hb4⟩
        have hbw4 : Below w.heap.size w w4 := hbw.trans (hb4.mono hbw.size)
        by_cases hTe : T.2.2.1 = 0
        · have te : (T.2.2.1 != 0) = false := by rw [hTe]; rfl
          have hRR : R = ((0 : Int), bl n1, bl n3, (((n4[7]'l7).toNat : Int) - 48) % 256) := by rw [HRX.out, if_neg (by rw [hTe]; simp)]
          have HRR := Lib.hid hRR
          clear HRX hTe hRR
          have hbk : w4.heap[X]? = some (.cells #[.string m0, .string t0, .int .i64 minor0, v] 33 (0, 0)) := by rw [hbw4.block _ hXl]; exact HB.out
          have c0 : w4.cell? ⟨X, 0, none⟩ = some (.string m0) := by rw [blk_cell hbk]; rfl
          have c1 : w4.cell? ⟨X, 1, none⟩ = some (.string t0) := by rw [blk_cell hbk]; rfl
          have c2 : w4.cell? ⟨X, 2, none⟩ = some (.int .i64 minor0) := by rw [blk_cell hbk]; rfl
          have f0 := blk_free hbk 0
          have f1 := blk_free hbk 1
          have f2 := blk_free hbk 2
          have HBK := Lib.hid hbk; clear hbk
          have l7i : (7 : Int) < (n4.size : Int) := by omega
          go_wp2
          go_region
          go_wp2
          go_ret
          refine ⟨by rw [HRR.out]; rfl, ?_, ?_⟩
          · rw [HRR.out]
            have := heap_set (heap_set (heap_set HBK.out 0 (.string n1)) 1 (.string n3)) 2 (.int .i64 ((((n4[7]'l7).toNat : Int) - 48) % 256))
            exact this
          · exact ((((Kpt.of (S := fun k => k = X) hbw4).set (p := ⟨X, 0, none⟩) (fun _ => rfl) _).set (p := ⟨X, 1, none⟩) (fun _ => rfl) _).set (p := ⟨X, 2, none⟩) (fun _ => rfl) _).drew
        · have te : (T.2.2.1 != 0) = true := by simpa using hTe
          have hRR : R = (400, [], [], 0) := by rw [HRX.out, if_pos hTe]
          have HRR := Lib.hid hRR
          clear HRX hTe hRR
          go_wp2
          go_ret
          exact ⟨by rw [HRR.out]; rfl, by rw [HRR.out]; exact hbw4.block _ hXl, .of hbw4⟩
end Go.Proofs.YtacdkcapejijdaaGreatDoor
