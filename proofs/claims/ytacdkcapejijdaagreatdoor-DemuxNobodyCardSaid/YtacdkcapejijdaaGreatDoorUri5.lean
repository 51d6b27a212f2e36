/- package uri: Form. -/
import Derived.Test.YtacdkcapejijdaaGreatDoorUri4
import Derived.Test.YtacdkcapejijdaaGreatDoorKit3
import Derived.Deep.QuietTactic
import Derived.BigQuiet
namespace Go.Proofs.YtacdkcapejijdaaGreatDoor
open Go.RowKit Clo

/-- What Form's closure keeps: out, e, place, each in a block of its own. -/
structure FmSt (w : World) (a : Nat) (st : FormSt) (W : World) : Prop where
  blk : ∃ v, W.heap[w.heap.size]? = some (.cells #[v] 31 (0, 0)) ∧ OwnPairs W (w.heap.size + 3) v st.out
  eb : W.heap[w.heap.size + 1]? = some (.cells #[.int .i64 st.e] 24 (0, 0))
  pb : W.heap[w.heap.size + 2]? = some (.cells #[.int .i64 st.place] 3 (0, 0))
  below : Below w.heap.size w W
  len : st.out.length ≤ a

theorem formStep_nil (st : FormSt) (a : Nat) : formStep st [] a = (st, true) := by simp [formStep]
theorem formStep_e1 (st : FormSt) (p : Str) (a k : Nat) (hp : p ≠ []) (h : dec true 0 (Lib.cut p eq61).1 = .error k) : formStep st p a = ({ st with e := 60, place := a + k }, false) := by
  simp [formStep, hp, h]
theorem formStep_e2 (st : FormSt) (p l1 : Str) (a k : Nat) (hp : p ≠ []) (h : dec true 0 (Lib.cut p eq61).1 = .ok l1) (h2 : dec true 0 (Lib.cut p eq61).2.1 = .error k) : formStep st p a = ({ st with e := 60, place := a + (Lib.cut p eq61).1.length + 1 + k }, false) := by
  simp [formStep, hp, h, h2]
theorem formStep_ok (st : FormSt) (p l1 l2 : Str) (a : Nat) (hp : p ≠ []) (h : dec true 0 (Lib.cut p eq61).1 = .ok l1) (h2 : dec true 0 (Lib.cut p eq61).2.1 = .ok l2) : formStep st p a = ({ st with out := st.out ++ [(l1, l2)], e := 0 }, true) := by
  simp [formStep, hp, h, h2]
theorem dec_pos : ∀ (n : Nat) (plus : Bool) (s : Str) (i k : Nat), s.length ≤ n → dec plus i s = .error k → k ≤ i + s.length
  | n, plus, [], i, k, hn, h => by rw [dec.eq_def] at h; cases h
  | 0, plus, c :: r, i, k, hn, h => by simp at hn
  | n + 1, plus, c :: r, i, k, hn, h => by
    by_cases hc : c = 37
    · subst hc
      match r, hn, h with
      | [], hn, h => rw [dec_short _ _ _ (by simp)] at h; injection h with h; omega
      | [a], hn, h => rw [dec_short _ _ _ (by simp)] at h; injection h with h; omega
      | a :: b :: r', hn, h =>
        by_cases hu : unhex a < 0 ∨ unhex b < 0
        · rw [dec_bad _ _ _ _ _ hu] at h; injection h with h; omega
        · rw [dec_pair _ _ _ _ _ hu] at h
          cases hd : dec plus (i + 3) r' with
          | ok l => rw [hd] at h; cases h
          | error k' =>
            rw [hd] at h; simp only [pre] at h; injection h with h
            have := dec_pos n plus r' (i + 3) k' (by simp at hn; omega) hd
            simp; omega
    · rw [dec_plain _ _ _ _ hc] at h
      cases hd : dec plus (i + 1) r with
      | ok l => rw [hd] at h; cases h
      | error k' =>
        rw [hd] at h; simp only [pre] at h; injection h with h
        have := dec_pos n plus r (i + 1) k' (by simp at hn; omega) hd
        simp; omega
theorem dec_grow : ∀ (n : Nat) (plus : Bool) (s l : Str) (i : Nat), s.length ≤ n → dec plus i s = .ok l → l.length ≤ s.length
  | n, plus, [], l, i, hn, h => by rw [dec.eq_def] at h; injection h with h; subst h; simp
  | 0, plus, c :: r, l, i, hn, h => by simp at hn
  | n + 1, plus, c :: r, l, i, hn, h => by
    by_cases hc : c = 37
    · subst hc
      match r, hn, h with
      | [], hn, h => rw [dec_short _ _ _ (by simp)] at h; cases h
      | [a], hn, h => rw [dec_short _ _ _ (by simp)] at h; cases h
      | a :: b :: r', hn, h =>
        by_cases hu : unhex a < 0 ∨ unhex b < 0
        · rw [dec_bad _ _ _ _ _ hu] at h; cases h
        · rw [dec_pair _ _ _ _ _ hu] at h
          cases hd : dec plus (i + 3) r' with
          | error k => rw [hd] at h; cases h
          | ok l' =>
            rw [hd] at h; simp only [pre] at h; injection h with h; subst h
            have := dec_grow n plus r' l' (i + 3) (by simp at hn; omega) hd
            simp; omega
    · rw [dec_plain _ _ _ _ hc] at h
      cases hd : dec plus (i + 1) r with
      | error k => rw [hd] at h; cases h
      | ok l' =>
        rw [hd] at h; simp only [pre] at h; injection h with h; subst h
        have := dec_grow n plus r l' (i + 1) (by simp at hn; omega) hd
        simp; omega

theorem decode_err (s : ByteArray) (plus : Bool) (k : Nat) (w : World) (hs : s.size ≤ 140737488355328) (h : dec plus 0 (bl s) = .error k) :
    Calls Tryz.prog 85 #[.string s, .bool plus] w fun e w' => e = .returned (.tuple #[.string ⟨#[]⟩, .int .i64 60, .int .i64 k]) ∧ Below w.heap.size w w' := by
  refine (decode_any s plus w hs).mono fun e w' hp => ?_
  rw [h] at hp; exact hp
theorem decode_ok (s l : ByteArray) (plus : Bool) (w : World) (hs : s.size ≤ 140737488355328) (h : dec plus 0 (bl s) = .ok (bl l)) :
    Calls Tryz.prog 85 #[.string s, .bool plus] w fun e w' => e = .returned (.tuple #[.string l, .int .i64 0, .int .i64 0]) ∧ Below w.heap.size w w' := by
  refine (decode_any s plus w hs).mono fun e w' hp => ?_
  rw [h] at hp; exact hp

set_option maxHeartbeats 2000000 in
set_option maxRecDepth 100000 in
theorem form_turns (w : World) (hE : Env w) (n : Nat) (hn : n < 4294967281) : Turns 128 #[.pointer (some ⟨w.heap.size + 1, 0, none⟩), .pointer (some ⟨w.heap.size + 2, 0, none⟩), .pointer (some ⟨w.heap.size, 0, none⟩)] (FmSt w) formStep n := by
  refine ⟨enters_of Tryz.func128 (by kernel_rfl) rfl, fun p a st W hR hpn => ?_⟩
  obtain ⟨⟨v, hblk, hown⟩, heb, hpb, hbw, hlen⟩ := hR
  obtain ⟨i0, hi, hz0, hz1, hz2⟩ := info_parts Tryz.infoPair
  show Calls Tryz.prog 128 #[.string p, .int .i64 a, .pointer (some ⟨w.heap.size + 1, 0, none⟩), .pointer (some ⟨w.heap.size + 2, 0, none⟩), .pointer (some ⟨w.heap.size, 0, none⟩)] W _
  have l0 := lt_of_blk hblk; have l1 := lt_of_blk heb; have l2 := lt_of_blk hpb
  have HB := Lib.hid hblk; have HO := Lib.hid hown; have HEB := Lib.hid heb; have HPB := Lib.hid hpb; have HE := Lib.hid (hE.below hbw); clear hblk hown heb hpb hE
  by_cases hp0 : bl p = []
  · have t0 : (p.toList == []) = true := by rw [toList_bl, hp0]; rfl
    rw [hp0, formStep_nil]
    have HP0 := Lib.hid hp0; clear hp0
    go_enter Tryz.func128, Tryz.ntmps128
    go_wp2
    all_goals first
      | (go_ret; exact ⟨rfl, ⟨_, HB.out, HO.out⟩, HEB.out, HPB.out, hbw, by omega⟩)
      | (exfalso; have := HP0.out; rw [← toList_bl] at this; contradiction)
  · have t0 : (p.toList == []) = false := by rw [toList_bl]; simpa using hp0
    have hcut := cut_any p ⟨#[61]⟩ W HE.out (by omega)
    have ec : Lib.cut (bl p) (bl ⟨#[61]⟩) = Lib.cut (bl p) eq61 := rfl
    rw [ec] at hcut
    have hcl := cut_len (bl p) eq61
    have f1 := formStep_e1 st (bl p) a
    have f2 := formStep_e2 st (bl p)
    have f3 := formStep_ok st (bl p)
    generalize Lib.cut (bl p) eq61 = c at hcut f1 f2 f3 hcl
    obtain ⟨x1, x2, is⟩ := c
    simp only at hcut f1 f2 f3 hcl
    obtain ⟨n1, e1, b1⟩ := str_of x1
    obtain ⟨n2, e2, b2⟩ := str_of x2
    rw [e1, e2] at hcut
    subst b1; subst b2
    rw [bl_length, bl_length, bl_length] at hcl
    clear e1 e2 ec
    have HC := Lib.hid hcut; clear hcut
    cases hd1 : dec true 0 (bl n1) with
    | error k =>
      rw [f1 k hp0 hd1]
      have hk := dec_pos _ _ _ _ _ (Nat.le_refl _) hd1
      rw [bl_length] at hk
      have HD1 := Lib.hid fun W => decode_err n1 true k W (by omega) hd1
      clear f1 f2 f3 hd1 hp0
      go_enter Tryz.func128, Tryz.ntmps128
      go_wp2_with (go_at_call 71; refine HC.out.mono ?_)
      rintro e w2 ⟨rfl, hb2⟩
      have hz2_ := hb2.size
      go_wp2_with (go_at_call 85; refine (HD1.out _).mono ?_)
      rintro e w3 ⟨rfl, hb3⟩
      have hbx : Below w2.heap.size w2 w3 := ((Below.refl _ _).alloc (Nat.le_refl _) _).trans (hb3.mono (B' := w2.heap.size) (by simp))
      have hbW : Below W.heap.size W w3 := hb2.trans (hbx.mono hz2_)
      have h3 := hb3.size
      simp only [World.size_alloc] at h3
      have bx : w3.heap[w2.heap.size]? = some (.cells #[.string ⟨#[]⟩, .string ⟨#[]⟩] 90 (0, 0)) := by rw [hb3.block _ (by simp)]; exact heap_alloc_new w2 _
      have be : w3.heap[w.heap.size + 1]? = some (.cells #[.int .i64 st.e] 24 (0, 0)) := by rw [hbW.block _ l1]; exact HEB.out
      have bp : w3.heap[w.heap.size + 2]? = some (.cells #[.int .i64 st.place] 3 (0, 0)) := by rw [hbW.block _ l2]; exact HPB.out
      have bo : w3.heap[w.heap.size]? = some (.cells #[v] 31 (0, 0)) := by rw [hbW.block _ l0]; exact HB.out
      have hoW := HO.out.keep hbW
      have hneX : v.ownBlock ≠ some w2.heap.size := HO.out.ne (.inr hz2_)
      have hneE : v.ownBlock ≠ some (w.heap.size + 1) := HO.out.ne (.inl (by omega))
      have hneP : v.ownBlock ≠ some (w.heap.size + 2) := HO.out.ne (.inl (by omega))
      have cx0 : w3.cell? ⟨w2.heap.size, 0, none⟩ = some (.string ⟨#[]⟩) := by rw [blk_cell bx]; rfl
      have fx0 := blk_free bx 0
      have ce : w3.cell? ⟨w.heap.size + 1, 0, none⟩ = some (.int .i64 st.e) := by rw [blk_cell be]; rfl
      have fe := blk_free be 0
      have cp : w3.cell? ⟨w.heap.size + 2, 0, none⟩ = some (.int .i64 st.place) := by rw [blk_cell bp]; rfl
      have fp := blk_free bp 0
      have BX := Lib.hid bx; have BE := Lib.hid be; have BP := Lib.hid bp; have BO := Lib.hid bo; have HOW := Lib.hid hoW
      have NX := Lib.hid hneX; have NE := Lib.hid hneE; have NP := Lib.hid hneP
      clear bx be bp bo hoW hneX hneE hneP
      have hbf := hbw.trans (hbW.mono hbw.size)
      clear hb2 hb3 hbx
      go_wp2
      go_ret
      refine ⟨rfl, ⟨_, ?_, ((HOW.out.setNe NX.out _).setNe NE.out _).setNe NP.out _⟩, ?_, ?_, ((hbf.setCell (p := ⟨_, _, none⟩) (by simp <;> omega) _).setCell (p := ⟨_, _, none⟩) (by simp <;> omega) _).setCell (p := ⟨_, _, none⟩) (by simp <;> omega) _, by simp; omega⟩
      · repeat rw [heap_set_ne (by simp <;> omega)]
        exact BO.out
      · rw [heap_set_ne (by simp <;> omega)]
        refine heap_set1 (v := .int .i64 st.e) ?_ _
        rw [heap_set_ne (by simp <;> omega)]
        exact BE.out
      · refine heap_set1 (v := .int .i64 st.place) ?_ _
        repeat rw [heap_set_ne (by simp <;> omega)]
        exact BP.out
    | ok x1 =>
      obtain ⟨m1, -, em1⟩ := str_of x1
      subst em1
      have hg1 := dec_grow _ _ _ _ _ (Nat.le_refl _) hd1
      rw [bl_length, bl_length] at hg1
      have HD1 := Lib.hid fun W => decode_ok n1 m1 true W (by omega) hd1
      cases hd2 : dec true 0 (bl n2) with
      | error k =>
        rw [f2 _ a k hp0 hd1 hd2]
        have hk := dec_pos _ _ _ _ _ (Nat.le_refl _) hd2
        rw [bl_length] at hk
        have HD2 := Lib.hid fun W => decode_err n2 true k W (by omega) hd2
        clear f1 f2 f3 hd1 hd2 hp0
        go_enter Tryz.func128, Tryz.ntmps128
        go_wp2_with (go_at_call 71; refine HC.out.mono ?_)
        rintro e w2 ⟨rfl, hb2⟩
        have hz2_ := hb2.size
        go_wp2_with (go_at_call 85; refine (HD1.out _).mono ?_)
        rintro e w3 ⟨rfl, hb3⟩
        have hbx : Below w2.heap.size w2 w3 := ((Below.refl _ _).alloc (Nat.le_refl _) _).trans (hb3.mono (B' := w2.heap.size) (by simp))
        have hbW : Below W.heap.size W w3 := hb2.trans (hbx.mono hz2_)
        have h3 := hb3.size
        simp only [World.size_alloc] at h3
        have bx : w3.heap[w2.heap.size]? = some (.cells #[.string ⟨#[]⟩, .string ⟨#[]⟩] 90 (0, 0)) := by rw [hb3.block _ (by simp)]; exact heap_alloc_new w2 _
        have be : w3.heap[w.heap.size + 1]? = some (.cells #[.int .i64 st.e] 24 (0, 0)) := by rw [hbW.block _ l1]; exact HEB.out
        have bp : w3.heap[w.heap.size + 2]? = some (.cells #[.int .i64 st.place] 3 (0, 0)) := by rw [hbW.block _ l2]; exact HPB.out
        have bo : w3.heap[w.heap.size]? = some (.cells #[v] 31 (0, 0)) := by rw [hbW.block _ l0]; exact HB.out
        have hoW := HO.out.keep hbW
        have hneX : v.ownBlock ≠ some w2.heap.size := HO.out.ne (.inr hz2_)
        have hneE : v.ownBlock ≠ some (w.heap.size + 1) := HO.out.ne (.inl (by omega))
        have hneP : v.ownBlock ≠ some (w.heap.size + 2) := HO.out.ne (.inl (by omega))
        have cx0 : w3.cell? ⟨w2.heap.size, 0, none⟩ = some (.string ⟨#[]⟩) := by rw [blk_cell bx]; rfl
        have fx0 := blk_free bx 0
        have ce : w3.cell? ⟨w.heap.size + 1, 0, none⟩ = some (.int .i64 st.e) := by rw [blk_cell be]; rfl
        have fe := blk_free be 0
        have cp : w3.cell? ⟨w.heap.size + 2, 0, none⟩ = some (.int .i64 st.place) := by rw [blk_cell bp]; rfl
        have fp := blk_free bp 0
        have BX := Lib.hid bx; have BE := Lib.hid be; have BP := Lib.hid bp; have BO := Lib.hid bo; have HOW := Lib.hid hoW
        have NX := Lib.hid hneX; have NE := Lib.hid hneE; have NP := Lib.hid hneP
        clear bx be bp bo hoW hneX hneE hneP
        have hbf := hbw.trans (hbW.mono hbw.size)
        clear hb2 hb3 hbx
        go_wp2_with (go_at_call 85; refine (HD2.out _).mono ?_)
        rintro e w4 ⟨rfl, hb4⟩
        have h4 := hb4.size
        simp only [World.size_setCell] at h4
        have lX : w2.heap.size < w3.heap.size := by omega
        have bx : w4.heap[w2.heap.size]? = some (.cells #[.string m1, .string ⟨#[]⟩] 90 (0, 0)) := by
          rw [hb4.block _ (by simp only [World.size_setCell]; omega), heap_set_ne (by simp <;> omega)]
          exact heap_set BX.out 0 _
        have be : w4.heap[w.heap.size + 1]? = some (.cells #[.int .i64 0] 24 (0, 0)) := by
          rw [hb4.block _ (by simp only [World.size_setCell]; omega)]
          refine heap_set1 (v := .int .i64 st.e) ?_ _
          rw [heap_set_ne (by simp <;> omega)]; exact BE.out
        have bp : w4.heap[w.heap.size + 2]? = some (.cells #[.int .i64 st.place] 3 (0, 0)) := by
          rw [hb4.block _ (by simp only [World.size_setCell]; omega)]
          repeat rw [heap_set_ne (by simp <;> omega)]
          exact BP.out
        have bo : w4.heap[w.heap.size]? = some (.cells #[v] 31 (0, 0)) := by
          rw [hb4.block _ (by simp only [World.size_setCell]; omega)]
          repeat rw [heap_set_ne (by simp <;> omega)]
          exact BO.out
        have hoW := ((HOW.out.setNe NX.out (.string m1)).setNe NE.out (.int .i64 0)).keep hb4
        have hbf4 := ((hbf.setCell (p := ⟨w2.heap.size, 0, none⟩) (by simp <;> omega) (.string m1)).setCell (p := ⟨w.heap.size + 1, 0, none⟩) (by simp <;> omega) (.int .i64 0)).trans (hb4.mono (by simp only [World.size_setCell]; omega))
        clear BX BE BP BO HOW cx0 fx0 ce fe cp fp hbf hb4
        have cx0 : w4.cell? ⟨w2.heap.size, 0, none⟩ = some (.string m1) := by rw [blk_cell bx]; rfl
        have cx1 : w4.cell? ⟨w2.heap.size, 1, none⟩ = some (.string ⟨#[]⟩) := by rw [blk_cell bx]; rfl
        have fx1 := blk_free bx 1
        have ce : w4.cell? ⟨w.heap.size + 1, 0, none⟩ = some (.int .i64 0) := by rw [blk_cell be]; rfl
        have fe := blk_free be 0
        have cp : w4.cell? ⟨w.heap.size + 2, 0, none⟩ = some (.int .i64 st.place) := by rw [blk_cell bp]; rfl
        have fp := blk_free bp 0
        have co : w4.cell? ⟨w.heap.size, 0, none⟩ = some v := by rw [blk_cell bo]; rfl
        have fo := blk_free bo 0
        have BX := Lib.hid bx; have BE := Lib.hid be; have BP := Lib.hid bp; have BO := Lib.hid bo; have HOW := Lib.hid hoW
        clear bx be bp bo hoW
        go_wp2
        go_ret
        refine ⟨rfl, ⟨_, ?_, ((HOW.out.setNe NX.out _).setNe NE.out _).setNe NP.out _⟩, ?_, ?_, ((hbf4.setCell (p := ⟨_, _, none⟩) (by simp <;> omega) _).setCell (p := ⟨_, _, none⟩) (by simp <;> omega) _).setCell (p := ⟨_, _, none⟩) (by simp <;> omega) _, by simp; omega⟩
        · repeat rw [heap_set_ne (by simp <;> omega)]
          exact BO.out
        · rw [heap_set_ne (by simp <;> omega)]
          refine heap_set1 (v := .int .i64 0) ?_ _
          rw [heap_set_ne (by simp <;> omega)]
          exact BE.out
        · refine heap_set1 (v := .int .i64 st.place) ?_ _
          repeat rw [heap_set_ne (by simp <;> omega)]
          exact BP.out
      | ok x2 =>
        obtain ⟨m2, -, em2⟩ := str_of x2
        subst em2
        rw [f3 _ _ a hp0 hd1 hd2]
        have HD2 := Lib.hid fun W => decode_ok n2 m2 true W (by omega) hd2
        clear f1 f2 f3 hd1 hd2 hp0
        go_enter Tryz.func128, Tryz.ntmps128
        go_wp2_with (go_at_call 71; refine HC.out.mono ?_)
        rintro e w2 ⟨rfl, hb2⟩
        have hz2_ := hb2.size
        go_wp2_with (go_at_call 85; refine (HD1.out _).mono ?_)
        rintro e w3 ⟨rfl, hb3⟩
        have hbx : Below w2.heap.size w2 w3 := ((Below.refl _ _).alloc (Nat.le_refl _) _).trans (hb3.mono (B' := w2.heap.size) (by simp))
        have hbW : Below W.heap.size W w3 := hb2.trans (hbx.mono hz2_)
        have h3 := hb3.size
        simp only [World.size_alloc] at h3
        have bx : w3.heap[w2.heap.size]? = some (.cells #[.string ⟨#[]⟩, .string ⟨#[]⟩] 90 (0, 0)) := by rw [hb3.block _ (by simp)]; exact heap_alloc_new w2 _
        have be : w3.heap[w.heap.size + 1]? = some (.cells #[.int .i64 st.e] 24 (0, 0)) := by rw [hbW.block _ l1]; exact HEB.out
        have bp : w3.heap[w.heap.size + 2]? = some (.cells #[.int .i64 st.place] 3 (0, 0)) := by rw [hbW.block _ l2]; exact HPB.out
        have bo : w3.heap[w.heap.size]? = some (.cells #[v] 31 (0, 0)) := by rw [hbW.block _ l0]; exact HB.out
        have hoW := HO.out.keep hbW
        have hneX : v.ownBlock ≠ some w2.heap.size := HO.out.ne (.inr hz2_)
        have hneE : v.ownBlock ≠ some (w.heap.size + 1) := HO.out.ne (.inl (by omega))
        have hneP : v.ownBlock ≠ some (w.heap.size + 2) := HO.out.ne (.inl (by omega))
        have cx0 : w3.cell? ⟨w2.heap.size, 0, none⟩ = some (.string ⟨#[]⟩) := by rw [blk_cell bx]; rfl
        have fx0 := blk_free bx 0
        have ce : w3.cell? ⟨w.heap.size + 1, 0, none⟩ = some (.int .i64 st.e) := by rw [blk_cell be]; rfl
        have fe := blk_free be 0
        have cp : w3.cell? ⟨w.heap.size + 2, 0, none⟩ = some (.int .i64 st.place) := by rw [blk_cell bp]; rfl
        have fp := blk_free bp 0
        have BX := Lib.hid bx; have BE := Lib.hid be; have BP := Lib.hid bp; have BO := Lib.hid bo; have HOW := Lib.hid hoW
        have NX := Lib.hid hneX; have NE := Lib.hid hneE; have NP := Lib.hid hneP
        clear bx be bp bo hoW hneX hneE hneP
        have hbf := hbw.trans (hbW.mono hbw.size)
        clear hb2 hb3 hbx
        go_wp2_with (go_at_call 85; refine (HD2.out _).mono ?_)
        rintro e w4 ⟨rfl, hb4⟩
        have h4 := hb4.size
        simp only [World.size_setCell] at h4
        have lX : w2.heap.size < w3.heap.size := by omega
        have bx : w4.heap[w2.heap.size]? = some (.cells #[.string m1, .string ⟨#[]⟩] 90 (0, 0)) := by
          rw [hb4.block _ (by simp only [World.size_setCell]; omega), heap_set_ne (by simp <;> omega)]
          exact heap_set BX.out 0 _
        have be : w4.heap[w.heap.size + 1]? = some (.cells #[.int .i64 0] 24 (0, 0)) := by
          rw [hb4.block _ (by simp only [World.size_setCell]; omega)]
          refine heap_set1 (v := .int .i64 st.e) ?_ _
          rw [heap_set_ne (by simp <;> omega)]; exact BE.out
        have bp : w4.heap[w.heap.size + 2]? = some (.cells #[.int .i64 st.place] 3 (0, 0)) := by
          rw [hb4.block _ (by simp only [World.size_setCell]; omega)]
          repeat rw [heap_set_ne (by simp <;> omega)]
          exact BP.out
        have bo : w4.heap[w.heap.size]? = some (.cells #[v] 31 (0, 0)) := by
          rw [hb4.block _ (by simp only [World.size_setCell]; omega)]
          repeat rw [heap_set_ne (by simp <;> omega)]
          exact BO.out
        have hoW := ((HOW.out.setNe NX.out (.string m1)).setNe NE.out (.int .i64 0)).keep hb4
        have hbf4 := ((hbf.setCell (p := ⟨w2.heap.size, 0, none⟩) (by simp <;> omega) (.string m1)).setCell (p := ⟨w.heap.size + 1, 0, none⟩) (by simp <;> omega) (.int .i64 0)).trans (hb4.mono (by simp only [World.size_setCell]; omega))
        clear BX BE BP BO HOW cx0 fx0 ce fe cp fp hbf hb4
        have cx0 : w4.cell? ⟨w2.heap.size, 0, none⟩ = some (.string m1) := by rw [blk_cell bx]; rfl
        have cx1 : w4.cell? ⟨w2.heap.size, 1, none⟩ = some (.string ⟨#[]⟩) := by rw [blk_cell bx]; rfl
        have fx1 := blk_free bx 1
        have ce : w4.cell? ⟨w.heap.size + 1, 0, none⟩ = some (.int .i64 0) := by rw [blk_cell be]; rfl
        have fe := blk_free be 0
        have cp : w4.cell? ⟨w.heap.size + 2, 0, none⟩ = some (.int .i64 st.place) := by rw [blk_cell bp]; rfl
        have fp := blk_free bp 0
        have co : w4.cell? ⟨w.heap.size, 0, none⟩ = some v := by rw [blk_cell bo]; rfl
        have fo := blk_free bo 0
        have BX := Lib.hid bx; have BE := Lib.hid be; have BP := Lib.hid bp; have BO := Lib.hid bo; have HOW := Lib.hid hoW
        clear bx be bp bo hoW
        have hown4 := (HOW.out.setNe (a := ⟨w2.heap.size, 1, none⟩) NX.out (.string m2)).setNe (a := ⟨w.heap.size + 1, 0, none⟩) NE.out (.int .i64 0)
        have hnew := heap_alloc_new ((w4.setCell ⟨w2.heap.size, 1, none⟩ (.string m2)).setCell ⟨w.heap.size + 1, 0, none⟩ (.int .i64 0)) (.cells #[.string m1, .string m2] 90)
        simp only [World.size_setCell] at hnew
        have HNEW := Lib.hid hnew; clear hnew
        go_wp2_with (at_builtin; refine wpList_append_own _ rfl _ _ 31 rfl (w.heap.size + 3) 90 i0 (.agg #[.string ⟨#[]⟩, .string ⟨#[]⟩]) 2 32 Tryz.underlying31 hi hz0 hz1 hz2 rfl (by decide) _ _ _ rfl (hown4.1.alloc _) ⟨w4.heap.size, 0, none⟩ 1 1 [.string m1, .string m2] rfl rfl ?c1 ?c2 ?c3 ?c4 ?c5 ?_)
        case c1 =>
          intro j u hj
          match j, hj with
          | 0, hj => simp at hj; subst hj; rw [Lib.addr_add, blk_cell HNEW.out]; rfl
          | 1, hj => simp at hj; subst hj; rw [Lib.addr_add, blk_cell HNEW.out]; rfl
        case c2 => intro u hu; simp at hu; rcases hu with rfl | rfl <;> rfl
        case c3 => unfold maxLen; omega
        case c4 => omega
        case c5 => simp; omega
        intro v' w5 hown' hgrow _
        have hblk5 : ∀ g, g < w4.heap.size → v.ownBlock ≠ some g → w5.heap[g]? = ((w4.setCell ⟨w2.heap.size, 1, none⟩ (.string m2)).setCell ⟨w.heap.size + 1, 0, none⟩ (.int .i64 0)).heap[g]? := by
          intro g hg hne
          rw [hgrow.block _ (by simp; omega) (fun e => hne e.symm), Lib.alloc_old _ _ _ (by simp; omega)]
        have be5 : w5.heap[w.heap.size + 1]? = some (.cells #[.int .i64 0] 24 (0, 0)) := by
          rw [hblk5 _ (by omega) NE.out]
          refine heap_set1 (v := .int .i64 0) ?_ _
          rw [heap_set_ne (by simp <;> omega)]; exact BE.out
        have bp5 : w5.heap[w.heap.size + 2]? = some (.cells #[.int .i64 st.place] 3 (0, 0)) := by
          rw [hblk5 _ (by omega) NP.out]
          repeat rw [heap_set_ne (by simp <;> omega)]
          exact BP.out
        have bo5 : w5.heap[w.heap.size]? = some (.cells #[v] 31 (0, 0)) := by
          rw [hblk5 _ (by omega) (HO.out.ne (.inl (by omega)))]
          repeat rw [heap_set_ne (by simp <;> omega)]
          exact BO.out
        have hown5 : OwnPairs w5 (w.heap.size + 3) v' (st.out ++ [(bl m1, bl m2)]) := ⟨by rw [← pairCs_snoc]; simpa [mk_bl'] using hown', by simp; omega⟩
        have hbf5 : Below w.heap.size w w5 := (((hbf4.setCell (p := ⟨w2.heap.size, 1, none⟩) (by simp <;> omega) (.string m2)).setCell (p := ⟨w.heap.size + 1, 0, none⟩) (by simp <;> omega) (.int .i64 0)).alloc (by simp; omega) _).grown hgrow (by simp; omega) (fun j hj => by have := (hown4.1.lt j hj).1; omega)
        obtain ⟨ao5, cap5, rfl⟩ := hown5.len
        have co5 : w5.cell? ⟨w.heap.size, 0, none⟩ = some v := by rw [blk_cell bo5]; rfl
        have fo5 := blk_free bo5 0
        have BO5 := Lib.hid bo5; have BE5 := Lib.hid be5; have BP5 := Lib.hid bp5; have HO5 := Lib.hid hown5
        clear bo5 be5 bp5 hown5 hown' hblk5 hgrow hbf4 cx0 cx1 fx1 ce fe cp fp co fo hown4
        go_wp2
        go_ret
        refine ⟨rfl, ⟨_, heap_set1 BO5.out _, by simpa using HO5.out.set (a := ⟨w.heap.size, 0, none⟩) (by simp) _⟩, ?_, ?_, hbf5.setCell (Nat.le_refl _) _, by simp; omega⟩
        · rw [heap_set_ne (by simp <;> omega)]; exact BE5.out
        · rw [heap_set_ne (by simp <;> omega)]; exact BP5.out

def FormPost (r : List (Str × Str) × Int × Int) (w : World) (e : Ending) (w' : World) : Prop :=
  ∃ v, e = .returned (.tuple #[v, .int .i64 r.2.1, .int .i64 r.2.2]) ∧ OwnPairs w' w.heap.size v r.1 ∧ Below w.heap.size w w'

set_option maxHeartbeats 1000000 in
set_option maxRecDepth 100000 in
theorem form_any (s : ByteArray) (w : World) (hE : Env w) (hs : s.size < 4294967281) :
    Calls Tryz.prog 86 #[.string s] w (FormPost (form (bl s)) w) := by
  have hb0 : Below w.heap.size w (((w.alloc (.cells #[.slice none 0 0] 31)).alloc (.cells #[.int .i64 0] 24)).alloc (.cells #[.int .i64 0] 3)) :=
    (((Below.refl _ _).alloc (Nat.le_refl _) _).alloc (by simp) _).alloc (by simp <;> omega) _
  have h0 : FmSt w 0 ⟨[], 0, 0⟩ (((w.alloc (.cells #[.slice none 0 0] 31)).alloc (.cells #[.int .i64 0] 24)).alloc (.cells #[.int .i64 0] 3)) := by
    refine ⟨⟨_, ?_, OwnPairs.nil _ _⟩, ?_, ?_, hb0, by simp⟩
    · rw [Lib.alloc_old _ _ _ (by simp <;> omega), Lib.alloc_old _ _ _ (by simp <;> omega)]; exact heap_alloc_new w _
    · rw [Lib.alloc_old _ _ _ (by simp)]
      have := heap_alloc_new (w.alloc (.cells #[.slice none 0 0] 31)) (.cells #[.int .i64 0] 24)
      simpa using this
    · have := heap_alloc_new ((w.alloc (.cells #[.slice none 0 0] 31)).alloc (.cells #[.int .i64 0] 24)) (.cells #[.int .i64 0] 3)
      simpa using this
  have hp := parts_any s 38 128 _ (FmSt w) formStep ⟨[], 0, 0⟩ _ (by omega) (form_turns w hE s.size (by omega)) h0
  have e0 : form (bl s) = formEnd (foldParts formStep ⟨[], 0, 0⟩ 0 (splitOn 38 (bl s))) := rfl
  rw [e0]
  generalize foldParts formStep ⟨[], 0, 0⟩ 0 (splitOn 38 (bl s)) = st at hp
  have HP := Lib.hid hp; clear hp h0 hb0 e0
  go_enter Tryz.func86, Tryz.ntmps86
  go_wp2_with (go_at_call 127; refine HP.out.mono ?_)
  rintro e w1 ⟨rfl, a, ha, ⟨v, hblk, hown⟩, heb, hpb, hbw, hlen⟩
  obtain ⟨ao, cap, rfl⟩ := hown.len
  have ce : w1.cell? ⟨w.heap.size + 1, 0, none⟩ = some (.int .i64 st.e) := by rw [blk_cell heb]; rfl
  have fe := blk_free heb 0
  have cp : w1.cell? ⟨w.heap.size + 2, 0, none⟩ = some (.int .i64 st.place) := by rw [blk_cell hpb]; rfl
  have co : w1.cell? ⟨w.heap.size, 0, none⟩ = some (.slice ao st.out.length cap) := by rw [blk_cell hblk]; rfl
  have l1 := lt_of_blk heb
  have hl := hown.2
  have HB := Lib.hid hblk; have HO := Lib.hid hown; clear hblk hown heb hpb
  by_cases h0 : st.e = 0
  · by_cases h32 : 32 < st.out.length
    · have hr : formEnd st = ([], 2, st.place) := by simp [formEnd, h0, h32]
      have HR := Lib.hid hr
      have t0 : (st.e == 0) = true := by simpa using h0
      have t1 : (st.e != 0) = false := by simpa using h0
      clear h0 hr
      go_wp2
      go_quiet (fail)
      go_wp2
      go_ret3
      exact ⟨_, by rw [HR.out]; rfl, by rw [HR.out]; exact OwnPairs.nil _ _, below_drewN_ (hbw.setCell (p := ⟨_, _, none⟩) (by simp <;> omega) _) _⟩
    · have hr : formEnd st = (st.out, 0, 0) := by simp [formEnd, h0, h32]
      have HR := Lib.hid hr
      have t0 : (st.e == 0) = true := by simpa using h0
      have t1 : (st.e != 0) = false := by simpa using h0
      clear h0 hr
      go_wp2
      go_ret3
      exact ⟨_, by rw [HR.out]; rfl, by rw [HR.out]; exact HO.out.mono (by omega), hbw⟩
  · have hr : formEnd st = ([], st.e, st.place) := by simp [formEnd, h0]
    have HR := Lib.hid hr
    have t0 : (st.e == 0) = false := by simpa using h0
    have t1 : (st.e != 0) = true := by simpa using h0
    clear h0 hr
    go_wp2
    go_quiet (fail)
    go_wp2
    go_ret3
    exact ⟨_, by rw [HR.out]; rfl, by rw [HR.out]; exact OwnPairs.nil _ _, below_drewN_ hbw _⟩
end Go.Proofs.YtacdkcapejijdaaGreatDoor
