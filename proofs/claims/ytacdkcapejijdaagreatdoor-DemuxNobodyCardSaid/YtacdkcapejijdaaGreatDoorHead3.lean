/- package head: field. -/
import Derived.Test.YtacdkcapejijdaaGreatDoorHead2
import Derived.Test.YtacdkcapejijdaaGreatDoorKit4
import Derived.Deep.AppendLies
namespace Go.Proofs.YtacdkcapejijdaaGreatDoor
open Go.RowKit Clo

def FieldPost (X B : Nat) (m t : ByteArray) (minor : Int) (v : Value) (l : List (Str × Str)) (r : Int × Str × Str) (w : World) (e : Ending) (w' : World) : Prop :=
  e = .returned (.int .i64 r.1) ∧ ∃ v', w'.heap[X]? = some (.cells #[.string m, .string t, .int .i64 minor, v'] 33 (0, 0)) ∧ OwnPairs w' B v' (if r.1 = 0 then l ++ [(r.2.1, r.2.2)] else l) ∧ Kpt (fun k => k = X ∨ v.ownBlock = some k) w w'

theorem blk_far5 {w w' : World} {X : Nat} {o o2 : Obj} {v : Value} (h : w.heap[X]? = some o) (hg : (w.alloc o2).grownBy w' v.ownBlock) (hne : v.ownBlock ≠ some X) : w'.heap[X]? = some o := by
  rw [hg.block _ (by have := lt_of_blk h; simp; omega) (fun e => hne e.symm), Lib.alloc_old _ _ _ (lt_of_blk h)]
  exact h

set_option maxHeartbeats 2000000 in
set_option maxRecDepth 100000 in
theorem field_any (X B : Nat) (m t : ByteArray) (minor : Int) (v : Value) (l : List (Str × Str)) (line : ByteArray) (w : World) (hE : Env w)
    (hb : w.heap[X]? = some (.cells #[.string m, .string t, .int .i64 minor, v] 33 (0, 0))) (hown : OwnPairs w B v l) (hXB : X < B) (hB : B ≤ w.heap.size) (hl : line.size ≤ 1073741824) (hlen : l.length ≤ 32) :
    Calls Tryz.prog 70 #[.pointer (some ⟨X, 0, none⟩), .string line] w (FieldPost X B m t minor v l (fieldLine l.length (bl line)) w) := by
  obtain ⟨i0, hi, hz0, hz1, hz2⟩ := info_parts Tryz.infoPair
  obtain ⟨ao, cap, rfl⟩ := hown.len
  have cf : w.cell? ⟨X, 3, none⟩ = some (.slice ao l.length cap) := by rw [blk_cell hb]; rfl
  obtain ⟨R, hR⟩ : ∃ R, R = fieldLine l.length (bl line) := ⟨_, rfl⟩
  rw [← hR]
  have hXl := lt_of_blk hb
  have HB := Lib.hid hb; have HO := Lib.hid hown; have HE := Lib.hid hE; clear hb hown hE
  by_cases h32 : l.length = 32
  · have hr : R = (431, [], []) := by rw [hR]; unfold fieldLine; rw [if_pos h32]
    have t1 : ((l.length : Int) == 32) = true := by rw [beq_iff_eq]; omega
    subst hr
    clear h32 hR
    go_enter Tryz.func70, Tryz.ntmps70
    go_wp2
    go_ret
    exact ⟨rfl, _, HB.out, by simpa using HO.out, .refl _ _⟩
  have t32 : ((l.length : Int) == 32) = false := by rw [beq_eq_false_iff_ne]; omega
  unfold fieldLine at hR
  rw [if_neg h32] at hR
  have hcut := cut_any line ⟨#[58]⟩ w HE.out (by omega)
  have ec : bl ⟨#[58]⟩ = colon := rfl
  rw [ec] at hcut
  have hcl := cut_len (bl line) colon
  generalize Lib.cut (bl line) colon = c at hR hcut hcl
  obtain ⟨x1, x2, two⟩ := c
  obtain ⟨n1, e1, b1⟩ := str_of x1
  obtain ⟨n2, e2, b2⟩ := str_of x2
  simp only at hR hcut hcl
  rw [e1, e2] at hcut
  subst b1; subst b2
  rw [bl_length, bl_length, bl_length] at hcl
  have htl := trim_len (bl n2)
  have htr := fun W => trim_any n2 W (by omega)
  obtain ⟨n3, e3, b3⟩ := str_of (trim (bl n2))
  rw [e3] at htr
  rw [← b3] at hR htl
  rw [bl_length, bl_length] at htl
  have h1 := fun W => all_any n1 _ isToken W (by unfold maxLen; omega) says_token
  have h2 := fun W => all_any n3 _ isLoose W (by unfold maxLen; omega) says_loose
  have hsm := fun W => small_any n1 W (by omega)
  obtain ⟨n4, e4, b4⟩ := str_of (small (bl n1))
  rw [e4] at hsm
  rw [← b4] at hR
  clear e1 e2 e3 e4 ec b3 b4 h32
  generalize hok1 : (bl n1).all isToken = ok1 at h1 hR
  generalize hok2 : (bl n3).all isLoose = ok2 at h2 hR
  have HC := Lib.hid hcut; have HTR := Lib.hid htr; have H1 := Lib.hid h1; have H2 := Lib.hid h2; have HSM := Lib.hid hsm
  clear hcut htr h1 h2 hsm hok1 hok2
  by_cases hbad : two = false ∨ bl n1 = [] ∨ ok1 = false ∨ ok2 = false
  · rw [if_pos hbad] at hR
    subst hR
    have hbad' : two = true → ¬ n1.toList = [] → ok1 = true → ok2 = true → False := by
      intro a b c d; rw [toList_bl] at b; rcases hbad with h | h | h | h
      · simp [a] at h
      · exact b h
      · simp [c] at h
      · simp [d] at h
    have HBAD := Lib.hid hbad'; clear hbad hbad'
    cases two <;> cases ok1 <;> cases ok2
    all_goals
      go_enter Tryz.func70, Tryz.ntmps70
      go_wp2_with fail
      refine HC.out.mono ?_
      rintro e w2 ⟨rfl, hb2⟩
      go_wp2_with fail
      refine (HTR.out _).mono ?_
      rintro e w3 ⟨rfl, hb3⟩
      have hbw : Below w.heap.size w w3 := hb2.trans (hb3.mono hb2.size)
      go_wp2_with (first | (go_at_call 75; (with_reducible refine (H1.out _).mono ?_); rintro e w' ⟨rfl, rfl⟩) | (go_at_call 75; (with_reducible refine (H2.out _).mono ?_); rintro e w' ⟨rfl, rfl⟩))
      all_goals first
        | (go_ret; exact ⟨rfl, _, (by rw [hbw.block _ hXl]; exact HB.out), by simpa using HO.out.keep hbw, .of hbw⟩)
        | (exfalso; have := HBAD.out; simp_all)
  · rw [if_neg hbad] at hR
    subst hR
    obtain ⟨rfl, hne, rfl, rfl⟩ : two = true ∧ ¬ n1.toList = [] ∧ ok1 = true ∧ ok2 = true := by
      rw [toList_bl]
      refine ⟨?_, fun h => hbad (.inr (.inl h)), ?_, ?_⟩
      · cases two with | true => rfl | false => exact absurd (.inl rfl) hbad
      · cases ok1 with | true => rfl | false => exact absurd (.inr (.inr (.inl rfl))) hbad
      · cases ok2 with | true => rfl | false => exact absurd (.inr (.inr (.inr rfl))) hbad
    clear hbad
    have hne2 : n1.toList.isEmpty = false := by simpa using hne
    go_enter Tryz.func70, Tryz.ntmps70
    go_wp2_with fail
    refine HC.out.mono ?_
    rintro e w2 ⟨rfl, hb2⟩
    go_wp2_with fail
    refine (HTR.out _).mono ?_
    rintro e w3 ⟨rfl, hb3⟩
    have hbw : Below w.heap.size w w3 := hb2.trans (hb3.mono hb2.size)
    have hz3 := hbw.size
    have hbk : w3.heap[X]? = some (.cells #[.string m, .string t, .int .i64 minor, .slice ao l.length cap] 33 (0, 0)) := by rw [hbw.block _ hXl]; exact HB.out
    have cf3 : w3.cell? ⟨X, 3, none⟩ = some (.slice ao l.length cap) := by rw [blk_cell hbk]; rfl
    have ff3 := blk_free hbk 3
    have hown3 := HO.out.keep hbw
    have hl3 := lt_of_blk hbk
    have hown3d : OwnPairs w3.drew B _ _ := hown3
    have hB3 : B ≤ w3.drew.heap.size := Nat.le_trans hB hz3
    have hbw3 := hbw.drew
    have HBK := Lib.hid hbk; have HO3 := Lib.hid hown3d; clear hbk hown3 hown3d hb2 hb3
    go_wp2_with (first | (go_at_call 75; (with_reducible refine (H1.out _).mono ?_); rintro e w' ⟨rfl, rfl⟩) | (go_at_call 75; (with_reducible refine (H2.out _).mono ?_); rintro e w' ⟨rfl, rfl⟩))
    have hneX : (Value.slice ao l.length cap).ownBlock ≠ some X := HO.out.ne (.inl hXB)
    have NX := Lib.hid hneX; clear hneX
    go_region_law (first
      | (go_simp; go_at_call 74; refine (HSM.out _).mono ?_; rintro e w4 ⟨rfl, hb4⟩; have hown4 := HO3.out.keep hb4; have hz4 := Nat.le_trans hB3 hb4.size; have HBK4 := Lib.hid ((hb4.block X hl3).trans HBK.out); have hbw4 := hbw3.trans (hb4.mono hbw3.size); have c4 : w4.cell? ⟨X, 3, none⟩ = some (.slice ao l.length cap) := (blk_cell HBK4.out 3).trans rfl; have hX4 := lt_of_blk HBK4.out; have c4a : ∀ o2, (w4.alloc o2).cell? ⟨X, 3, none⟩ = some (.slice ao l.length cap) := fun o2 => (blk_cell ((Lib.alloc_old _ o2 _ hX4).trans HBK4.out) 3).trans rfl; clear hb4)
      | (refine step_append_lies _ rfl _ _ 31 rfl B 90 i0 (.agg #[.string ⟨#[]⟩, .string ⟨#[]⟩]) 2 32 Tryz.underlying31 hi hz0 hz1 hz2 rfl (by decide) _ _ _ rfl (hown4.1.alloc _) ⟨w4.heap.size, 0, none⟩ 1 1 [.string n4, .string n3] rfl rfl (World.news_of_block (heap_alloc_new _ _)) (by intro u hu; simp at hu; rcases hu with rfl | rfl <;> rfl) (by decide) (by unfold maxLen; omega) (by omega) (Nat.le_trans hz4 (by simp)) _ rfl ?_; intro g cap5 w5 hown5 hgrow hg5 hglt; have hbk5 := blk_far5 HBK4.out hgrow NX.out; have c5 : w5.cell? ⟨X, 3, none⟩ = some (.slice ao l.length cap) := (blk_cell hbk5 3).trans rfl; have f5 := blk_free hbk5 3; have HBK5 := Lib.hid hbk5; clear hbk5))
    all_goals
      go_wp2
      go_ret
      have hown6 : OwnPairs w5 B (.slice (some ⟨g, 0, none⟩) (l.length + 1) cap5) (l ++ [(bl n4, bl n3)]) := ⟨by rw [← pairCs_snoc]; simpa [mk_bl'] using hown5, by simp; omega⟩
      have hgX : (Value.slice (some ⟨g, 0, none⟩) (l.length + 1) cap5).ownBlock ≠ some X := hown6.ne (.inl hXB)
      refine ⟨rfl, _, heap_set HBK5.out 3 _, by simpa using hown6.setNe (a := ⟨X, 3, none⟩) hgX _, ?_⟩
      exact ((((Kpt.of (hbw4.mono (Nat.le_refl _))).alloc _).grown hgrow (fun k hk _ => .inr hk)).set (p := ⟨X, 3, none⟩) (fun _ => .inl rfl) _)
end Go.Proofs.YtacdkcapejijdaaGreatDoor
