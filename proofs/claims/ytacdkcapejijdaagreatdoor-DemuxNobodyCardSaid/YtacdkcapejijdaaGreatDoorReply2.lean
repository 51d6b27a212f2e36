/- package reply: may, Reason, Print. -/
import Derived.Test.YtacdkcapejijdaaGreatDoorReply1
import Derived.Test.YtacdkcapejijdaaGreatDoorKit4
namespace Go.Proofs.YtacdkcapejijdaaGreatDoor
open Go.RowKit Clo

def MayPost (r : Bool) (w : World) (e : Ending) (w' : World) : Prop := e = .returned (.bool r) ∧ Below w.heap.size w w'

theorem fields_step (l : List (Str × Str)) (k : Nat) (h : k < l.length) (p : Str × Str → Bool) : (l.drop k).all p = (p (l.getD k ([], [])) && (l.drop (k + 1)).all p) := by
  rw [List.drop_eq_getElem_cons h]
  have hd : l.getD k ([], []) = l[k] := by simp [List.getD, h]
  rw [hd]; rfl

set_option maxHeartbeats 2000000 in
set_option maxRecDepth 100000 in
theorem may_any (st : Int) (v : Value) (l : List (Str × Str)) (body : ByteArray) (cl : Bool) (w : World) (hv : PairsAt w v l)
    (hsz : ∀ k, k < l.length → (l.getD k ([], [])).1.length ≤ 140737488355328 ∧ (l.getD k ([], [])).2.length ≤ 140737488355328) (hb : body.size ≤ 140737488355328) :
    Calls Tryz.prog 63 #[.agg #[.int .i64 st, v, .string body, .bool cl]] w (MayPost (may ⟨st, l, bl body, cl⟩) w) := by
  obtain ⟨ad, cap, rfl, hc, hlb, hr⟩ := hv
  obtain ⟨R, hR⟩ : ∃ R, R = may ⟨st, l, bl body, cl⟩ := ⟨_, rfl⟩
  rw [← hR]
  unfold may at hR
  simp only at hR
  by_cases hbad : 200 ≤ st ∧ st ≤ 599 ∧ l.length ≤ 32 ∧ (bl body).length ≤ 1048576
  · rw [decide_eq_true hbad, Bool.true_and] at hR
    obtain ⟨b1, b2, b3, b4⟩ := hbad
    rw [bl_length] at b4
    have HR := Lib.hid hR; clear hR
    have HRR := Lib.hid hr; have HS := Lib.hid hsz; clear hr hsz
    go_enter Tryz.func63, Tryz.ntmps63
    go_wp2
    go_loopw [4, 28] (fun _ i wr => ∃ k : Nat, k ≤ l.length ∧ i = .int .i64 k ∧ R = (l.drop k).all (fun f => nameOk f.1 && valueOk f.2) ∧ Below w.heap.size w wr) (fun _ i _ => l.length - (intOf i).toNat)
    case atStart => exact ⟨0, Nat.zero_le _, rfl, HR.out, (Below.refl _ _).alloc (Nat.le_refl _) _⟩
    case round =>
      obtain ⟨k, hk, rfl, hall, hbw⟩ := hrel
      have hz := hbw.size
      by_cases hlt : k < l.length
      · rw [fields_step l k hlt] at hall
        obtain ⟨g, off, rfl, hr2⟩ := HRR.out (by intro h; simp [h] at hlt)
        obtain ⟨c1, c2⟩ := hr2 k hlt
        obtain ⟨z1, z2⟩ := HS.out k hlt
        have hlt0 := lt_of_cell c1
        rw [← hbw.cell (p := ⟨g, off + k * 2, none⟩) hlt0] at c1
        rw [← hbw.cell (p := ⟨g, off + k * 2 + 1, none⟩) hlt0] at c2
        obtain ⟨n1, e1, b1_⟩ := str_of (l.getD k ([], [])).1
        obtain ⟨n2, e2, b2_⟩ := str_of (l.getD k ([], [])).2
        rw [e1] at c1; rw [e2] at c2
        rw [← b1_, ← b2_] at hall
        rw [← b1_, bl_length] at z1; rw [← b2_, bl_length] at z2
        clear hr2 e1 e2 b1_ b2_
        have hn := fun W => name_any n1 W z1
        have hvl := fun W => value_any n2 W z2
        generalize nameOk (bl n1) = ok1 at hn hall
        generalize valueOk (bl n2) = ok2 at hvl hall
        have HN := Lib.hid hn; have HV := Lib.hid hvl; have HA := Lib.hid hall; clear hn hvl hall
        cases ok1 <;> cases ok2
        all_goals
          go_wp2_with (first | (go_at_call 106; refine (HN.out _).mono ?_; rintro e w' ⟨rfl, rfl⟩) | (go_at_call 107; refine (HV.out _).mono ?_; rintro e w1 ⟨rfl, hb1⟩))
          first
            | (go_ret; exact ⟨ret_bool (by rw [HA.out]; rfl), hbw.alloc hz _⟩)
            | (go_ret; exact ⟨ret_bool (by rw [HA.out]; rfl), (hbw.alloc hz _).trans (hb1.mono (by simp; omega))⟩)
            | (go_roundw
               case rel => exact ⟨k + 1, by omega, by go_num, by rw [HA.out]; rfl, (hbw.alloc hz _).trans (hb1.mono (by simp; omega))⟩
               case measure => simp [intOf]; omega)
      · have hT : R = true := by rw [hall, List.drop_eq_nil_of_le (by omega)]; rfl
        have HT := Lib.hid hT; clear hT hall
        go_wp2
        go_ret
        exact ⟨ret_bool HT.out.symm, hbw⟩
  · rw [decide_eq_false hbad, Bool.false_and] at hR
    have HR := Lib.hid hR; clear hR
    have HBAD := Lib.hid hbad; clear hbad
    go_enter Tryz.func63, Tryz.ntmps63
    go_wp2
    all_goals first
      | (exfalso; apply HBAD.out; refine ⟨?_, ?_, ?_, ?_⟩ <;> (try rw [bl_length]) <;> omega)
      | (go_ret; exact ⟨ret_bool (by rw [HR.out]), (Below.refl _ _).alloc (Nat.le_refl _) _⟩)

def ReasonPost (r : Option Str) (w : World) (e : Ending) (w' : World) : Prop :=
  e = .returned (.tuple #[.string ⟨(r.getD []).toArray⟩, .int .i64 (if r.isSome then 0 else 3)]) ∧ Below w.heap.size w w'

def reasonCs (l : List (Int × Str)) : List Value := l.flatMap fun p => [.int .i64 p.1, .string ⟨p.2.toArray⟩]
theorem reasonIn_hit {l : List (Int × Str)} {k : Nat} {n : Int} (h : k < l.length) (e : (l.getD k (0, [])).1 = n) : reasonIn (l.drop k) n = some (l.getD k (0, [])).2 := by
  rw [List.drop_eq_getElem_cons h]
  have hd : l.getD k (0, []) = l[k] := by simp [List.getD, h]
  rw [hd] at e ⊢
  simp [reasonIn, e]
theorem reasonIn_miss {l : List (Int × Str)} {k : Nat} {n : Int} (h : k < l.length) (e : (l.getD k (0, [])).1 ≠ n) : reasonIn (l.drop k) n = reasonIn (l.drop (k + 1)) n := by
  rw [List.drop_eq_getElem_cons h]
  have hd : l.getD k (0, []) = l[k] := by simp [List.getD, h]
  rw [hd] at e
  simp [reasonIn, e]

theorem alloc_cell (w : World) (cs : Array Value) (T : TypeId) (fr : Nat × Nat) (i : Nat) : (w.alloc (.cells cs T fr)).cell? ⟨w.heap.size, i, none⟩ = cs[i]? := by
  have h : (w.alloc (.cells cs T fr)).heap[w.heap.size]? = some (.cells cs T fr) := (MapKept.heap_alloc w _).1
  exact Lib.cell_of_heap h i

set_option maxHeartbeats 2000000 in
set_option maxRecDepth 100000 in
theorem reasons_any (w : World) : Calls Tryz.prog 108 #[] w fun e w' => e = .returned (.slice (some ⟨w.heap.size, 0, none⟩) 13 13) ∧ Below w.heap.size w w' ∧ ∀ k, k < 13 → w'.cell? ⟨w.heap.size, k * 2, none⟩ = some (.int .i64 (reasons.getD k (0, [])).1) ∧ w'.cell? ⟨w.heap.size, k * 2 + 1, none⟩ = some (.string ⟨((reasons.getD k (0, [])).2).toArray⟩) := by
  go_enter Tryz.func108, Tryz.ntmps108
  go_wp2
  go_ret
  refine ⟨rfl, (Below.refl _ _).alloc (Nat.le_refl _) _, ?_⟩
  intro k hk
  rw [alloc_cell, alloc_cell]
  rcases k with _|_|_|_|_|_|_|_|_|_|_|_|_|k
  all_goals first | exact ⟨rfl, rfl⟩ | omega

set_option maxHeartbeats 2000000 in
theorem Reason_any (st : Int) (w : World) : Calls Tryz.prog 64 #[.int .i64 st] w (ReasonPost (reasonIn reasons st) w) := by
  obtain ⟨R, hR⟩ : ∃ R, R = reasonIn reasons st := ⟨_, rfl⟩
  rw [← hR]
  have HR := Lib.hid hR; clear hR
  go_enter Tryz.func64, Tryz.ntmps64
  go_wp2_with fail
  go_at_call 108
  refine (reasons_any _).mono ?_
  rintro e w1 ⟨rfl, hb1, hcs⟩
  have HC := Lib.hid hcs; clear hcs
  go_wp2
  go_loopw [5, 8] (fun _ i wr => ∃ k : Nat, k ≤ 13 ∧ i = .int .i64 k ∧ R = reasonIn (reasons.drop k) st ∧ Below w1.heap.size w1 wr) (fun _ i _ => 13 - (intOf i).toNat)
  case atStart => exact ⟨0, Nat.zero_le _, rfl, HR.out, Below.refl _ _⟩
  case round =>
    obtain ⟨k, hk, rfl, hg, hbw⟩ := hrel
    have HG := Lib.hid hg; clear hg
    have hz := hbw.size
    by_cases hlt : k < 13
    · obtain ⟨c1, c2⟩ := HC.out k hlt
      have hlt0 := lt_of_cell c1
      rw [← hbw.cell (p := ⟨w.heap.size, k * 2, none⟩) hlt0] at c1
      rw [← hbw.cell (p := ⟨w.heap.size, k * 2 + 1, none⟩) hlt0] at c2
      obtain ⟨n2, e2, b2⟩ := str_of (reasons.getD k (0, [])).2
      obtain ⟨n1, e1⟩ : ∃ n1, n1 = (reasons.getD k (0, [])).1 := ⟨_, rfl⟩
      rw [← e1] at c1; rw [e2] at c2
      have B1 := Lib.hid e1; have B2 := Lib.hid b2; clear e1 e2 b2
      have hl : k < reasons.length := hlt
      go_wp2
      · have hq := ‹(n1 == st) = true›
        have hg : R = some (bl n2) := by rw [HG.out, reasonIn_hit hl (by rw [← B1.out]; simpa using hq), B2.out]
        go_ret2
        exact ⟨by rw [hg]; rfl, hb1.trans ((hbw.alloc hz _).mono hb1.size)⟩
      · have hq := ‹(n1 == st) = false›
        have hg : R = reasonIn (reasons.drop (k + 1)) st := by rw [HG.out, reasonIn_miss hl (by rw [← B1.out]; simpa using hq)]
        go_roundw
        case rel => exact ⟨k + 1, by omega, by go_num, hg, hbw.alloc hz _⟩
        case measure => simp [intOf]; omega
    · have hg : R = none := by rw [HG.out, List.drop_eq_nil_of_le (by show 13 ≤ k; omega)]; rfl
      have HG2 := Lib.hid hg; clear hg
      go_wp2
      go_ret2
      exact ⟨by rw [HG2.out]; rfl, hb1.trans (hbw.mono hb1.size)⟩
end Go.Proofs.YtacdkcapejijdaaGreatDoor
