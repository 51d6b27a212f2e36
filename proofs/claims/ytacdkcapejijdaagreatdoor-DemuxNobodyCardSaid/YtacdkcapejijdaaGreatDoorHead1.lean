/- package head: small, Values. -/
import Derived.Test.YtacdkcapejijdaaGreatDoorUri1
import Derived.Lib.ConvBytes
import Derived.Lib.AtoiErrMem
import Derived.Laws.IdiomStrings
import Derived.Laws.BytesString
import Derived.Lib.BufferRead
import Derived.BigQuiet
import Derived.Deep.RegionWith
import Derived.OwnWalk
namespace Go.Proofs.YtacdkcapejijdaaGreatDoor
open Go.RowKit Clo

/-- The bytes while small's loop goes: k are done. -/
def smallAt (s : Str) (k : Nat) (j : Nat) : UInt8 := if j < k then smallB (s.getD j 0) else s.getD j 0
theorem small_list (s : Str) : small s = (List.range s.length).map fun j => smallAt s s.length j := by
  apply List.ext_getElem
  · simp [small]
  · intro i h1 h2
    simp [small] at h1
    simp [small, smallAt, h1, List.getD]

theorem plus32 (c : UInt8) : ((c + 32).toNat : Int) = ((c.toNat : Int) + 97 - 65) % 256 := by
  simp [UInt8.toNat_add]; omega
theorem large_byte (s : ByteArray) (j : Nat) (hj : j < s.size) (h : isLarge s[j] = true) : (smallB ((bl s).getD j 0)).toNat = (s[j] + 32).toNat := by
  have : (bl s).getD j 0 = s[j] := by simp [bl, List.getD, hj]; rfl
  rw [this, smallB, if_pos h]
theorem smallB_other (s : ByteArray) (j : Nat) (hj : j < s.size) (h : isLarge s[j] = false) : smallB ((bl s).getD j 0) = (bl s).getD j 0 := by
  have : (bl s).getD j 0 = s[j] := by simp [bl, List.getD, hj]; rfl
  rw [this, smallB, if_neg (by simp [h])]

theorem small_any (s : ByteArray) (w : World) (hs : s.size ≤ 140737488355328) :
    Calls Tryz.prog 74 #[.string s] w fun e w' => e = .returned (.string ⟨(small (bl s)).toArray⟩) ∧ Below w.heap.size w w' := by
  have hcv := Lib.run_convert_string_bytes (P := Tryz.prog) w 9 126 5 s (u := .string) Tryz.underlying9 Tryz.underlying126 Tryz.underlying5
  have hbw0 := Lib.bytesWorld_below w 5 s
  have hc0 : ∀ j, j < s.size → (Lib.bytesWorld w 5 s).cell? ⟨w.heap.size, j, none⟩ = some (.int .u8 ((bl s).getD j 0).toNat) := Lib.bytesWorld_cell w 5 s
  have hf0 : ∀ j, j < s.size → (Lib.bytesWorld w 5 s).frozen? ⟨w.heap.size, j, none⟩ = false := by
    intro j hj
    have hsz : s.size ≤ (Lib.bytesCells w 5 s).size := by simp [Lib.bytesCells]
    have := Lib.bytesWorld_at_new w 5 s
    simp only [World.frozen?, this]
    simp; try omega
  have hz0 := Lib.bytesWorld_size w 5 s
  generalize Lib.bytesWorld w 5 s = W1 at hcv hbw0 hc0 hf0 hz0
  generalize grownCap w s.size 0 5 = cap at hcv
  have HC0 := Lib.hid hc0; have HF0 := Lib.hid hf0; have HZ0 := Lib.hid hz0; clear hc0 hf0 hz0
  go_enter Tryz.func74, Tryz.ntmps74
  go_wp2
  go_loopw [4, 5, 10] (fun _ _ i wr => ∃ k : Nat, k ≤ s.size ∧ i = .int .i64 k ∧ (∀ j, j < s.size → wr.cell? ⟨w.heap.size, j, none⟩ = some (.int .u8 (smallAt (bl s) k j).toNat) ∧ wr.frozen? ⟨w.heap.size, j, none⟩ = false) ∧ Below w.heap.size w wr) (fun _ _ i _ => s.size - (intOf i).toNat)
  case atStart => exact ⟨0, Nat.zero_le _, rfl, fun j hj => ⟨by rw [HC0.out j hj]; simp [smallAt], HF0.out j hj⟩, hbw0⟩
  case round =>
    obtain ⟨k, hk, rfl, hall, hbw⟩ := hrel
    have HA := Lib.hid hall; clear hall
    have hz := hbw.size
    by_cases hlt : k < s.size
    · have hck := (HA.out k hlt).1
      have hfk := (HA.out k hlt).2
      have e0 : smallAt (bl s) k k = s[k] := by simp [smallAt, bl, List.getD, hlt]; rfl
      rw [e0] at hck
      have E0 := Lib.hid e0; clear e0
      by_cases hl : isLarge s[k] = true
      · go_wp2_with (go_at_call 114; refine (large_any _ _).mono ?_; rintro e w' ⟨rfl, rfl⟩)
        go_roundw
        case rel =>
          refine ⟨k + 1, by omega, by go_num, fun j hj => ⟨?_, by rw [World.frozen?_setCell]; exact (HA.out j hj).2⟩, hbw.setCell (Nat.le_refl _) _⟩
          by_cases hjk : j = k
          · subst hjk
            rw [cell_set_same hck]
            simp only [smallAt, if_pos (Nat.lt_succ_self j)]
            rw [large_byte s j hlt hl, plus32]
          · rw [cell_set_ne (by intro h; injection h with _ h _; omega), (HA.out j hj).1]
            have : (j < k + 1) = (j < k) := by rw [eq_iff_iff]; omega
            simp only [smallAt, this]
        case measure => simp [intOf]; omega
      · have hl' : isLarge s[k] = false := by simpa using hl
        clear hl
        go_wp2_with (go_at_call 114; refine (large_any _ _).mono ?_; rintro e w' ⟨rfl, rfl⟩)
        go_roundw
        case rel =>
          refine ⟨k + 1, by omega, by go_num, fun j hj => ⟨?_, (HA.out j hj).2⟩, hbw⟩
          by_cases hjk : j = k
          · subst hjk
            rw [(HA.out j hj).1]
            simp only [smallAt, if_pos (Nat.lt_succ_self j), if_neg (Nat.lt_irrefl j)]
            rw [smallB_other s j hlt hl']
          · rw [(HA.out j hj).1]
            have : (j < k + 1) = (j < k) := by rw [eq_iff_iff]; omega
            simp only [smallAt, this]
        case measure => simp [intOf]; omega
    · have hlen : (small (bl s)).length = s.size := by simp [small, bl]
      have hback : (convert 126 9 (.slice (some ⟨w.heap.size, 0, none⟩) s.size cap)).run Tryz.prog wr = .ok (.string ⟨(small (bl s)).toArray⟩) wr := by
        rw [← hlen]
        refine run_convert_bytes_back wr _ _ 5 ⟨w.heap.size, 0, none⟩ cap (small (bl s)) Tryz.underlying126 Tryz.underlying5 Tryz.underlying9 (fun j hj => ?_)
        have hj' : j < s.size := by rw [← hlen]; exact hj
        have hc := (HA.out j hj').1
        have hk' : k = s.size := by omega
        rw [Lib.addr_add, Nat.zero_add, hc]
        have : smallAt (bl s) k j = (small (bl s))[j] := by
          subst hk'
          simp [smallAt, small, bl, List.getD, hj']
        rw [this]
      clear hlen
      go_wp2
      go_ret
      exact ⟨rfl, hbw⟩
theorem take_snoc_pair (l : List (Str × Str)) (k : Nat) (h : k < l.length) : l.take (k + 1) = l.take k ++ [l.getD k ([], [])] := by
  rw [List.take_succ_eq_append_getElem h]; simp [List.getD, h]
theorem values_hit {l : List (Str × Str)} {k : Nat} {n x : Str} (h : k < l.length) (e : (l.getD k ([], [])).1 = small n) (hx : x = (l.getD k ([], [])).2) : values (l.take (k + 1)) n = values (l.take k) n ++ [x] := by
  rw [take_snoc_pair l k h]; unfold values; rw [List.filter_append]
  generalize l.getD k ([], []) = p at e hx
  simp [e, hx]
theorem values_miss {l : List (Str × Str)} {k : Nat} {n : Str} (h : k < l.length) (e : (l.getD k ([], [])).1 ≠ small n) : values (l.take (k + 1)) n = values (l.take k) n := by
  rw [take_snoc_pair l k h]; unfold values; rw [List.filter_append]
  generalize l.getD k ([], []) = p at e
  simp [e]

def ValuesPost (r : List Str) (w : World) (e : Ending) (w' : World) : Prop := ∃ v, e = .returned v ∧ OwnStrs w' w.heap.size v r ∧ Below w.heap.size w w'

set_option maxHeartbeats 1000000 in
set_option maxRecDepth 100000 in
theorem values_any (m t : ByteArray) (minor : Int) (v : Value) (l : List (Str × Str)) (name : ByteArray) (w : World) (hv : PairsAt w v l) (hn : name.size ≤ 140737488355328) (hl : l.length ≤ 8796093022208) :
    Calls Tryz.prog 73 #[.agg #[.string m, .string t, .int .i64 minor, v], .string name] w (ValuesPost (values l (bl name)) w) := by
  obtain ⟨ad, cap, rfl, hc, hb, hr⟩ := hv
  obtain ⟨sm, esm, bsm⟩ := str_of (small (bl name))
  have hsm : ∀ W, Calls Tryz.prog 74 #[.string name] W fun e w' => e = .returned (.string sm) ∧ Below W.heap.size W w' := by intro W; rw [← esm]; exact small_any name W hn
  obtain ⟨i0, hi, hz0, hz1, hz2⟩ := info_parts Tryz.infoString
  have BSM := Lib.hid bsm; clear bsm esm
  have HSM := Lib.hid hsm; clear hsm
  have HR := Lib.hid hr; clear hr
  go_enter Tryz.func73, Tryz.ntmps73
  go_wp2
  go_loopw [5, 7, 11] (fun o _ i wr => ∃ k : Nat, k ≤ l.length ∧ i = .int .i64 k ∧ OwnStrs wr w.heap.size o (values (l.take k) (bl name)) ∧ Below w.heap.size w wr) (fun _ _ i _ => l.length - (intOf i).toNat)
  case atStart => exact ⟨0, Nat.zero_le _, rfl, OwnStrs.nil _ _, (Below.refl _ _).alloc (Nat.le_refl _) _⟩
  case round =>
    obtain ⟨k, hk, rfl, hown, hbw⟩ := hrel
    have hz := hbw.size
    by_cases hlt : k < l.length
    · obtain ⟨g, off, rfl, hr2⟩ := HR.out (by intro h; simp [h] at hlt)
      obtain ⟨c1, c2⟩ := hr2 k hlt
      have hlt0 := lt_of_cell c1
      rw [← hbw.cell (p := ⟨g, off + k * 2, none⟩) hlt0] at c1
      rw [← hbw.cell (p := ⟨g, off + k * 2 + 1, none⟩) hlt0] at c2
      obtain ⟨n1, e1, b1⟩ := str_of (l.getD k ([], [])).1
      obtain ⟨n2, e2, b2⟩ := str_of (l.getD k ([], [])).2
      rw [e1] at c1; rw [e2] at c2
      clear hr2 e1 e2
      have B1 := Lib.hid b1; have B2 := Lib.hid b2; clear b1 b2
      have HOWN := Lib.hid hown; clear hown
      by_cases heq : bl n1 = small (bl name)
      · have tq : (n1.toList == sm.toList) = true := by rw [beq_bl, BSM.out]; simpa using heq
        have hval : values (l.take (k + 1)) (bl name) = values (l.take k) (bl name) ++ [bl n2] := values_hit hlt (by rw [← B1.out]; exact heq) B2.out
        have HV := Lib.hid hval; clear hval heq
        go_wp2
        go_region_with (go_at_call 74; refine (HSM.out _).mono ?_; rintro e w1 ⟨rfl, hb1⟩; obtain ⟨hc1, hf1⟩ := bcell hb1)
        all_goals
          have hbx : Below wr.heap.size wr w1 := ((Below.refl _ _).alloc (Nat.le_refl _) _).drew.trans (hb1.mono (B' := wr.heap.size) (by simp))
          have hown1 := (HOWN.out.keep hbx).1
          have hz1_ := hbx.size
          have hlen1 : (values (l.take k) (bl name)).length ≤ k := by
            unfold values; rw [List.length_map]; exact Nat.le_trans (List.length_filter_le _ _) (List.length_take_le _ _)
          go_wp2_with (at_builtin; refine wpList_append_own _ rfl _ _ 22 rfl w.heap.size 9 i0 (.string ⟨#[]⟩) 1 16 Tryz.underlying22 hi hz0 hz1 hz2 rfl (by decide) _ _ _ rfl (hown1.alloc _) ⟨w1.heap.size, 0, none⟩ 1 1 [.string n2] rfl rfl ?c1 ?c2 ?c3 ?c4 ?c5 ?_)
          case c1 => intro j u hj; match j, hj with | 0, hj => simp at hj; subst hj; simp [Addr.add]
          case c2 => intro u hu; simp at hu; subst hu; rfl
          case c3 => unfold maxLen; omega
          case c4 => omega
          case c5 => simp; omega
          intro v' w2 hown' hgrow _
          go_wp2
          go_roundw
          case rel => exact ⟨k + 1, by omega, by go_num, ⟨by rw [HV.out]; simpa [strCs, mk_bl'] using hown', by rw [HV.out]; simp; omega⟩, ((hbw.trans (hbx.mono hz)).alloc (by omega) _).grown hgrow (by simp; omega) (fun j hj => (hown1.lt j hj).1)⟩
          case measure => simp [intOf]; omega
      · have tq : (n1.toList == sm.toList) = false := by rw [beq_bl, BSM.out]; simpa using heq
        have hval : values (l.take (k + 1)) (bl name) = values (l.take k) (bl name) := values_miss hlt (by rw [← B1.out]; exact heq)
        have HV := Lib.hid hval; clear hval heq
        go_wp2
        go_region_with (go_at_call 74; refine (HSM.out _).mono ?_; rintro e w1 ⟨rfl, hb1⟩; obtain ⟨hc1, hf1⟩ := bcell hb1)
        all_goals
          have hbx : Below wr.heap.size wr w1 := ((Below.refl _ _).alloc (Nat.le_refl _) _).drew.trans (hb1.mono (B' := wr.heap.size) (by simp))
          go_wp2
          go_roundw
          case rel => exact ⟨k + 1, by omega, by go_num, by rw [HV.out]; exact HOWN.out.keep hbx, hbw.trans (hbx.mono hz)⟩
          case measure => simp [intOf]; omega
    · have hval : values (l.take k) (bl name) = values l (bl name) := by rw [List.take_of_length_le (by omega)]
      rw [hval] at hown
      have HOWN := Lib.hid hown; clear hown hval
      go_wp2
      go_ret
      exact ⟨_, rfl, HOWN.out, hbw⟩
end Go.Proofs.YtacdkcapejijdaaGreatDoor
