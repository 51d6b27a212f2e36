/- package uri: Decode. -/
import Derived.Test.YtacdkcapejijdaaGreatDoorUri1
import Derived.StillTailTactics
import Derived.BigQuiet
import Derived.IntWalk
import Derived.Deep.RegionWith
namespace Go.Proofs.YtacdkcapejijdaaGreatDoor
open Go.RowKit Clo

def pre (d : Str) : Except Nat Str → Except Nat Str
  | .ok l => .ok (d ++ l)
  | .error k => .error k

def DecRet (r : Except Nat Str) : Ending :=
  match r with
  | .ok l => .returned (.tuple #[.string ⟨l.toArray⟩, .int .i64 0, .int .i64 0])
  | .error k => .returned (.tuple #[.string ⟨#[]⟩, .int .i64 60, .int .i64 k])
def DecPost (r : Except Nat Str) (w : World) (e : Ending) (w' : World) : Prop := e = DecRet r ∧ Below w.heap.size w w'

theorem unhex_range : ∀ n, n < 256 → -1 ≤ unhex n.toUInt8 ∧ unhex n.toUInt8 ≤ 15 := by decide +kernel
theorem unhex_bd (c : UInt8) : -1 ≤ unhex c ∧ unhex c ≤ 15 := by
  have := unhex_range c.toNat (UInt8.toNat_lt c)
  simpa using this

theorem drop_bl (s : ByteArray) (k : Nat) (h : k < s.size) : (bl s).drop k = s[k] :: (bl s).drop (k + 1) := by
  rw [List.drop_eq_getElem_cons (by simpa [bl] using h)]; rfl
theorem drop3_bl (s : ByteArray) (k : Nat) (h : k + 2 < s.size) : (bl s).drop k = s[k] :: s[k + 1] :: s[k + 2] :: (bl s).drop (k + 3) := by
  rw [drop_bl s k (by omega), drop_bl s (k + 1) (by omega), drop_bl s (k + 1 + 1) (by omega)]
theorem pre_pre (d e : Str) (x : Except Nat Str) : pre d (pre e x) = pre (d ++ e) x := by cases x <;> simp [pre]
theorem pre_nil (x : Except Nat Str) : pre [] x = x := by cases x <;> simp [pre]
theorem dec_plain (plus : Bool) (k : Nat) (c : UInt8) (r : Str) (h : c ≠ 37) : dec plus k (c :: r) = pre [if plus = true ∧ c = 43 then 32 else c] (dec plus (k + 1) r) := by
  rw [dec.eq_def]
  simp only [h, if_false]
  cases dec plus (k + 1) r <;> rfl
theorem dec_bad (plus : Bool) (k : Nat) (a b : UInt8) (r : Str) (h : unhex a < 0 ∨ unhex b < 0) : dec plus k (37 :: a :: b :: r) = .error k := by
  rw [dec.eq_def]
  simp only [if_true, h]
theorem dec_pair (plus : Bool) (k : Nat) (a b : UInt8) (r : Str) (h : ¬ (unhex a < 0 ∨ unhex b < 0)) : dec plus k (37 :: a :: b :: r) = pre [hexPair a b] (dec plus (k + 3) r) := by
  rw [dec.eq_def]
  simp only [if_true, h, if_false]
  cases dec plus (k + 3) r <;> rfl
theorem dec_short (plus : Bool) (k : Nat) (r : Str) (h : r.length < 2) : dec plus k (37 :: r) = .error k := by
  match r, h with
  | [], _ => rw [dec.eq_def]; simp
  | [a], _ => rw [dec.eq_def]; simp
theorem hexPair_all : ∀ x, x < 16 → ∀ y, y < 16 → (bits BinOp.or IntKind.i64 ((x : Nat) * 16) (y : Nat)) % 256 = ((x * 16 + y).toUInt8.toNat : Int) := by decide +kernel
theorem hexPair_eq (a b : UInt8) (ha : 0 ≤ unhex a) (hb : 0 ≤ unhex b) : IntKind.u8.wrap (bits BinOp.or IntKind.i64 (IntKind.i64.wrap (unhex a * 16)) (unhex b)) = ((hexPair a b).toNat : Int) := by
  have h1 := unhex_bd a; have h2 := unhex_bd b
  have := hexPair_all (unhex a).toNat (by omega) (unhex b).toNat (by omega)
  rw [Int.toNat_of_nonneg ha, Int.toNat_of_nonneg hb] at this
  rw [IntWalk.i64_in _ (by omega), IntKind.wrap_u8]
  exact this
theorem byteCells_snoc (d : Str) (c : UInt8) : Lib.byteCells d ++ [Value.int .u8 c.toNat] = Lib.byteCells (d ++ [c]) := by simp [Lib.byteCells]

set_option maxHeartbeats 1000000 in
theorem decode_any (s : ByteArray) (plus : Bool) (w : World) (hs : s.size ≤ 140737488355328) :
    Calls Tryz.prog 85 #[.string s, .bool plus] w (DecPost (dec plus 0 (bl s)) w) := by
  go_enter Tryz.func85, Tryz.ntmps85
  go_wp2
  go_loopw [8] (fun i wr => ∃ (k : Nat) (d : Str), k ≤ s.size ∧ i = .int .i64 k ∧ d.length ≤ k ∧ dec plus 0 (bl s) = pre d (dec plus k ((bl s).drop k)) ∧ Lib.IsBuilder 128 5 w.heap.size w.heap.size (Lib.byteCells d) wr ∧ Below w.heap.size w wr) (fun i _ => s.size - (intOf i).toNat)
  case atStart => exact ⟨0, [], Nat.zero_le _, rfl, Nat.le_refl _, by simp [pre]; cases dec plus 0 (bl s) <;> rfl, Lib.fresh_isBuilder _ _ _, (Below.refl _ _).alloc (Nat.le_refl _) _⟩
  case round =>
    obtain ⟨k, d, hk, rfl, hdk, hdec, hbld, hbw⟩ := hrel
    have HD := Lib.hid hdec; clear hdec
    have hz := hbw.size
    by_cases hlt : k < s.size
    · by_cases h37 : s[k] = 37
      · have t1 : ((s[k].toNat : Int) == 37) = true := by simp [h37]
        have H37 := Lib.hid h37; clear h37
        by_cases hk2 : k + 2 < s.size
        · have r1 := unhex_bd s[k + 1]
          have r2 := unhex_bd s[k + 2]
          have i1 : (0 : Int) ≤ (k : Int) + 1 ∧ ((k : Int) + 1 < (s.size : Int)) := by omega
          have i2 : (0 : Int) ≤ (k : Int) + 2 ∧ ((k : Int) + 2 < (s.size : Int)) := by omega
          have i11 := i1.1; have i12 := i1.2; have i21 := i2.1; have i22 := i2.2
          by_cases u1 : unhex s[k + 1] < 0
          · have hfin : dec plus 0 (bl s) = .error k := by rw [HD.out, drop3_bl s k hk2, H37.out, dec_bad _ _ _ _ _ (.inl u1)]; rfl
            have HF := Lib.hid hfin; clear hfin
            go_wp2_with (go_at_call 125; refine (uriDigit_any _ _).mono ?_; rintro e w' ⟨rfl, rfl⟩)
            go_ret3
            exact ⟨by rw [HF.out]; rfl, hbw⟩
          · by_cases u2 : unhex s[k + 2] < 0
            · have hfin : dec plus 0 (bl s) = .error k := by rw [HD.out, drop3_bl s k hk2, H37.out, dec_bad _ _ _ _ _ (.inr u2)]; rfl
              have HF := Lib.hid hfin; clear hfin
              go_wp2_with (go_at_call 125; refine (uriDigit_any _ _).mono ?_; rintro e w' ⟨rfl, rfl⟩)
              go_ret3
              exact ⟨by rw [HF.out]; rfl, hbw⟩
            · go_wp2_with (go_at_call 125; refine (uriDigit_any _ _).mono ?_; rintro e w' ⟨rfl, rfl⟩)
              have hfin : dec plus 0 (bl s) = pre (d ++ [hexPair s[k + 1] s[k + 2]]) (dec plus (k + 3) ((bl s).drop (k + 3))) := by rw [HD.out, drop3_bl s k hk2, H37.out, dec_pair _ _ _ _ _ (by omega), pre_pre]
              have HF := Lib.hid hfin; clear hfin
              have hb0 : (Lib.byteCells d).length + 1 ≤ 140737488355328 := by simp [Lib.byteCells]; omega
              have q1 : IntKind.i64.wrap ((k : Int) + 1) = (k : Int) + 1 := IntWalk.i64_in _ (by omega)
              have q2 : IntKind.i64.wrap ((k : Int) + 2) = (k : Int) + 2 := IntWalk.i64_in _ (by omega)
              have n1 : ((k : Int) + 1).toNat = k + 1 := by omega
              have n2 : ((k : Int) + 2).toNat = k + 2 := by omega
              go_region_with (first | (go_at_call 125; refine (uriDigit_any _ _).mono ?_; rintro e w' ⟨rfl, rfl⟩) | (go_at_call 126; refine (writeByte_any w.heap.size w.heap.size (Lib.byteCells d) _ _ (by exact hbld) hb0 (by exact hz)).mono ?_; rintro e w1 ⟨rfl, hb1, hbe1⟩))
              all_goals
                clear q1 q2
                rw [hexPair_eq _ _ (by omega) (by omega), byteCells_snoc] at hb1
                go_wp2
                go_roundw
                case rel => exact ⟨k + 3, d ++ [hexPair s[k + 1] s[k + 2]], by omega, by go_num, by simp; omega, HF.out, .inr hb1, hbw.drew.trans hbe1⟩
                case measure => simp [intOf]; omega
        · have hfin : dec plus 0 (bl s) = .error k := by rw [HD.out, drop_bl s k hlt, H37.out, dec_short _ _ _ (by simp [bl]; omega)]; rfl
          have HF := Lib.hid hfin; clear hfin
          go_wp2
          go_ret3
          exact ⟨by rw [HF.out]; rfl, hbw⟩
      · have t1 : ((s[k].toNat : Int) == 37) = false := u8_no (d := 37) h37
        have H37 := Lib.hid h37; clear h37
        by_cases hp : plus = true ∧ s[k] = 43
        · obtain ⟨rfl, h43⟩ := hp
          have t2 : ((s[k].toNat : Int) == 43) = true := by simp [h43]
          have hfin : dec true 0 (bl s) = pre (d ++ [32]) (dec true (k + 1) ((bl s).drop (k + 1))) := by rw [HD.out, drop_bl s k hlt, dec_plain _ _ _ _ H37.out, if_pos ⟨rfl, h43⟩, pre_pre]
          have HF := Lib.hid hfin; clear hfin
          have H43 := Lib.hid h43; clear h43
          go_wp2_with (go_at_call 126; refine (writeByte_any _ _ _ _ _ hbld (by simp [Lib.byteCells]; omega) (by omega)).mono ?_; rintro e w1 ⟨rfl, hb1, hbe1⟩)
          go_roundw
          case rel => exact ⟨k + 1, d ++ [32], by omega, by go_num, by simp; omega, HF.out, .inr (by rw [← byteCells_snoc]; exact hb1), hbw.trans hbe1⟩
          case measure => simp [intOf]; omega
        · cases plus with
          | false =>
            have hfin : dec false 0 (bl s) = pre (d ++ [s[k]]) (dec false (k + 1) ((bl s).drop (k + 1))) := by rw [HD.out, drop_bl s k hlt, dec_plain _ _ _ _ H37.out, if_neg hp, pre_pre]
            have HF := Lib.hid hfin; clear hfin hp
            go_wp2_with (go_at_call 126; refine (writeByte_any _ _ _ _ _ hbld (by simp [Lib.byteCells]; omega) (by omega)).mono ?_; rintro e w1 ⟨rfl, hb1, hbe1⟩)
            go_roundw
            case rel => exact ⟨k + 1, d ++ [s[k]], by omega, by go_num, by simp; omega, HF.out, .inr (by rw [← byteCells_snoc]; exact hb1), hbw.trans hbe1⟩
            case measure => simp [intOf]; omega
          | true =>
            have t2 : ((s[k].toNat : Int) == 43) = false := u8_no (d := 43) (fun h => hp ⟨rfl, h⟩)
            have hfin : dec true 0 (bl s) = pre (d ++ [s[k]]) (dec true (k + 1) ((bl s).drop (k + 1))) := by rw [HD.out, drop_bl s k hlt, dec_plain _ _ _ _ H37.out, if_neg hp, pre_pre]
            have HF := Lib.hid hfin; clear hfin hp
            go_wp2_with (go_at_call 126; refine (writeByte_any _ _ _ _ _ hbld (by simp [Lib.byteCells]; omega) (by omega)).mono ?_; rintro e w1 ⟨rfl, hb1, hbe1⟩)
            go_roundw
            case rel => exact ⟨k + 1, d ++ [s[k]], by omega, by go_num, by simp; omega, HF.out, .inr (by rw [← byteCells_snoc]; exact hb1), hbw.trans hbe1⟩
            case measure => simp [intOf]; omega
    · have hfin : dec plus 0 (bl s) = .ok d := by rw [HD.out, List.drop_eq_nil_of_le (by simp [bl]; omega), dec.eq_def]; simp [pre]
      have HF := Lib.hid hfin; clear hfin
      go_wp2_with (go_at_call 67; refine (Tryz.Builder_String_any _ _ _ _ hbld (by omega)).mono ?_; rintro e w1 ⟨rfl, hbe1⟩)
      go_ret3
      exact ⟨by rw [HF.out]; rfl, hbw.trans hbe1⟩
end Go.Proofs.YtacdkcapejijdaaGreatDoor
