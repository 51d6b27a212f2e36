/- package uri: digit, Get. -/
import Derived.Test.YtacdkcapejijdaaGreatDoorBuilder
import Derived.Test.YtacdkcapejijdaaGreatDoorSpec2
import Derived.Test.YtacdkcapejijdaaGreatDoorChars
namespace Go.Proofs.YtacdkcapejijdaaGreatDoor
open Go.RowKit Clo

theorem unhexArg_all : ∀ n, n < 256 → (bits BinOp.or IntKind.u8 (n : Nat) (32 * bits BinOp.and IntKind.u8 ((n : Nat) / 64) 1 % 256)).toNat.toUInt8 = unhexArg n.toUInt8 := by decide +kernel
theorem unhexArg_eq (c : UInt8) : (bits BinOp.or IntKind.u8 c.toNat (32 * bits BinOp.and IntKind.u8 (c.toNat / 64) 1 % 256)).toNat.toUInt8 = unhexArg c := by
  have := unhexArg_all c.toNat (UInt8.toNat_lt c)
  simpa using this

theorem uriDigit_any (c : UInt8) (w : World) : Calls Tryz.prog 125 #[.int .u8 c.toNat] w fun e w' => e = .returned (.int .i64 (unhex c)) ∧ w' = w := by
  have H := Lib.hid (unhexArg_eq c)
  go_enter Tryz.func125, Tryz.ntmps125
  go_wp2_with (go_at_call 146; refine (Tryz.strings_IndexByte _ _ _).mono ?_; rintro e w' ⟨rfl, rfl⟩)
  go_ret
  exact ⟨ret_int (congrArg (Lib.indexByte hexDigits) H.out), rfl⟩

theorem getP_hit {l : List (Str × Str)} {k : Nat} {n : Str} (h : k < l.length) (e : (l.getD k ([], [])).1 = n) : getP (l.drop k) n = some (l.getD k ([], [])).2 := by
  rw [List.drop_eq_getElem_cons h]
  have hd : l.getD k ([], []) = l[k] := by simp [List.getD, h]
  rw [hd] at e ⊢
  simp [getP, e]
theorem getP_miss {l : List (Str × Str)} {k : Nat} {n : Str} (h : k < l.length) (e : (l.getD k ([], [])).1 ≠ n) : getP (l.drop k) n = getP (l.drop (k + 1)) n := by
  rw [List.drop_eq_getElem_cons h]
  have hd : l.getD k ([], []) = l[k] := by simp [List.getD, h]
  rw [hd] at e
  simp [getP, e]

def GetPost (l : List (Str × Str)) (n : Str) (w : World) (e : Ending) (w' : World) : Prop :=
  e = .returned (.tuple #[.string ⟨((getP l n).getD []).toArray⟩, .bool (getP l n).isSome]) ∧ Below w.heap.size w w'

theorem get_any (v : Value) (l : List (Str × Str)) (n : ByteArray) (w : World) (hv : PairsAt w v l) : Calls Tryz.prog 90 #[v, .string n] w (GetPost l (bl n) w) := by
  obtain ⟨ad, cap, rfl, hc, hb, hr⟩ := hv
  go_enter Tryz.func90, Tryz.ntmps90
  go_wp2
  go_loopw [7, 10] (fun _ i wr => ∃ k : Nat, k ≤ l.length ∧ i = .int .i64 k ∧ getP l (bl n) = getP (l.drop k) (bl n) ∧ Below w.heap.size w wr) (fun _ i _ => l.length - (intOf i).toNat)
  case atStart => exact ⟨0, Nat.zero_le _, rfl, rfl, Below.refl _ _⟩
  case round =>
    obtain ⟨k, hk, rfl, hg, hbw⟩ := hrel
    have HG := Lib.hid hg; clear hg
    by_cases hlt : k < l.length
    · obtain ⟨g, off, rfl, hr2⟩ := hr (by intro h; simp [h] at hlt)
      obtain ⟨c1, c2⟩ := hr2 k hlt
      have hlt0 := lt_of_cell c1
      rw [← hbw.cell (p := ⟨g, off + k * 2, none⟩) hlt0] at c1
      rw [← hbw.cell (p := ⟨g, off + k * 2 + 1, none⟩) hlt0] at c2
      obtain ⟨n1, e1, b1⟩ := str_of (l.getD k ([], [])).1
      obtain ⟨n2, e2, b2⟩ := str_of (l.getD k ([], [])).2
      rw [e1] at c1; rw [e2] at c2
      clear hr hr2 e1 e2
      have B1 := Lib.hid b1; have B2 := Lib.hid b2; clear b1 b2
      have hz := hbw.size
      go_wp2
      · have hq := beq_true ‹(n1.toList == n.toList) = true›
        have hg : getP l (bl n) = some (bl n2) := by rw [HG.out, getP_hit hlt (by rw [← B1.out, hq]), B2.out]
        go_ret2
        exact ⟨by rw [hg]; rfl, hbw.alloc hz _⟩
      · have hq := beq_false ‹(n1.toList == n.toList) = false›
        have hg : getP l (bl n) = getP (l.drop (k + 1)) (bl n) := by rw [HG.out, getP_miss hlt (by rw [← B1.out]; exact hq)]
        go_roundw
        case rel => exact ⟨k + 1, by omega, by go_num, hg, hbw.alloc hz _⟩
        case measure => simp [intOf]; omega
    · have hg : getP l (bl n) = none := by rw [HG.out, List.drop_eq_nil_of_le (by omega)]; rfl
      have HG2 := Lib.hid hg; clear hg
      go_wp2
      go_ret2
      exact ⟨by rw [HG2.out]; rfl, hbw⟩
end Go.Proofs.YtacdkcapejijdaaGreatDoor
