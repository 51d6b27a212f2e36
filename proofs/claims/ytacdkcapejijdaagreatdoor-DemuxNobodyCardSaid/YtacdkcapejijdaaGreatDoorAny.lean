/- strings.ContainsAny(s, "\r\n") at every text. -/
import Derived.Test.YtacdkcapejijdaaGreatDoorReply1
import Derived.Test.YtacdkcapejijdaaGreatDoorKit4
import Derived.Laws.RangeString
import Derived.Laws.RangeAny
import Derived.LoopN
import Derived.BigQuiet
import Derived.Lib.RuneCountTail
import Derived.Lib.MapLaws
namespace Go.Proofs.YtacdkcapejijdaaGreatDoor
open Go.RowKit

theorem Lib.below_iter_ (w : World) (s : ByteArray) (k : Nat) : Below w.heap.size w (w.iter s k) := by
  unfold World.iter
  exact (Below.refl _ _).alloc (Nat.le_refl _) _

theorem enc_code (r : Int) (h0 : 128 ≤ r) : ∃ c : Nat, (if Utf8.valid r then r.toNat else Utf8.runeError) = c ∧ 128 ≤ c := by
  refine ⟨_, rfl, ?_⟩
  split
  · omega
  · decide
theorem enc_size (r : Int) (h0 : 128 ≤ r) : 2 ≤ (Utf8.encode r).size ∧ (Utf8.encode r).size ≤ 4 := by
  obtain ⟨c, hc, h⟩ := enc_code r h0
  unfold Utf8.encode
  simp only [hc]
  rw [if_neg (by omega)]
  split
  · exact ⟨Nat.le_of_ble_eq_true rfl, Nat.le_of_ble_eq_true rfl⟩
  · split <;> exact ⟨Nat.le_of_ble_eq_true rfl, Nat.le_of_ble_eq_true rfl⟩
theorem enc_last (r : Int) (h0 : 128 ≤ r) (b : ByteArray) (hb : b = Utf8.encode r) (h : b.size = 2) : 128 ≤ (b[1]'(by omega)).toNat := by
  obtain ⟨c, hc, hge⟩ := enc_code r h0
  unfold Utf8.encode at hb
  simp only [hc] at hb
  rw [if_neg (by omega)] at hb
  split at hb
  · subst hb
    show 128 ≤ (UInt8.ofNat (0x80 + c % 64)).toNat
    rw [UInt8.toNat_ofNat']
    omega
  · split at hb <;> (subst hb; exact absurd h (by simp [ByteArray.size]))

set_option maxHeartbeats 4000000 in
set_option maxRecDepth 1000000 in
theorem indexRune_crlf (r : Int) (w : World) (h0 : 128 ≤ r) (h1 : r ≤ 1114111) :
    Calls Tryz.prog 150 #[.string ⟨#[13, 10]⟩, .int .i32 r] w fun e w' => e = .returned (.int .i64 (-1)) ∧ Below w.heap.size w w' := by
  by_cases hre : r = 65533
  · subst hre
    have n0 := fun ty => run_next_ascii (P := Tryz.prog) w ⟨#[13, 10]⟩ 0 ty (by decide) (by decide)
    have n1 := fun ty => run_next_ascii (P := Tryz.prog) w ⟨#[13, 10]⟩ 1 ty (by decide) (by decide)
    have n2 := fun ty => run_next_end (P := Tryz.prog) w ⟨#[13, 10]⟩ 2 ty (by decide)
    go_enter Tryz.func150, Tryz.ntmps150
    go_wp2
    refine wp_loop_rounds 3 ?_
    repeat any_goals (rw [rounds_succ]; go_wp2)
    go_ret
    exact ⟨rfl, (Lib.below_iter_ w _ _)⟩
  · have hv : True := trivial
    obtain ⟨s2, s4⟩ := enc_size r h0
    obtain ⟨rs, hrs⟩ : ∃ rs, rs = Utf8.encode r := ⟨_, rfl⟩
    have hlast := enc_last r h0 rs hrs
    have hcv : ∀ w, (convert 21 9 (.int .i32 r)).run Tryz.prog w = .ok (.string rs) w := by
      intro w
      rw [hrs]
      simp [convert, run_underlying Tryz.underlying21, run_underlying Tryz.underlying9, Conv.intToString]
    rw [← hrs] at s2 s4
    have t1 : (r == 65533) = false := by simpa using hre
    clear hre hv hrs
    have hval : Utf8.valid r = true ∨ Utf8.valid r = false := by cases Utf8.valid r <;> simp
    have h23 : rs.size = 2 ∨ rs.size = 3 ∨ rs.size = 4 := by omega
    have HLAST := Lib.hid hlast; clear hlast
    clear s2 s4
    rcases h23 with h2 | h3 | h4
    · have hl := HLAST.out h2
      suffices hS : ∀ s : ByteArray, s.size = 2 → ((s.toList).getD 1 0) = 10 → Calls Tryz.prog 150 #[.string s, .int .i32 r] w fun e w' => e = .returned (.int .i64 (-1)) ∧ Below w.heap.size w w' by
        exact hS ⟨#[13, 10]⟩ rfl (by rw [toList_bl]; rfl)
      intro s hs2 hs1
      have e1 : (s[1]'(by omega)) = 10 := by
        rw [← hs1, toList_bl]; unfold bl; have : 1 < s.data.toList.length := by show 1 < s.size; omega
        simp only [List.getD, List.getElem?_eq_getElem this]; rfl
      have hne : (((s[1]'(by omega)).toNat : Int) == ((rs[1]'(by omega)).toNat : Int)) = false := by
        rw [e1]
        have : ¬ ((10:Int) = ((rs[1]'(by omega)).toNat : Int)) := by omega
        simpa using this
      have hib : Lib.indexByte (s.extract 2 s.size).data.toList ((rs[1]'(by omega)).toNat : Int).toNat.toUInt8 = -1 := by
        have : (s.extract 2 s.size).data.toList = [] := by
          show bl _ = _
          rw [bl_extract]; simp [bl, hs2]
        rw [this]; rfl
      have HS1 := Lib.hid hs1; have HE1 := Lib.hid e1; have HIB := Lib.hid hib; clear hs1 e1 hib hl
      go_enter Tryz.func150, Tryz.ntmps150
      go_wp2
      all_goals try (go_ret; exact ⟨rfl, Below.refl _ _⟩)
      all_goals
        go_step3
        go_wp2
        refine wp_loop_rounds 1 ?_
        rw [rounds_succ]
        go_wp2
        go_step3
        go_wp2
        go_quiet (fail)
        go_wp2
        go_quiet (exact (Tryz.strings_IndexByte ByteArray.empty _ _).mono (fun _ _ h => ⟨h.1, _, h.2⟩))
        have hib : Lib.indexByte ByteArray.empty.data.toList ((rs[1]'(by omega)).toNat : Int).toNat.toUInt8 = -1 := rfl
        rw [hib]
        clear hib
        go_wp2
        rw [Exit.noGoto_ret]
        go_wp2
        rw [Exit.noGoto_ret]
        go_ret
        exact ⟨rfl, below_drewN_ (Below.refl _ _) _⟩
    all_goals
      go_enter Tryz.func150, Tryz.ntmps150
      go_wp2
      all_goals try (go_ret; exact ⟨rfl, Below.refl _ _⟩)
      all_goals
        go_step3
        go_wp2
        refine wp_loop_rounds 1 ?_
        rw [rounds_succ]
        go_wp2
        rw [Exit.noGoto_ret]
        go_ret
        exact ⟨rfl, Below.refl _ _⟩

theorem get_bl (s : ByteArray) (i : Nat) : s.get! i = (bl s).getD i 0 := (Lib.getD_get!' s i).symm
theorem bl_getD_ (s : ByteArray) (i : Nat) (h : i < s.size) : (bl s).getD i 0 = s[i] := by
  have : i < s.data.toList.length := h
  unfold bl
  simp only [List.getD, List.getElem?_eq_getElem this]; rfl
theorem dec_facts (s : ByteArray) (i : Nat) (h : i < s.size) (hb : 128 ≤ (s[i]'h).toNat) : 128 ≤ (Utf8.decode s i).1 ∧ (Utf8.decode s i).1 ≤ 1114111 ∧ 1 ≤ (Utf8.decode s i).2 ∧ i + (Utf8.decode s i).2 ≤ s.size ∧ ∀ j, i ≤ j → j < i + (Utf8.decode s i).2 → 128 ≤ (s.get! j).toNat := by
  rw [Lib.decode_at]
  have e0 : (s.get! i).toNat = (s[i]'h).toNat := by rw [get_bl, bl_getD_ s i h]
  have l0 := (s.get! i).toNat_lt; have l1 := (s.get! (i + 1)).toNat_lt; have l2 := (s.get! (i + 2)).toNat_lt; have l3 := (s.get! (i + 3)).toNat_lt
  rw [← e0] at hb
  rcases Lib.decodeN_shape (s.size - i) (s.get! i).toNat (s.get! (i + 1)).toNat (s.get! (i + 2)).toNat (s.get! (i + 3)).toNat with ⟨h1, _⟩ | ⟨h1, h2, h3, h4, e⟩ | ⟨h1, h2, h3, h4, h5, h6, e⟩ | ⟨h1, h2, h3, h4, h5, h6, h7, e⟩ | e
  · omega
  · rw [e]
    refine ⟨h4, by show _ ≤ _; simp only; omega, by show 1 ≤ 2; omega, by show i + 2 ≤ _; omega, ?_⟩
    intro j hj hj2
    have hj2 : j < i + 2 := hj2
    rcases (by omega : j = i ∨ j = i + 1) with rfl | rfl <;> omega
  · rw [e]
    refine ⟨by show 128 ≤ _; omega, by show _ ≤ _; simp only; omega, by show 1 ≤ 3; omega, by show i + 3 ≤ _; omega, ?_⟩
    intro j hj hj2
    have hj2 : j < i + 3 := hj2
    rcases (by omega : j = i ∨ j = i + 1 ∨ j = i + 2) with rfl | rfl | rfl <;> omega
  · rw [e]
    refine ⟨by show 128 ≤ _; omega, h7, by show 1 ≤ 4; omega, by show i + 4 ≤ _; omega, ?_⟩
    intro j hj hj2
    have hj2 : j < i + 4 := hj2
    rcases (by omega : j = i ∨ j = i + 1 ∨ j = i + 2 ∨ j = i + 3) with rfl | rfl | rfl | rfl <;> omega
  · rw [e]
    refine ⟨by decide, by decide, by decide, by show i + 1 ≤ _; omega, ?_⟩
    intro j hj hj2
    have hj2 : j < i + 1 := hj2
    rcases (by omega : j = i) with rfl; omega

/-! ### ranging over a text, whatever else was made since -/
def iterTo (w : World) (b : Nat) (s : ByteArray) (pos : Nat) : World := { w with heap := w.heap.setIfInBounds b (.stringIter s pos) }
theorem iterTo_at {w : World} {b : Nat} (s : ByteArray) (pos : Nat) (h : b < w.heap.size) : (iterTo w b s pos).heap[b]? = some (.stringIter s pos) := by
  simp [iterTo, h]
theorem iterTo_below {w a : World} {B b : Nat} (s : ByteArray) (pos : Nat) (h : B ≤ b) (hb : Below B a w) : Below B a (iterTo w b s pos) :=
  ⟨hb.os, hb.tape, hb.output, by simp [iterTo]; exact hb.size, fun k hk => by
    rw [← hb.block k hk]; simp only [iterTo]; rw [Array.getElem?_setIfInBounds_ne (by omega)]⟩
theorem run_next_at {P : Program} (w : World) (b : Nat) (s : ByteArray) (pos : Nat) (ty : TypeId) (hb : w.heap[b]? = some (.stringIter s pos)) (h : pos < s.size) :
    (Instr.next (.pointer (some ⟨b, 0, none⟩)) true ty).run P w =
      .ok (.tuple #[.bool true, .int .i64 pos, .int .i32 (Utf8.decode s pos).1]) (iterTo w b s (pos + (Utf8.decode s pos).2)) := by
  simp only [Instr.next, getObj, setObj, Sem.run_bind, Sem.run, hb, Result.andThen, h, if_true]
  simp [goInt, iterTo]
theorem run_next_stop {P : Program} (w : World) (b : Nat) (s : ByteArray) (pos : Nat) (ty : TypeId) (hb : w.heap[b]? = some (.stringIter s pos)) (h : ¬ pos < s.size) :
    (Instr.next (.pointer (some ⟨b, 0, none⟩)) true ty).run P w = .ok (.tuple #[.bool false]) w := by
  simp [Instr.next, getObj, Sem.run, hb, h]

def crlfB (c : UInt8) : Bool := c == 13 || c == 10
theorem crlf_big {c : UInt8} (h : 128 ≤ c.toNat) : crlfB c = false := by
  simp only [crlfB, Bool.or_eq_false_iff, beq_eq_false_iff_ne]
  constructor <;> (intro e; subst e; revert h; decide)
theorem any_false {s : ByteArray} (h : ∀ j, j < s.size → crlfB (s.get! j) = false) : (bl s).any crlfB = false := by
  rw [List.any_eq_false]
  intro c hc
  obtain ⟨j, hj, rfl⟩ := List.mem_iff_getElem.1 hc
  have := h j hj
  rw [get_bl] at this
  simpa [List.getD, hj] using this
theorem any_true {s : ByteArray} {j : Nat} (h : j < s.size) (hc : crlfB (s.get! j) = true) : (bl s).any crlfB = true := by
  rw [List.any_eq_true]
  rw [get_bl, bl_getD_ s j h] at hc
  exact ⟨_, List.getElem_mem (l := bl s) (n := j) h, hc⟩
theorem indexAny_any (l : List UInt8) : decide (0 ≤ Lib.indexAny l [13, 10]) = l.any crlfB := by
  induction l with
  | nil => rfl
  | cons b l ih =>
    have hg := Lib.indexAny_ge [13, 10] l
    rw [List.any_cons, ← ih, Lib.indexAny]
    have hc : ([13, 10] : List UInt8).contains b = crlfB b := by
      show ((b == 13) || ((b == 10) || false)) = _
      rw [Bool.or_false]; rfl
    rw [hc]
    cases crlfB b
    · simp only [Bool.false_or, Bool.false_eq_true, if_false]
      by_cases h : Lib.indexAny l [13, 10] = -1
      · simp [h]
      · have : (Lib.indexAny l [13, 10] == -1) = false := by simpa using h
        rw [this]; simp only [Bool.false_eq_true, if_false]
        rw [decide_eq_decide]; omega
    · simp
theorem indexByte_crlf (c : UInt8) : decide (0 ≤ Lib.indexByte [13, 10] c) = crlfB c := by
  by_cases h1 : c = 13
  · subst h1; decide
  · by_cases h2 : c = 10
    · subst h2; decide
    · have : crlfB c = false := by simp [crlfB, h1, h2]
      rw [this]
      simp [Lib.indexByte, Ne.symm h1, Ne.symm h2]

set_option maxHeartbeats 4000000 in
set_option maxRecDepth 1000000 in
theorem zeroSet : ∀ w, (zeroValue 178).run Tryz.prog w = .ok (.agg (Array.replicate 256 (.bool false))) w := by
  intro w
  exact (zero_of_info (n := 256) (by kernel_rfl)).1 w

theorem indexAny_crlf (s : ByteArray) (w : World) (hs : s.size ≤ 2000000000) :
    Calls Tryz.prog 120 #[.string s, .string ⟨#[13, 10]⟩] w fun e w' => (∃ n : Int, e = .returned (.int .i64 n) ∧ decide (0 ≤ n) = (bl s).any crlfB) ∧ Below w.heap.size w w' := by
  by_cases h8 : 8 < s.size
  · refine (Tryz.strings_IndexAny_long zeroSet s ⟨#[13, 10]⟩ w (by decide) h8 (by omega) (by decide) (ascii_of_all (by decide))).mono ?_
    rintro e w' ⟨rfl, rfl⟩
    refine ⟨⟨_, rfl, ?_⟩, ((Below.refl _ _).alloc (Nat.le_refl _) _).alloc (by simp) _⟩
    exact indexAny_any _
  · have hle : s.size ≤ 8 := by omega
    clear h8 hs
    go_enter Tryz.func120, Tryz.ntmps120
    go_wp2_with (go_at_call 151; refine (Tryz.strings_shouldUseASCIISet _ _).mono ?_; rintro e w ⟨rfl, rfl⟩)
    go_loopw [9, 10] (fun _ _ wr => ∃ k : Nat, k ≤ s.size ∧ wr.heap[w.heap.size]? = some (.stringIter s k) ∧ (∀ j, j < k → crlfB (s.get! j) = false) ∧ Below w.heap.size w wr) (fun _ _ wr => s.size - (match wr.heap[w.heap.size]? with | some (.stringIter _ k) => k | _ => 0))
    case atStart => exact ⟨0, Nat.zero_le _, World.iter_heap _ _ _, fun j h => absurd h (by omega), Lib.below_iter_ _ _ _⟩
    case round =>
      obtain ⟨k, hk, hit, hno, hbw⟩ := hrel
      have HNO := Lib.hid hno; clear hno
      have hz := hbw.size
      have hlt0 := lt_of_blk hit
      by_cases hlt : k < s.size
      · have hn := fun ty => run_next_at (P := Tryz.prog) wr w.heap.size s k ty hit hlt
        have hB := iterTo_at (w := wr) s (k + (Utf8.decode s k).2) hlt0
        have hbw2 := iterTo_below (w := wr) (b := w.heap.size) s (k + (Utf8.decode s k).2) (Nat.le_refl _) hbw
        obtain ⟨w2, hw2⟩ : ∃ w2, w2 = iterTo wr w.heap.size s (k + (Utf8.decode s k).2) := ⟨_, rfl⟩
        rw [← hw2] at hB hbw2
        by_cases hasc : (s[k]'hlt).toNat < 128
        · have hd := decode_ascii s k hlt hasc
          rw [hd] at hn hB hw2
          simp only at hn hB hw2
          simp only [← hw2] at hn
          have hc := indexByte_crlf (s[k]'hlt)
          have hg : s.get! k = s[k]'hlt := by rw [get_bl, bl_getD_ s k hlt]
          rw [← hg] at hc
          have HC := Lib.hid hc; have HG := Lib.hid hg; have HB := Lib.hid hB; clear hc hg hB hd hw2
          go_wp2_with fail
          go_at_call 150
          refine (Tryz.strings_IndexRune_ascii _ _ _ (by omega) (by omega)).mono ?_
          rintro e w2 ⟨rfl, rfl⟩
          have e0 : Lib.indexByte (ByteArray.mk #[13, 10]).data.toList ((s[k]'hlt).toNat : Int).toNat.toUInt8 = Lib.indexByte [13, 10] (s.get! k) := by
            have : ((s[k]'hlt).toNat : Int).toNat.toUInt8 = s[k]'hlt := by simp
            rw [this, HG.out]
          rw [e0]
          generalize Lib.indexByte [13, 10] (s.get! k) = ix at HC
          clear e0
          go_wp2
          · go_ret
            exact ⟨⟨k, rfl, by rw [any_true hlt (by rw [← HC.out]; simpa using (by assumption : 0 ≤ ix))]; simp⟩, hbw2⟩
          · go_roundw
            case rel => exact ⟨k + 1, by omega, HB.out, fun j hj => by
              by_cases h : j < k
              · exact HNO.out j h
              · rw [show j = k by omega, ← HC.out]
                simp only [decide_eq_false_iff_not]; omega, hbw2⟩
            case measure => rw [HB.out, hit]; show s.size - (k + 1) < s.size - k; omega
        · obtain ⟨d1, d2, d3, d4, d5⟩ := dec_facts s k hlt (by omega)
          generalize Utf8.decode s k = d at *
          obtain ⟨r, n⟩ := d
          simp only at *
          have D5 := Lib.hid d5; have HB := Lib.hid hB; clear d5 hB
          simp only [← hw2] at hn
          clear hw2
          go_wp2_with fail
          go_at_call 150
          refine (indexRune_crlf _ _ (by omega) (by omega)).mono ?_
          rintro e w3 ⟨rfl, hb3⟩
          go_wp2
          go_roundw
          case rel => exact ⟨k + n, d4, by rw [hb3.block _ (lt_of_blk HB.out)]; exact HB.out, fun j hj => by
            by_cases h : j < k
            · exact HNO.out j h
            · exact crlf_big (D5.out j (by omega) hj), hbw2.trans (hb3.mono (by have := hbw2.size; omega))⟩
          case measure => rw [hb3.block _ (lt_of_blk HB.out), HB.out, hit]; show s.size - (k + n) < s.size - k; omega
      · have hn := fun ty => run_next_stop (P := Tryz.prog) wr w.heap.size s k ty hit hlt
        go_wp2
        go_ret
        exact ⟨⟨-1, rfl, by rw [any_false (fun j hj => HNO.out j (by omega))]; rfl⟩, hbw⟩

set_option maxHeartbeats 1000000 in
theorem containsAny_crlf (s : ByteArray) (w : World) (hs : s.size ≤ 2000000000) :
    Calls Tryz.prog 72 #[.string s, .string ⟨#[13, 10]⟩] w fun e w' => e = .returned (.bool ((bl s).any crlfB)) ∧ Below w.heap.size w w' := by
  go_enter Tryz.func72, Tryz.ntmps72
  go_wp2_with fail
  go_at_call 120
  refine (indexAny_crlf s w hs).mono ?_
  rintro e w1 ⟨⟨n, rfl, hn⟩, hb⟩
  have HN := Lib.hid hn; clear hn
  go_wp2
  go_ret
  exact ⟨ret_bool HN.out, hb⟩
end Go.Proofs.YtacdkcapejijdaaGreatDoor
