/- package uri: Cookies. -/
import Derived.Test.YtacdkcapejijdaaGreatDoorUri3
import Derived.Test.YtacdkcapejijdaaGreatDoorReply1
namespace Go.Proofs.YtacdkcapejijdaaGreatDoor
open Go.RowKit Clo

theorem cut_any (s sep : ByteArray) (w : World) (he : Env w) (hs : s.size < 4294967281) :
    Calls Tryz.prog 71 #[.string s, .string sep] w fun e w' => e = .returned (.tuple #[.string ⟨(Lib.cut (bl s) (bl sep)).1.toArray⟩, .string ⟨(Lib.cut (bl s) (bl sep)).2.1.toArray⟩, .bool (Lib.cut (bl s) (bl sep)).2.2]) ∧ Below w.heap.size w w' := by
  obtain ⟨m, hm⟩ := he.mx
  refine (Tryz.strings_Cut s sep m w hs hm).mono ?_
  rintro e w' ⟨h, n, rfl⟩
  exact ⟨h, below_drewN_ (Below.refl _ _) n⟩

theorem cut_len (s sep : Str) : (Lib.cut s sep).1.length ≤ s.length ∧ (Lib.cut s sep).2.1.length ≤ s.length := by
  unfold Lib.cut
  split
  · simp; omega
  · simp
theorem trim_len (s : Str) : (trim s).length ≤ s.length := by
  unfold trim trimL trimR
  have h1 : ∀ l : Str, (l.dropWhile isBlank).length ≤ l.length := fun l => by
    have := List.takeWhile_append_dropWhile (p := isBlank) (l := l)
    have h2 := congrArg List.length this
    rw [List.length_append] at h2
    omega
  refine Nat.le_trans (h1 _) ?_
  rw [List.length_reverse]
  refine Nat.le_trans (h1 _) ?_
  rw [List.length_reverse]
  exact Nat.le_refl _

/-- What Cookies' closure keeps: out in a block of its own. -/
structure CkSt (w : World) (a : Nat) (out : List (Str × Str)) (W : World) : Prop where
  blk : ∃ v, W.heap[w.heap.size]? = some (.cells #[v] 31 (0, 0)) ∧ OwnPairs W (w.heap.size + 1) v out
  below : Below w.heap.size w W
  len : out.length ≤ a

set_option maxHeartbeats 1000000 in
set_option maxRecDepth 100000 in
theorem cookie_turns (w : World) (hE : Env w) (n : Nat) (hn : n < 4294967281) : Turns 138 #[.pointer (some ⟨w.heap.size, 0, none⟩)] (CkSt w) cookieStep n := by
  refine ⟨enters_of Tryz.func138 (by kernel_rfl) rfl, fun p a out W hR hpn => ?_⟩
  obtain ⟨⟨v, hblk, hown⟩, hbw, hlen⟩ := hR
  obtain ⟨i0, hi, hz0, hz1, hz2⟩ := info_parts Tryz.infoPair
  show Calls Tryz.prog 138 #[.string p, .int .i64 a, .pointer (some ⟨w.heap.size, 0, none⟩)] W _
  have htr := trim_any p W (by omega)
  obtain ⟨st, est, bst⟩ := str_of (trim (bl p))
  rw [est] at htr
  have hst : st.size < 4294967281 := by
    have h1 := trim_len (bl p); rw [← bst, bl_length, bl_length] at h1; omega
  have hcut := fun w1 h => cut_any st ⟨#[61]⟩ w1 h hst
  have ec : Lib.cut (bl st) (bl ⟨#[61]⟩) = Lib.cut (trim (bl p)) eq61 := by rw [bst]; rfl
  rw [ec] at hcut
  have hstep : cookieStep out (bl p) a = if (Lib.cut (trim (bl p)) eq61).2.2 then (out ++ [((Lib.cut (trim (bl p)) eq61).1, (Lib.cut (trim (bl p)) eq61).2.1)], decide (out.length + 1 < 32)) else (out, decide (out.length < 32)) := rfl
  generalize Lib.cut (trim (bl p)) eq61 = c at hcut hstep
  obtain ⟨x1, x2, is⟩ := c
  obtain ⟨n1, e1, b1⟩ := str_of x1
  obtain ⟨n2, e2, b2⟩ := str_of x2
  simp only at hcut hstep
  rw [e1, e2] at hcut
  rw [← b1, ← b2] at hstep
  rw [hstep]
  clear e1 e2 b1 b2 ec bst hstep est
  have HC := Lib.hid hcut; clear hcut
  have HTR := Lib.hid htr; clear htr
  have hltW : w.heap.size < W.heap.size := by
    rcases Nat.lt_or_ge w.heap.size W.heap.size with h' | h'
    · exact h'
    · simp [Array.getElem?_eq_none h'] at hblk
  have HB := Lib.hid hblk; have HO := Lib.hid hown; have HE := Lib.hid (hE.below hbw); clear hblk hown hE
  cases is with
  | true =>
    go_enter Tryz.func138, Tryz.ntmps138
    go_wp2_with (go_at_call 88; refine HTR.out.mono ?_)
    rintro e w1 ⟨rfl, hb1⟩
    have henv1 := HE.out.below hb1
    go_wp2_with (go_at_call 71; refine (HC.out _ henv1).mono ?_)
    rintro e w2 ⟨rfl, hb2⟩
    have hb12 : Below W.heap.size W w2 := hb1.trans (hb2.mono hb1.size)
    have hbk1 : w2.heap[w.heap.size]? = some (.cells #[v] 31 (0, 0)) := by rw [hb12.block _ hltW]; exact HB.out
    have hown1 := HO.out.keep hb12
    have hbw1 : Below w.heap.size w w2 := hbw.trans (hb12.mono hbw.size)
    have hlt1 : w.heap.size < w2.heap.size := by have := hb12.size; omega
    have henv2 := HE.out.below hb12
    have c0 : w2.cell? ⟨w.heap.size, 0, none⟩ = some v := by rw [Lib.cell_of_heap hbk1]; rfl
    have f0 : w2.frozen? ⟨w.heap.size, 0, none⟩ = false := Lib.frozen_of_heap hbk1 0
    have HBK := Lib.hid hbk1; clear hbk1 hb1 hb2 hb12 henv1
    go_wp2_with (at_builtin; refine wpList_append_own _ rfl _ _ 31 rfl (w.heap.size + 1) 90 i0 (.agg #[.string ⟨#[]⟩, .string ⟨#[]⟩]) 2 32 Tryz.underlying31 hi hz0 hz1 hz2 rfl (by decide) _ _ _ rfl (hown1.1.alloc _) ⟨w2.heap.size, 0, none⟩ 1 1 [.string n1, .string n2] rfl rfl ?c1 ?c2 ?c3 ?c4 ?c5 ?_)
    case c1 =>
      intro j u hj
      match j, hj with
      | 0, hj => simp at hj; subst hj; simp [Addr.add]
      | 1, hj => simp at hj; subst hj; simp [Addr.add]
    case c2 => intro u hu; simp at hu; rcases hu with rfl | rfl <;> rfl
    case c3 => unfold maxLen; omega
    case c4 => omega
    case c5 => simp; omega
    intro v' w3 hown' hgrow _
    have hgo : w3.heap[w.heap.size]? = some (.cells #[v] 31 (0, 0)) := by
      rw [hgrow.block _ (by simp; omega) (fun e => by have := (hown1.1.lt _ e.symm).1; omega), Lib.alloc_old w2 _ _ hlt1]
      exact HBK.out
    have d0 : w3.cell? ⟨w.heap.size, 0, none⟩ = some v := by rw [Lib.cell_of_heap hgo]; rfl
    have g0 : w3.frozen? ⟨w.heap.size, 0, none⟩ = false := Lib.frozen_of_heap hgo 0
    have hown2 : OwnPairs w3 (w.heap.size + 1) v' (out ++ [(bl n1, bl n2)]) := ⟨by rw [← pairCs_snoc]; simpa [mk_bl'] using hown', by simp; omega⟩
    obtain ⟨ao, cap, rfl⟩ := hown2.len
    simp only [List.length_append, List.length_cons, List.length_nil, Nat.zero_add] at hown2 hown' hgrow
    have HG := Lib.hid hgo; have HO2 := Lib.hid hown2; clear hgo hown2 hown'
    have hbw3 : Below w.heap.size w w3 := (hbw1.alloc (by omega) _).grown hgrow (by simp; omega) (fun j hj => by have := (hown1.1.lt j hj).1; omega)
    go_wp2
    go_ret
    refine ⟨ret_bool (by rw [Bool.eq_iff_iff]; simp; try omega), ⟨⟨_, heap_set1 HG.out _, HO2.out.set (by simp) _⟩, hbw3.setCell (Nat.le_refl _) _, ?_⟩⟩
    simp; omega
  | false =>
    go_enter Tryz.func138, Tryz.ntmps138
    go_wp2_with (go_at_call 88; refine HTR.out.mono ?_)
    rintro e w1 ⟨rfl, hb1⟩
    have henv1 := HE.out.below hb1
    go_wp2_with (go_at_call 71; refine (HC.out _ henv1).mono ?_)
    rintro e w2 ⟨rfl, hb2⟩
    have hb12 : Below W.heap.size W w2 := hb1.trans (hb2.mono hb1.size)
    have hbk1 : w2.heap[w.heap.size]? = some (.cells #[v] 31 (0, 0)) := by rw [hb12.block _ hltW]; exact HB.out
    have hown1 := HO.out.keep hb12
    have hbw1 : Below w.heap.size w w2 := hbw.trans (hb12.mono hbw.size)
    obtain ⟨ao, cap, rfl⟩ := hown1.len
    have c0 : w2.cell? ⟨w.heap.size, 0, none⟩ = some (.slice ao out.length cap) := by rw [blk_cell hbk1]; rfl
    have HBK := Lib.hid hbk1; have HO1 := Lib.hid hown1; clear hbk1 hb1 hb2 hb12 henv1 hown1
    go_wp2
    go_ret
    exact ⟨ret_bool (by rw [Bool.eq_iff_iff]; simp; try omega), ⟨⟨_, HBK.out, HO1.out⟩, hbw1, by omega⟩⟩
def CookiesPost (r : List (Str × Str)) (w : World) (e : Ending) (w' : World) : Prop := ∃ v, e = .returned v ∧ OwnPairs w' w.heap.size v r ∧ Below w.heap.size w w'

theorem OwnPairs.mono {w : World} {B B' : Nat} {v : Value} {l : List (List UInt8 × List UInt8)} (h : OwnPairs w B v l) (hB : B' ≤ B) : OwnPairs w B' v l := by
  obtain ⟨⟨h1, h2⟩, h3⟩ := h
  refine ⟨⟨h1, ?_⟩, h3⟩
  rcases h2 with h2 | ⟨g, cap, cur, hv, hg, r⟩
  · exact .inl h2
  · exact .inr ⟨g, cap, cur, hv, by omega, r⟩

set_option maxHeartbeats 1000000 in
theorem cookies_any (s : ByteArray) (w : World) (hE : Env w) (hs : s.size < 4294967281) :
    Calls Tryz.prog 91 #[.string s] w (CookiesPost (cookies (bl s)) w) := by
  have h0 : CkSt w 0 [] (w.alloc (.cells #[.slice none 0 0] 31)) := ⟨⟨_, heap_alloc_new w _, OwnPairs.nil _ _⟩, (Below.refl _ _).alloc (Nat.le_refl _) _, by simp⟩
  have hp := parts_any s 59 138 _ (CkSt w) cookieStep [] _ (by omega) (cookie_turns w hE s.size (by omega)) h0
  have HP := Lib.hid hp; clear hp h0
  go_enter Tryz.func91, Tryz.ntmps91
  go_wp2_with (go_at_call 127; refine HP.out.mono ?_)
  rintro e w1 ⟨rfl, a, ha, ⟨v, hblk, hown⟩, hbw, hlen⟩
  have c0 : w1.cell? ⟨w.heap.size, 0, none⟩ = some v := by rw [blk_cell hblk]; rfl
  have HB := Lib.hid hblk; have HO := Lib.hid hown; clear hblk hown
  go_wp2
  go_ret
  exact ⟨_, rfl, HO.out.mono (by omega), hbw⟩
end Go.Proofs.YtacdkcapejijdaaGreatDoor
