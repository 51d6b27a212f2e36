/- package head: Parse. -/
import Derived.Test.YtacdkcapejijdaaGreatDoorHead4
import Derived.Test.YtacdkcapejijdaaGreatDoorAny
namespace Go.Proofs.YtacdkcapejijdaaGreatDoor
open Go.RowKit Clo

def ParsePost (r : Hd × Int × Int) (w : World) (e : Ending) (w' : World) : Prop :=
  ∃ v, e = .returned (.tuple #[.agg #[.string ⟨r.1.method.toArray⟩, .string ⟨r.1.target.toArray⟩, .int .i64 r.1.minor, v], .int .i64 r.2.1, .int .i64 r.2.2]) ∧ OwnPairs w' w.heap.size v r.1.fields ∧ Below w.heap.size w w'

theorem headParse_zero {R : Hd × Int × Int} {n k : Int} (h : R = (Hd.zero, n, k)) {w : World} {e : Ending} {w' : World} (he : e = .returned (.tuple #[.agg #[.string ⟨#[]⟩, .string ⟨#[]⟩, .int .i64 0, .slice none 0 0], .int .i64 n, .int .i64 k])) (hb : Below w.heap.size w w') : ParsePost R w e w' := by
  subst h
  exact ⟨_, he, OwnPairs.nil _ _, hb⟩

def zeroHd : Array Value := #[.string ⟨#[]⟩, .string ⟨#[]⟩, .int .i64 0, .slice none 0 0]
theorem zeroed {w : World} {N : Nat} {a b c d : Value} {T : TypeId} (h : w.heap[N]? = some (.cells #[a, b, c, d] T (0, 0))) :
    ((((w.setCell ⟨N, 0, none⟩ (.string ⟨#[]⟩)).setCell ⟨N, 1, none⟩ (.string ⟨#[]⟩)).setCell ⟨N, 2, none⟩ (.int .i64 0)).setCell ⟨N, 3, none⟩ (.slice none 0 0)).heap[N]? = some (.cells zeroHd T (0, 0)) :=
  heap_set (heap_set (heap_set (heap_set h 0 _) 1 _) 2 _) 3 _
theorem zeroed_below {w0 w : World} {N : Nat} {a b c d : Value} (h : Below N w0 w) : Below N w0 ((((w.setCell ⟨N, 0, none⟩ a).setCell ⟨N, 1, none⟩ b).setCell ⟨N, 2, none⟩ c).setCell ⟨N, 3, none⟩ d) :=
  (((h.setCell (Nat.le_refl _) _).setCell (Nat.le_refl _) _).setCell (Nat.le_refl _) _).setCell (Nat.le_refl _) _

theorem Hd.eta_iff {h : Hd} {a b : Str} : h = ⟨a, b, h.minor, h.fields⟩ ↔ h.method = a ∧ h.target = b := by
  obtain ⟨x, y, z, u⟩ := h
  simp
theorem field_len {n : Nat} {line : Str} (h : (fieldLine n line).1 = 0) : n ≠ 32 := by
  intro e
  unfold fieldLine at h
  rw [if_pos e] at h
  revert h; decide

theorem cut_crlf (l : Str) : (Lib.cut l crlf).1.length ≤ l.length ∧ ((Lib.cut l crlf).2.2 = true → (Lib.cut l crlf).1.length + 2 ≤ l.length ∧ (Lib.cut l crlf).2.1 = l.drop ((Lib.cut l crlf).1.length + 2)) := by
  have hi : Lib.index l crlf = -1 ∨ ∃ i : Nat, Lib.index l crlf = i ∧ i + 2 ≤ l.length := Lib.indexB_cases ⟨l.toArray⟩ ⟨#[13, 10]⟩
  unfold Lib.cut
  rcases hi with h | ⟨i, h, h2⟩
  · rw [h]; simp
  · rw [h, if_pos (by omega)]
    have e2 : crlf.length = 2 := rfl
    have : (l.take i).length = i := by rw [List.length_take]; omega
    refine ⟨?_, fun _ => ⟨?_, ?_⟩⟩
    · show (l.take i).length ≤ _; omega
    · show (l.take i).length + 2 ≤ _; omega
    · show l.drop (i + crlf.length) = l.drop ((l.take i).length + 2)
      rw [this, e2]

def nextOf (w : World) (first : Bool) : Value := if first then .slice (some ⟨w.heap.size + 1, 0, none⟩) 2 2 else .slice (some ⟨w.heap.size + 1, 1, none⟩) 1 1
theorem nextOf_true (w : World) : nextOf w true = .slice (some ⟨w.heap.size + 1, 0, none⟩) 2 2 := rfl
theorem nextOf_false (w : World) : nextOf w false = .slice (some ⟨w.heap.size + 1, 1, none⟩) 1 1 := rfl

theorem results_cell_row3 {P : Program} {fn : Func} {p u v : Tmp} {ty : TypeId} (h : fn.results = #[.cell p ty, .tmp u, .tmp v]) (tmps : Array Value) (w : World) (g : Nat) (t : TypeId) (cs : Array Value) (fr : Nat × Nat) (d : TypeDesc)
    (hp : tmps.getD p undef = .pointer (some ⟨g, 0, none⟩)) (hg : w.heap[g]? = some (.cells cs t fr))
    (hu : P.underlying ty = some d) (hd : (match d with | .struct _ | .array _ _ => true | _ => false) = true) (hi : (P.info? ty).map (·.size) = some cs.size) :
    (results fn tmps).run P w = .ok (.tuple #[.agg cs, tmps.getD u undef, tmps.getD v undef]) w := by
  have hp' : tmps[p]?.getD undef = .pointer (some ⟨g, 0, none⟩) := by simpa using hp
  simp [results, h, hp', asAddr, Result.andThen, run_loadVar_row w g t ty cs fr d hg hu hd hi]

set_option maxHeartbeats 4000000 in
set_option maxRecDepth 100000 in
theorem parse_any (s : ByteArray) (w : World) (hE : Env w) (hs : s.size ≤ 1073741824) :
    Calls Tryz.prog 45 #[.string s] w (ParsePost (headParse (bl s)) w) := by
  obtain ⟨R, hR⟩ : ∃ R, R = headParse (bl s) := ⟨_, rfl⟩
  rw [← hR]
  unfold headParse at hR
  rw [bl_length] at hR
  by_cases hbig : 4096 < s.size
  · rw [if_pos hbig] at hR
    have HR := Lib.hid hR; have HE := Lib.hid hE; clear hR hE
    go_enter Tryz.func45, Tryz.ntmps45
    go_wp2
    refine bodyPost_ret (results_cell_row3 rfl _ _ w.heap.size 33 zeroHd (0, 0) _ rfl ?hb Tryz.underlying33 rfl (by kernel_rfl)) rfl ?_
    case hb => exact heap_alloc_new w _
    exact headParse_zero HR.out rfl ((Below.refl _ _).alloc (Nat.le_refl _) _)
  · rw [if_neg hbig] at hR
    have HR := Lib.hid hR; have HE := Lib.hid hE; clear hR hE
    have hle : s.size ≤ 4096 := by omega
    clear hbig
    go_enter Tryz.func45, Tryz.ntmps45
    go_wp2_with fail
    go_loopw [4, 5] (fun i nx wr => ∃ (fuel k : Nat) (first : Bool) (h : Hd) (m t : ByteArray) (v : Value), i = .int .i64 k ∧ k ≤ s.size ∧ s.size < fuel + k ∧ R = headLoop fuel first h s.size k ((bl s).drop k) ∧
      nx = nextOf w first ∧ h = ⟨bl m, bl t, h.minor, h.fields⟩ ∧ h.fields.length ≤ 32 ∧ wr.heap[w.heap.size]? = some (.cells #[.string m, .string t, .int .i64 h.minor, v] 33 (0, 0)) ∧
      wr.heap[w.heap.size + 1]? = some (.cells #[.func (.func 69) #[] #[], .func (.func 70) #[] #[]] 137 (0, 0)) ∧ OwnPairs wr (w.heap.size + 2) v h.fields ∧ Below w.heap.size w wr) (fun i _ _ => s.size - (intOf i).toNat)
    case atStart =>
      refine ⟨s.size + 1, 0, true, Hd.zero, ⟨#[]⟩, ⟨#[]⟩, .slice none 0 0, rfl, Nat.zero_le _, by omega, by rw [HR.out]; rfl, rfl, rfl, by decide, heap_alloc2_old _ _ _, heap_alloc2_new _ _ _, OwnPairs.nil _ _, ?_⟩
      exact ((Below.refl _ _).alloc (Nat.le_refl _) _).alloc (by simp) _
    case round =>
      obtain ⟨fuel, k, first, h, m, t, v, rfl, hk, hf, hRR, rfl, hh, hlen, hb1, hb2, hown, hbw⟩ := hrel
      have hz := hbw.size
      have hlt1 := lt_of_blk hb2
      obtain ⟨f, rfl⟩ : ∃ f, fuel = f + 1 := ⟨fuel - 1, by omega⟩
      unfold headLoop at hRR
      simp only at hRR
      have hcut := fun W hE => cut_any (s.extract k s.size) ⟨#[13, 10]⟩ W hE (by rw [size_extract]; omega)
      have ec : bl ⟨#[13, 10]⟩ = crlf := rfl
      rw [bl_drop, ec] at hcut
      generalize hc : Lib.cut ((bl s).drop k) crlf = c at hRR hcut
      obtain ⟨x1, x2, ended⟩ := c
      obtain ⟨n1, e1, b1⟩ := str_of x1
      obtain ⟨n2, e2, b2⟩ := str_of x2
      simp only at hRR hcut
      rw [e1, e2] at hcut
      subst b1; subst b2
      clear e1 e2 ec
      have hcc := cut_crlf ((bl s).drop k)
      rw [hc] at hcc
      simp only at hcc
      have hdl : ((bl s).drop k).length = s.size - k := by rw [List.length_drop, bl_length]
      rw [hdl, bl_length] at hcc
      obtain ⟨hcc1, hcc2⟩ := hcc
      have hl1 : n1.size ≤ s.size := by omega
      rw [List.drop_drop] at hcc2
      have hca := fun W => containsAny_crlf n1 W (by omega)
      have eca : (bl n1).any (fun c => c == 13 || c == 10) = (bl n1).any crlfB := rfl
      rw [eca, bl_length] at hRR
      generalize (bl n1).any crlfB = bad at hca hRR
      have c0 : wr.cell? ⟨w.heap.size, 0, none⟩ = some (.string m) := by rw [blk_cell hb1]; rfl
      have c1 : wr.cell? ⟨w.heap.size, 1, none⟩ = some (.string t) := by rw [blk_cell hb1]; rfl
      have c2 : wr.cell? ⟨w.heap.size, 2, none⟩ = some (.int .i64 h.minor) := by rw [blk_cell hb1]; rfl
      have c3 : wr.cell? ⟨w.heap.size, 3, none⟩ = some v := by rw [blk_cell hb1]; rfl
      have HE1 := Lib.hid (HE.out.below hbw)
      have HC := Lib.hid hcut; have HCA := Lib.hid hca; have HR2 := Lib.hid hRR; have HB1 := Lib.hid hb1; have HB2 := Lib.hid hb2; have HOWN := Lib.hid hown; have HH := Lib.hid hh
      clear hcut hca hRR hb1 hb2 hown hh hc hdl eca HR c0 c1 c2 c3
      go_wp2_with fail
      go_at_call 71
      refine (HC.out _ HE1.out).mono ?_
      rintro e w2 ⟨rfl, hb2⟩
      have hk2 := hb2.block w.heap.size (by omega)
      rw [HB1.out] at hk2
      have c0 : w2.cell? ⟨w.heap.size, 0, none⟩ = some (.string m) := by rw [blk_cell hk2]; rfl
      have c1 : w2.cell? ⟨w.heap.size, 1, none⟩ = some (.string t) := by rw [blk_cell hk2]; rfl
      have c2 : w2.cell? ⟨w.heap.size, 2, none⟩ = some (.int .i64 h.minor) := by rw [blk_cell hk2]; rfl
      have c3 : w2.cell? ⟨w.heap.size, 3, none⟩ = some v := by rw [blk_cell hk2]; rfl
      have f0 := blk_free hk2 0
      have f1 := blk_free hk2 1
      have f2 := blk_free hk2 2
      have f3 := blk_free hk2 3
      have hbw2 : Below w.heap.size w w2 := hbw.trans (hb2.mono hz)
      have HK2 := Lib.hid hk2; clear hk2
      by_cases hE1 : 1024 < n1.size
      · have hx : R = (Hd.zero, 431, (k : Int)) := by rw [HR2.out, if_pos hE1]
        have HX := Lib.hid hx; clear hx
        go_wp2
        refine bodyPost_ret (results_cell_row3 rfl _ _ w.heap.size 33 zeroHd (0, 0) _ rfl (zeroed HK2.out) Tryz.underlying33 rfl (by kernel_rfl)) rfl ?_
        exact headParse_zero HX.out rfl (zeroed_below hbw2)
      cases ended
      · have hx : R = (Hd.zero, 400, (k : Int)) := by rw [HR2.out, if_neg hE1, if_pos (.inl rfl)]
        have HX := Lib.hid hx; clear hx
        go_wp2
        refine bodyPost_ret (results_cell_row3 rfl _ _ w.heap.size 33 zeroHd (0, 0) _ rfl (zeroed HK2.out) Tryz.underlying33 rfl (by kernel_rfl)) rfl ?_
        exact headParse_zero HX.out rfl (zeroed_below hbw2)
      obtain ⟨hl2, hn2⟩ := hcc2 rfl
      have HN2 := Lib.hid hn2; clear hn2 hcc2
      clear c0 c1 c2 c3 f0 f1 f2 f3
      go_wp2_with fail
      go_at_call 72
      refine (HCA.out _).mono ?_
      rintro e w3 ⟨rfl, hb3⟩
      have hz2 := hbw2.size
      have hk3 := hb3.block w.heap.size (lt_of_blk HK2.out)
      rw [HK2.out] at hk3
      have c0 : w3.cell? ⟨w.heap.size, 0, none⟩ = some (.string m) := by rw [blk_cell hk3]; rfl
      have c1 : w3.cell? ⟨w.heap.size, 1, none⟩ = some (.string t) := by rw [blk_cell hk3]; rfl
      have c2 : w3.cell? ⟨w.heap.size, 2, none⟩ = some (.int .i64 h.minor) := by rw [blk_cell hk3]; rfl
      have c3 : w3.cell? ⟨w.heap.size, 3, none⟩ = some v := by rw [blk_cell hk3]; rfl
      have f0 := blk_free hk3 0
      have f1 := blk_free hk3 1
      have f2 := blk_free hk3 2
      have f3 := blk_free hk3 3
      have hbw3 : Below w.heap.size w w3 := hbw2.trans (hb3.mono hz2)
      have hr3 : w3.heap[w.heap.size + 1]? = some (.cells #[.func (.func 69) #[] #[], .func (.func 70) #[] #[]] 137 (0, 0)) := by
        rw [hb3.block _ (by have := hb2.size; omega), hb2.block _ hlt1]; exact HB2.out
      have d0 : w3.cell? ⟨w.heap.size + 1, 0, none⟩ = some (.func (.func 69) #[] #[]) := by rw [blk_cell hr3]; rfl
      have d1 : w3.cell? ⟨w.heap.size + 1, 1, none⟩ = some (.func (.func 70) #[] #[]) := by rw [blk_cell hr3]; rfl
      have ho3 : OwnPairs w3 (w.heap.size + 2) v h.fields := (HOWN.out.keep hb2).keep hb3
      have hE3 := HE.out.below hbw3
      have HK3 := Lib.hid hk3; have HR3 := Lib.hid hr3; have HO3 := Lib.hid ho3; have HE3 := Lib.hid hE3; clear hk3 hr3 ho3 hE3
      cases bad
      case true =>
        have hx : R = (Hd.zero, 400, (k : Int)) := by rw [HR2.out, if_neg hE1, if_pos (.inr rfl)]
        have HX := Lib.hid hx; clear hx
        go_wp2
        refine bodyPost_ret (results_cell_row3 rfl _ _ w.heap.size 33 zeroHd (0, 0) _ rfl (zeroed HK3.out) Tryz.underlying33 rfl (by kernel_rfl)) rfl ?_
        exact headParse_zero HX.out rfl (zeroed_below hbw3)
      have hRR := HR2.out
      rw [if_neg hE1, if_neg (by simp)] at hRR
      have HRR := Lib.hid hRR; clear hRR HR2
      cases first
      · rw [nextOf_false]
        by_cases hem : bl n1 = []
        · have hRR := HRR.out
          rw [if_pos ⟨hem, rfl⟩] at hRR
          have e1 : n1.toList.isEmpty = true := by rw [toList_bl, hem]; rfl
          by_cases hrest : bl n2 = []
          · have e2 : n2.toList.isEmpty = true := by rw [toList_bl, hrest]; rfl
            rw [if_neg (by simp [hrest])] at hRR
            have HX := Lib.hid hRR; clear hRR HRR hem hrest
            have hPA := HO3.out.at
            go_wp2_with fail
            refine (values_any m t h.minor v h.fields ⟨#[104, 111, 115, 116]⟩ w3 hPA (by decide) (by omega)).mono ?_
            rintro e w4 ⟨vv, rfl, hos, hb4⟩
            have hz3 := hbw3.size
            have hk4 := hb4.block w.heap.size (lt_of_blk HK3.out)
            rw [HK3.out] at hk4
            clear c0 c1 c2 c3 f0 f1 f2 f3 d0 d1 hPA
            have c0 : w4.cell? ⟨w.heap.size, 0, none⟩ = some (.string m) := by rw [blk_cell hk4]; rfl
            have c1 : w4.cell? ⟨w.heap.size, 1, none⟩ = some (.string t) := by rw [blk_cell hk4]; rfl
            have c2 : w4.cell? ⟨w.heap.size, 2, none⟩ = some (.int .i64 h.minor) := by rw [blk_cell hk4]; rfl
            have c3 : w4.cell? ⟨w.heap.size, 3, none⟩ = some v := by rw [blk_cell hk4]; rfl
            have f0 := blk_free hk4 0
            have f1 := blk_free hk4 1
            have f2 := blk_free hk4 2
            have f3 := blk_free hk4 3
            have hbw4 : Below w.heap.size w w4 := hbw3.trans (hb4.mono hz3)
            have ho4 : OwnPairs w4 (w.heap.size + 2) v h.fields := HO3.out.keep hb4
            have HK4 := Lib.hid hk4; have HO4 := Lib.hid ho4; clear hk4 ho4
            have hx := HX.out
            unfold headEnd at hx
            have evb : bl ⟨#[104, 111, 115, 116]⟩ = host := rfl
            rw [evb] at hos
            obtain ⟨ad, cap, rfl, q1, q2, _⟩ := hos.at
            clear hos evb
            generalize (values h.fields host).length = n at hx q1 q2
            by_cases hc : 1 < n ∨ n = 0 ∧ h.minor = 1
            · rw [if_pos hc] at hx
              have HX2 := Lib.hid hx; clear hx
              have hc2 : (1 < n) ∨ (n = 0 ∧ (h.minor == 1) = true) := by
                rcases hc with hc | ⟨a, b⟩
                · exact .inl hc
                · exact .inr ⟨a, by rw [b]; rfl⟩
              clear hc
              rcases hc2 with hn | ⟨rfl, hm1⟩
              all_goals
                go_wp2
                refine bodyPost_ret (results_cell_row3 rfl _ _ w.heap.size 33 zeroHd (0, 0) _ rfl (zeroed HK4.out) Tryz.underlying33 rfl (by kernel_rfl)) rfl ?_
                exact headParse_zero HX2.out rfl (zeroed_below hbw4)
            · rw [if_neg hc] at hx
              have HX2 := Lib.hid hx; clear hx
              have hc2 : n = 1 ∨ (n = 0 ∧ (h.minor == 1) = false) := by
                by_cases a : n = 0
                · refine .inr ⟨a, ?_⟩
                  rw [beq_eq_false_iff_ne]
                  intro b; exact hc (.inr ⟨a, b⟩)
                · exact .inl (by omega)
              clear hc
              obtain ⟨ao, cp, rfl⟩ := HO4.out.len
              rcases hc2 with rfl | ⟨rfl, hm1⟩
              all_goals
                go_wp2
                refine bodyPost_ret (results_cell_row3 rfl _ _ w.heap.size 33 #[.string m, .string t, .int .i64 h.minor, .slice ao h.fields.length cp] (0, 0) _ rfl (heap_set (heap_set (heap_set (heap_set HK4.out 0 _) 1 _) 2 _) 3 _) Tryz.underlying33 rfl (by kernel_rfl)) rfl ?_
                refine ⟨.slice ao h.fields.length cp, ?_, ?_, zeroed_below hbw4⟩
                · rw [HX2.out]
                  show _ = Ending.returned (.tuple #[.agg #[.string ⟨h.method.toArray⟩, .string ⟨h.target.toArray⟩, .int .i64 h.minor, .slice ao h.fields.length cp], _, _])
                  rw [HH.out]; rfl
                · rw [HX2.out]
                  have hl : w.heap.size < w.heap.size + 2 := by omega
                  exact ((((HO4.out.set (a := ⟨w.heap.size, 0, none⟩) hl _).set (a := ⟨w.heap.size, 1, none⟩) hl _).set (a := ⟨w.heap.size, 2, none⟩) hl _).set (a := ⟨w.heap.size, 3, none⟩) hl _).mono (by omega)
          · have e2 : n2.toList.isEmpty = false := by rw [toList_bl]; simpa using hrest
            rw [if_pos hrest] at hRR
            have HX := Lib.hid hRR; clear hRR HRR hem hrest
            go_wp2
            refine bodyPost_ret (results_cell_row3 rfl _ _ w.heap.size 33 zeroHd (0, 0) _ rfl (zeroed HK3.out) Tryz.underlying33 rfl (by kernel_rfl)) rfl ?_
            exact headParse_zero HX.out rfl (zeroed_below hbw3)
        · have hRR := HRR.out
          rw [if_neg (by simp [hem])] at hRR
          simp only [Bool.false_eq_true, if_false] at hRR
          have e1 : n1.toList.isEmpty = false := by rw [toList_bl]; simpa using hem
          have HX := Lib.hid hRR; clear hRR HRR hem
          go_wp2_with fail
          have hsz3 : w.heap.size + 2 ≤ w3.heap.size := lt_of_blk HR3.out
          refine (field_any w.heap.size (w.heap.size + 2) m t h.minor v h.fields n1 w3 HE3.out HK3.out HO3.out (by omega) hsz3 (by omega) hlen).mono ?_
          rintro e w4 ⟨rfl, v', hk4, ho4, hkp⟩
          have hfl := field_len (n := h.fields.length) (line := bl n1)
          have hx := HX.out
          generalize fieldLine h.fields.length (bl n1) = r at hx hk4 ho4 hfl
          obtain ⟨r1, r2, r3⟩ := r
          simp only at hx hk4 ho4 hfl
          clear c0 c1 c2 c3 f0 f1 f2 f3 d0 d1
          have c0 : w4.cell? ⟨w.heap.size, 0, none⟩ = some (.string m) := by rw [blk_cell hk4]; rfl
          have c1 : w4.cell? ⟨w.heap.size, 1, none⟩ = some (.string t) := by rw [blk_cell hk4]; rfl
          have c2 : w4.cell? ⟨w.heap.size, 2, none⟩ = some (.int .i64 h.minor) := by rw [blk_cell hk4]; rfl
          have c3 : w4.cell? ⟨w.heap.size, 3, none⟩ = some v' := by rw [blk_cell hk4]; rfl
          have f0 := blk_free hk4 0
          have f1 := blk_free hk4 1
          have f2 := blk_free hk4 2
          have f3 := blk_free hk4 3
          have hbw4 : Below w.heap.size w w4 := hbw3.trans (hkp.toBelow hbw3.size (by
            rintro g (rfl | e)
            · exact Nat.le_refl _
            · rcases Nat.lt_or_ge g w.heap.size with x | x
              · exact absurd e (HO3.out.ne (.inl (by omega)))
              · exact x))
          have hr4 : w4.heap[w.heap.size + 1]? = some (.cells #[.func (.func 69) #[] #[], .func (.func 70) #[] #[]] 137 (0, 0)) := by
            rw [hkp.block _ hsz3 (by
              rintro (e | e)
              · omega
              · exact absurd e (HO3.out.ne (.inl (by omega))))]
            exact HR3.out
          have HK4 := Lib.hid hk4; have HO4 := Lib.hid ho4; have HR4 := Lib.hid hr4; have HFL := Lib.hid hfl; clear hk4 ho4 hr4 hfl hkp
          by_cases hr1 : r1 = 0
          · rw [if_neg (by simp [hr1])] at hx
            subst hr1
            have ho5 := HO4.out
            rw [if_pos rfl] at ho5
            have HX2 := Lib.hid hx; have HO5 := Lib.hid ho5; clear hx ho5
            go_wp2
            go_roundw
            case rel =>
              refine ⟨f, k + (bl n1).length + 2, false, { h with fields := h.fields ++ [(r2, r3)] }, m, t, v', ?_, by rw [bl_length]; omega, by rw [bl_length]; omega, ?_, rfl, ?_, ?_, HK4.out, HR4.out, HO5.out, hbw4⟩
              · rw [bl_length]; go_num
              · rw [HX2.out, HN2.out, bl_length]; rfl
              · have := HH.out
                rw [Hd.eta_iff] at this ⊢
                exact this
              · have := HFL.out trivial
                simp; omega
            case measure => simp [intOf]; omega
          · have te : (r1 != 0) = true := by simpa using hr1
            rw [if_pos hr1] at hx
            have HX2 := Lib.hid hx; clear hx hr1
            go_wp2
            refine bodyPost_ret (results_cell_row3 rfl _ _ w.heap.size 33 zeroHd (0, 0) _ rfl (zeroed HK4.out) Tryz.underlying33 rfl (by kernel_rfl)) rfl ?_
            exact headParse_zero HX2.out rfl (zeroed_below hbw4)
      · rw [nextOf_true]
        have hRR := HRR.out
        rw [if_neg (by simp)] at hRR
        simp only [if_true] at hRR
        have HX := Lib.hid hRR; clear hRR HRR
        have em : n1.toList.isEmpty = true ∨ n1.toList.isEmpty = false := by cases n1.toList.isEmpty <;> simp
        rcases em with em | em
        all_goals
          go_wp2_with fail
          have hsz3 : w.heap.size + 2 ≤ w3.heap.size := lt_of_blk HR3.out
          refine (request_any w.heap.size v m t h.minor n1 w3 HE3.out HK3.out (by omega)).mono ?_
          rintro e w4 ⟨rfl, hk4, hkp⟩
          have hx := HX.out
          generalize reqLine (bl n1) = r at hx hk4
          obtain ⟨r1, r2, r3, r4⟩ := r
          simp only at hx hk4
          clear c0 c1 c2 c3 f0 f1 f2 f3 d0 d1
          have hbw4 : Below w.heap.size w w4 := hbw3.trans (hkp.toBelow hbw3.size (by rintro g rfl; exact Nat.le_refl _))
          have hr4 : w4.heap[w.heap.size + 1]? = some (.cells #[.func (.func 69) #[] #[], .func (.func 70) #[] #[]] 137 (0, 0)) := by
            rw [hkp.block _ hsz3 (by intro e; omega)]
            exact HR3.out
          have ho4 : OwnPairs w4 (w.heap.size + 2) v h.fields := HO3.out.kpt hkp (by
            rintro g e rfl
            exact absurd e (HO3.out.ne (.inl (by omega))))
          have HO4 := Lib.hid ho4; have HR4 := Lib.hid hr4; clear ho4 hr4 hkp
          by_cases hr1 : r1 = 0
          · rw [if_neg (by simp [hr1])] at hx
            subst hr1
            rw [if_pos rfl] at hk4
            have HK4 := Lib.hid hk4; clear hk4
            have HX2 := Lib.hid hx; clear hx
            go_wp2
            go_roundw
            case rel =>
              refine ⟨f, k + (bl n1).length + 2, false, { h with method := r2, target := r3, minor := r4 }, _, _, v, ?_, by rw [bl_length]; omega, by rw [bl_length]; omega, ?_, rfl, rfl, hlen, HK4.out, HR4.out, HO4.out, hbw4⟩
              · rw [bl_length]; go_num
              · rw [HX2.out, HN2.out, bl_length]; rfl
            case measure => simp [intOf]; omega
          · have te : (r1 != 0) = true := by simpa using hr1
            rw [if_pos hr1] at hx
            rw [if_neg hr1, HK3.out] at hk4
            have c0 : w4.cell? ⟨w.heap.size, 0, none⟩ = some (.string m) := by rw [blk_cell hk4]; rfl
            have c1 : w4.cell? ⟨w.heap.size, 1, none⟩ = some (.string t) := by rw [blk_cell hk4]; rfl
            have c2 : w4.cell? ⟨w.heap.size, 2, none⟩ = some (.int .i64 h.minor) := by rw [blk_cell hk4]; rfl
            have c3 : w4.cell? ⟨w.heap.size, 3, none⟩ = some v := by rw [blk_cell hk4]; rfl
            have f0 := blk_free hk4 0
            have f1 := blk_free hk4 1
            have f2 := blk_free hk4 2
            have f3 := blk_free hk4 3
            have HK4 := Lib.hid hk4; have HX2 := Lib.hid hx; clear hx hr1 hk4
            go_wp2
            refine bodyPost_ret (results_cell_row3 rfl _ _ w.heap.size 33 zeroHd (0, 0) _ rfl (zeroed HK4.out) Tryz.underlying33 rfl (by kernel_rfl)) rfl ?_
            exact headParse_zero HX2.out rfl (zeroed_below hbw4)
end Go.Proofs.YtacdkcapejijdaaGreatDoor
