/- package head: Closes. -/
import Derived.Test.YtacdkcapejijdaaGreatDoorHead6
import Derived.Lib.SplitLaws
import Derived.Deep.AppendLies
namespace Go.Proofs.YtacdkcapejijdaaGreatDoor
open Go.RowKit Clo

theorem splitK_on (c : UInt8) : ∀ (n : Nat) (l : Str), l.length ≤ n → Lib.splitK [c] 0 (Lib.count l [c]) l = splitOn c l := by
  intro n
  induction n with
  | zero =>
    intro l h
    have : l = [] := List.length_eq_zero_iff.1 (by omega)
    subst this
    rfl
  | succ n ih =>
    intro l h
    by_cases hm : Lib.indexByte l c = -1
    · rw [Lib.count_miss (by rw [Lib.index_one]; exact hm), splitOn_miss c l (by omega)]; rfl
    · have hge := Lib.indexByte_ge l c
      obtain ⟨k, hk⟩ : ∃ k : Nat, Lib.indexByte l c = k := ⟨(Lib.indexByte l c).toNat, by omega⟩
      have hlt := indexByte_lt c l k hk
      rw [Lib.count_hit (by simp) (by rw [Lib.index_one]; exact hk), splitOn_hit c l k hk]
      have := ih (l.drop (k + 1)) (by rw [List.length_drop]; omega)
      rw [← this, Nat.add_comm 1, Lib.splitK, Lib.index_one, hk, if_neg (by simp)]
      rfl
theorem splitOn_len (c : UInt8) : ∀ l : Str, (splitOn c l).length ≤ l.length + 1
  | [] => by simp [splitOn]
  | x :: r => by
    have ih := splitOn_len c r
    unfold splitOn
    split
    · simp; omega
    · split
      · simp
      · rename_i h
        rw [h] at ih
        simp at ih ⊢; omega

theorem splitOn_mem (c : UInt8) : ∀ (l : Str), ∀ x ∈ splitOn c l, x.length ≤ l.length
  | [], x, hx => by simp [splitOn] at hx; subst hx; simp
  | a :: r, x, hx => by
    have ih := splitOn_mem c r
    unfold splitOn at hx
    split at hx
    · rcases List.mem_cons.1 hx with rfl | hx
      · simp
      · have := ih x hx; simp; omega
    · split at hx
      · simp at hx; subst hx; simp
      · rename_i h
        rw [h] at ih
        rcases List.mem_cons.1 hx with rfl | hx
        · have := ih _ (List.mem_cons_self ..); simp; omega
        · have := ih x (List.mem_cons_of_mem _ hx); simp; omega

theorem split_any (s : ByteArray) (w : World) (hE : Env w) (hs : s.size ≤ 1073741824) :
    Calls Tryz.prog 87 #[.string s, .string ⟨#[44]⟩] w fun e w' => e = .returned (.slice (some ⟨w.heap.size, 0, none⟩) (splitOn 44 (bl s)).length (splitOn 44 (bl s)).length) ∧ Below w.heap.size w w' ∧ w'.heap.size = w.heap.size + 1 ∧ w'.heap[w.heap.size]? = some (.cells (strCs (splitOn 44 (bl s))).toArray 9 (0, 0)) := by
  obtain ⟨m, hm⟩ := hE.mx
  have hsp : (Lib.splitB ⟨#[44]⟩ 0 (Lib.countB s ⟨#[44]⟩) s).map bl = splitOn 44 (bl s) := by
    rw [← splitK_on 44 _ (bl s) (Nat.le_refl _)]
    exact Lib.splitB_data ⟨#[44]⟩ 0 (Lib.countB s ⟨#[44]⟩) s
  have hln := Lib.splitB_all ⟨#[44]⟩ (by decide) 0 _ s rfl
  have hln2 : (splitOn 44 (bl s)).length = Lib.countB s ⟨#[44]⟩ + 1 := by rw [← hsp, List.length_map, hln]
  have hcs : strCs (splitOn 44 (bl s)) = (Lib.splitB ⟨#[44]⟩ 0 (Lib.countB s ⟨#[44]⟩) s).map Value.string := by
    rw [← hsp]; unfold strCs; rw [List.map_map]; rfl
  refine (Tryz.strings_Split s ⟨#[44]⟩ m w (by omega) hm (by decide)).mono ?_
  rintro e w' ⟨rfl, rfl⟩
  refine ⟨by rw [hln2], (Below.refl _ _).alloc (Nat.le_refl _) _, by simp, ?_⟩
  rw [hcs]; exact heap_alloc_new _ _

theorem contains_any (v : Value) (l : List Str) (x : ByteArray) (w : World) (hv : StrsAt w v l) :
    Calls Tryz.prog 89 #[v, .string x] w fun e w' => e = .returned (.bool (l.contains (bl x))) ∧ w' = w := by
  obtain ⟨ad, cap, rfl, hc, hb, hr⟩ := hv
  by_cases h : l = []
  · subst h
    exact Tryz.slices_Contains_string_empty ad cap x w
  · obtain ⟨g, off, rfl, hr2⟩ := hr h
    have hcv : ∀ (l : List Str), Lib.containsS (l.map fun s => (⟨s.toArray⟩ : ByteArray)) x = l.contains (bl x) := by
      intro l
      rw [Bool.eq_iff_iff, Lib.containsS_iff, List.contains_iff_mem, List.mem_map]
      constructor
      · rintro ⟨a, ha, rfl⟩; exact ha
      · intro h; exact ⟨bl x, h, rfl⟩
    have := Tryz.slices_Contains_string g off l.length cap (l.map fun s => (⟨s.toArray⟩ : ByteArray)) x w (by simp) (by omega) (by
      intro j hj
      rw [List.length_map] at hj
      rw [hr2 j hj]
      simp [List.getD, hj])
    rw [List.take_of_length_le (by simp), hcv] at this
    exact this

def wordOf (p : Str) : Str := small (trim p)
def wordsOf (v : Str) : List Str := (splitOn 44 v).map wordOf
theorem words_eq (m t : Str) (minor : Int) (l : List (Str × Str)) : words ⟨m, t, minor, l⟩ = ((values l connName).map wordsOf).flatten := rfl
theorem snoc_at {α : Type} (l : List α) (d : α) (k : Nat) (h : k < l.length) : l.take (k + 1) = l.take k ++ [l.getD k d] := by
  rw [List.take_succ_eq_append_getElem h]; simp [List.getD, h]
theorem words_len (l : List Str) (n : Nat) (h : ∀ x ∈ l, x.length ≤ n) : ((l.map wordsOf).flatten).length ≤ l.length * (n + 1) := by
  induction l with
  | nil => simp
  | cons a l ih =>
    have h1 := h a (by simp)
    have h2 := ih fun x hx => h x (by simp [hx])
    have h3 := splitOn_len 44 a
    simp only [List.map_cons, List.flatten_cons, List.length_append, List.length_cons, wordsOf, List.length_map] at h2 ⊢
    rw [Nat.add_one_mul]
    omega
theorem OwnStrs.mono {w : World} {B B' : Nat} {v : Value} {l : List Str} (h : OwnStrs w B v l) (hB : B' ≤ B) : OwnStrs w B' v l := by
  obtain ⟨⟨h1, h2⟩, h3⟩ := h
  refine ⟨⟨h1, ?_⟩, h3⟩
  rcases h2 with h2 | ⟨g, cap, cur, hv, hg, r⟩
  · exact .inl h2
  · exact .inr ⟨g, cap, cur, hv, by omega, r⟩

def ClosesPost (r : Bool) (w : World) (e : Ending) (w' : World) : Prop := e = .returned (.bool r) ∧ Below w.heap.size w w'
set_option maxHeartbeats 4000000 in
set_option maxRecDepth 100000 in
theorem closes_any (m t : ByteArray) (minor : Int) (v : Value) (l : List (Str × Str)) (w : World) (hE : Env w) (hv : PairsAt w v l) (hl : l.length ≤ 32) (hsz : SizesLe l 1073741824) :
    Calls Tryz.prog 49 #[.agg #[.string m, .string t, .int .i64 minor, v]] w (ClosesPost (closes ⟨bl m, bl t, minor, l⟩) w) := by
  obtain ⟨R, hR⟩ : ∃ R, R = closes ⟨bl m, bl t, minor, l⟩ := ⟨_, rfl⟩
  rw [← hR]
  unfold closes at hR
  rw [words_eq] at hR
  simp only at hR
  have hz1 := values_size hsz connName
  have e1 : bl ⟨#[99, 111, 110, 110, 101, 99, 116, 105, 111, 110]⟩ = connName := rfl
  have hvg := fun W (h : PairsAt W v l) => values_any m t minor v l ⟨#[99, 111, 110, 110, 101, 99, 116, 105, 111, 110]⟩ W h (by decide) (by omega)
  rw [e1] at hvg
  generalize values l connName = vs at hR hz1 hvg
  obtain ⟨hz1, hz2⟩ := hz1
  have hvl : vs.length ≤ 32 := by omega
  have hwl := words_len vs _ hz1
  have HR := Lib.hid hR; have HVG := Lib.hid hvg; have HZ1 := Lib.hid hz1; have HV := Lib.hid hv; have HE := Lib.hid hE
  clear hR hvg hz1 hE hz2 e1 hsz
  obtain ⟨i0, hi, hz0, hz1, hz2⟩ := info_parts Tryz.infoString
  obtain ⟨ad, cap, rfl, hcc, hlb, hr⟩ := hv
  clear hr hcc hlb
  go_enter Tryz.func49, Tryz.ntmps49
  go_wp2_with fail
  go_at_call 73
  refine (HVG.out _ (HV.out.below ((Below.refl _ _).alloc (Nat.le_refl _) _))).mono ?_
  rintro e w1 ⟨vv, rfl, hos, hb1⟩
  have hk1 : w1.heap[w.heap.size]? = some (.cells #[.string m, .string t, .int .i64 minor, .slice ad l.length cap] 33 (0, 0)) := by
    rw [hb1.block _ (by simp)]; exact heap_alloc_new _ _
  have hbw1 : Below w.heap.size w w1 := ((Below.refl w.heap.size w).alloc (Nat.le_refl _) _).trans (hb1.mono (by simp))
  have hsa := hos.at
  obtain ⟨av, cv, rfl, q1, q2, hra⟩ := hsa
  have HRA := Lib.hid hra; have HK1 := Lib.hid hk1; clear hra hos hk1 hb1
  go_wp2
  go_loopw [3, 5, 7, 11] (fun o _ _ i wr => ∃ k : Nat, k ≤ vs.length ∧ i = .int .i64 k ∧ OwnStrs wr w1.heap.size o (((vs.take k).map wordsOf).flatten) ∧ Below w1.heap.size w1 wr) (fun _ _ _ i _ => vs.length - (intOf i).toNat)
  case atStart => exact ⟨0, Nat.zero_le _, rfl, OwnStrs.nil _ _, Below.refl _ _⟩
  case round =>
    rename World => wu
    obtain ⟨k, hk, rfl, hown, hbw⟩ := hrel
    have hz := hbw.size
    by_cases hlt : k < vs.length
    · obtain ⟨g, off, rfl, hr2⟩ := HRA.out (by intro h; simp [h] at hlt)
      have c1 := hr2 k hlt
      have hlt0 := lt_of_cell c1
      rw [← hbw.cell (p := ⟨g, off + k, none⟩) hlt0] at c1
      have hsz1 : (vs.getD k []).length ≤ 1073741824 := HZ1.out _ (by simp [List.getD, hlt])
      have htk := snoc_at vs [] k hlt
      obtain ⟨n1, e1, b1⟩ := str_of (vs.getD k [])
      rw [e1] at c1
      rw [← b1] at hsz1 htk
      rw [bl_length] at hsz1
      clear hr2 e1 b1
      have HTK := Lib.hid htk; have HOWN := Lib.hid hown; clear htk hown
      have hEr := HE.out.below (hbw1.trans (hbw.mono hbw1.size))
      have HER := Lib.hid hEr; clear hEr
      go_wp2_with fail
      go_at_call 87
      refine (split_any n1 _ HER.out hsz1).mono ?_
      rintro e w2 ⟨rfl, hb2, hs2, hk2⟩
      have hpl := splitOn_len 44 (bl n1)
      rw [bl_length] at hpl
      have hwk : wordsOf (bl n1) = (splitOn 44 (bl n1)).map wordOf := rfl
      have hps : ∀ x ∈ splitOn 44 (bl n1), x.length ≤ 1073741824 := fun x hx => Nat.le_trans (splitOn_mem 44 _ x hx) (by rw [bl_length]; exact hsz1)
      generalize splitOn 44 (bl n1) = ps at hk2 hpl hwk hps
      have HWK := Lib.hid hwk; have HPS := Lib.hid hps; have HK2 := Lib.hid hk2; clear hwk hps hk2
      have hbw2 : Below w1.heap.size w1 w2 := hbw.trans (hb2.mono hz)
      have hown2 := HOWN.out.keep hb2
      have hne2 : ∀ (v : Value), OwnStrs wu w1.heap.size v (((vs.take k).map wordsOf).flatten) → v.ownBlock ≠ some wu.heap.size := fun v h e => by
        have := h.1.lt _ e; omega
      go_wp2
      go_loopw [3, 7, 18] (fun o _ i wq => ∃ j : Nat, j ≤ ps.length ∧ i = .int .i64 j ∧ OwnStrs wq w1.heap.size o (((vs.take k).map wordsOf).flatten ++ (ps.take j).map wordOf) ∧ o.ownBlock ≠ some wu.heap.size ∧ wq.heap[wu.heap.size]? = some (.cells (strCs ps).toArray 9 (0, 0)) ∧ Below w1.heap.size w1 wq) (fun _ _ i _ => ps.length - (intOf i).toNat)
      case atStart => exact ⟨0, Nat.zero_le _, rfl, by simpa using hown2, hne2 _ HOWN.out, HK2.out, hbw2⟩
      case round =>
        obtain ⟨j, hj, rfl, hownq, hneq, hkq, hbq⟩ := hrel
        have hzq := hbq.size
        by_cases hlj : j < ps.length
        · have c2 : wr.cell? ⟨wu.heap.size, j, none⟩ = some (.string ⟨(ps.getD j []).toArray⟩) := by
            rw [blk_cell hkq]; simp [strCs, List.getD, hlj]
          have hp1 : (ps.getD j []).length ≤ 1073741824 := HPS.out _ (by simp [List.getD, hlj])
          have htj := snoc_at ps [] j hlj
          obtain ⟨n2, e2, b2⟩ := str_of (ps.getD j [])
          rw [e2] at c2
          rw [← b2] at hp1 htj
          rw [bl_length] at hp1
          clear e2 b2
          have htr := fun W => trim_any n2 W (by omega)
          have htl := trim_len (bl n2)
          have hwd : wordOf (bl n2) = small (trim (bl n2)) := rfl
          generalize trim (bl n2) = tm at htr htl hwd
          obtain ⟨n3, e3, b3⟩ := str_of tm
          rw [e3] at htr
          rw [← b3] at hwd htl
          rw [bl_length, bl_length] at htl
          clear e3 b3
          have hsm := fun W => small_any n3 W (by omega)
          obtain ⟨n4, e4, b4⟩ := str_of (small (bl n3))
          rw [e4] at hsm
          rw [← b4] at hwd
          clear e4 b4
          have HTJ := Lib.hid htj; have HTR := Lib.hid htr; have HSM := Lib.hid hsm; have HWD := Lib.hid hwd; have HOQ := Lib.hid hownq; have HKQ := Lib.hid hkq; have HNE := Lib.hid hneq
          clear htj htr hsm hwd hownq hkq hneq
          go_wp2_with fail
          go_at_call 88
          refine (HTR.out _).mono ?_
          rintro e w4 ⟨rfl, hb4⟩
          go_wp2_with fail
          go_at_call 74
          refine (HSM.out _).mono ?_
          rintro e w5 ⟨rfl, hb5⟩
          have hb45 : Below wr.heap.size wr w5 := hb4.trans (hb5.mono hb4.size)
          have hown5 := HOQ.out.keep hb45
          have hl5 := hown5.2
          have hlen5 : (((vs.take k).map wordsOf).flatten ++ (ps.take j).map wordOf).length ≤ 100000000000 := by
            have hw := words_len (vs.take k) 1073741824 (fun x hx => HZ1.out x (List.mem_of_mem_take hx))
            rw [List.length_append, List.length_map, List.length_take]
            rw [List.length_take] at hw
            have : min k vs.length * (1073741824 + 1) ≤ 32 * (1073741824 + 1) := Nat.mul_le_mul_right _ (by omega)
            omega
          have hz5 := hb45.size
          have hDn : ((vs.take k).map wordsOf).flatten ++ (ps.take (j + 1)).map wordOf = (((vs.take k).map wordsOf).flatten ++ (ps.take j).map wordOf) ++ [bl n4] := by
            rw [HTJ.out, List.map_append, ← List.append_assoc, HWD.out.symm]; rfl
          generalize ((vs.take k).map wordsOf).flatten ++ (ps.take j).map wordOf = D at HOQ hown5 hl5 hlen5 hDn
          have HDN := Lib.hid hDn; clear hDn
          go_wp2_with (at_builtin; go_loud (refine wpList_append_lies _ rfl _ _ 22 rfl w1.heap.size 9 i0 (.string ⟨#[]⟩) 1 16 Tryz.underlying22 hi hz0 hz1 hz2 rfl (by decide) _ _ _ rfl (hown5.1.alloc _) ⟨w5.heap.size, 0, none⟩ 1 1 [.string n4] rfl rfl ?c1 ?c2 (by decide) ?c3 ?c4 ?c5 (w5.heap.size + 1) ?c6 ?_))
          case c1 => intro j u hj; match j, hj with | 0, hj => simp at hj; subst hj; simp [Addr.add]
          case c2 => intro u hu; simp at hu; subst hu; rfl
          case c3 => unfold maxLen; omega
          case c4 => omega
          case c5 => simp; omega
          case c6 => simp
          intro gg cap6 w6 hown' hgrow hlies hg6
          go_wp2
          go_roundw
          case rel =>
            refine ⟨j + 1, by omega, by go_num, ⟨?_, ?_⟩, ?_, ?_, ?_⟩
            · rw [HDN.out]; simpa [strCs, mk_bl'] using hown'
            · rw [HDN.out]; simp; omega
            · intro e
              have e2 : gg = wu.heap.size := by simpa [Value.ownBlock] using e
              rcases hlies with h | h
              · exact HNE.out (by rw [h, e2])
              · have := lt_of_blk HKQ.out; omega
            · rw [hgrow.block _ (by simp; have := lt_of_blk HKQ.out; omega) (fun e => HNE.out e.symm), Lib.alloc_old _ _ _ (by have := lt_of_blk HKQ.out; omega), hb45.block _ (lt_of_blk HKQ.out)]
              exact HKQ.out
            · exact ((hbq.trans (hb45.mono hzq)).alloc (by omega) _).grown hgrow (by simp; omega) (fun j hj => (hown5.1.lt j hj).1)
          case measure => simp [intOf]; omega
        · have hD : ((vs.take k).map wordsOf).flatten ++ (ps.take j).map wordOf = ((vs.take (k + 1)).map wordsOf).flatten := by
            rw [List.take_of_length_le (l := ps) (by omega), HTK.out, List.map_append, List.flatten_append, List.map_singleton, HWK.out]; simp
          rw [hD] at hownq
          have HOQ := Lib.hid hownq; have HKQ := Lib.hid hkq; clear hownq hkq hD hneq
          go_wp2
          go_roundw
          case rel => exact ⟨k + 1, by omega, by go_num, HOQ.out, hbq⟩
          case measure => simp [intOf]; omega
    · have hD : vs.take k = vs := List.take_of_length_le (by omega)
      rw [hD] at hown
      have hbx : Below w.heap.size w wu := hbw1.trans (hbw.mono hbw1.size)
      have hkr : wu.heap[w.heap.size]? = some (.cells #[.string m, .string t, .int .i64 minor, .slice ad l.length cap] 33 (0, 0)) := by
        rw [hbw.block _ (lt_of_blk HK1.out)]; exact HK1.out
      have c2 : wu.cell? ⟨w.heap.size, 2, none⟩ = some (.int .i64 minor) := by rw [blk_cell hkr]; rfl
      have hx := HR.out
      generalize (vs.map wordsOf).flatten = D at hown hx
      have hst := hown.at
      obtain ⟨ao, cao, rfl, q5, q6, q7⟩ := hst
      have hst : StrsAt wu (.slice ao D.length cao) D := ⟨ao, cao, rfl, q5, q6, q7⟩
      have hcA := contains_any _ D ⟨#[99, 108, 111, 115, 101]⟩ wu hst
      have hcB := contains_any _ D ⟨#[107, 101, 101, 112, 45, 97, 108, 105, 118, 101]⟩ wu hst
      have eA : bl ⟨#[99, 108, 111, 115, 101]⟩ = closeW := rfl
      have eB : bl ⟨#[107, 101, 101, 112, 45, 97, 108, 105, 118, 101]⟩ = keepW := rfl
      rw [eA] at hcA; rw [eB] at hcB
      generalize D.contains closeW = kA at hcA hx
      generalize D.contains keepW = kB at hcB hx
      have HX := Lib.hid hx; have HCA := Lib.hid hcA; have HCB := Lib.hid hcB; clear hx hcA hcB hst hown hkr eA eB hD q7
      have hm0 : (minor == 0) = true ∨ (minor == 0) = false := by cases minor == 0 <;> simp
      have hmd : decide (minor = 0) = (minor == 0) := rfl
      have HMD := Lib.hid hmd; clear hmd
      cases kA <;> rcases hm0 with h0 | h0 <;> cases kB
      all_goals
        go_wp2_with (first | ((with_reducible refine HCA.out.mono ?_); rintro e w' ⟨rfl, rfl⟩) | ((with_reducible refine HCB.out.mono ?_); rintro e w' ⟨rfl, rfl⟩))
        go_ret
        exact ⟨ret_bool (by rw [HX.out, HMD.out, h0]; rfl), hbx⟩
end Go.Proofs.YtacdkcapejijdaaGreatDoor
