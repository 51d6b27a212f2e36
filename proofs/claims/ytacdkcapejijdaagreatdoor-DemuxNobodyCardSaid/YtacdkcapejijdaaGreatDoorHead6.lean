/- package head: Body. -/
import Derived.Test.YtacdkcapejijdaaGreatDoorHead5
import Derived.Test.YtacdkcapejijdaaGreatDoorReply2
import Derived.BigQuiet
import Derived.Deep.RegionHeld3
import Derived.Deep.DeepCutAuto
namespace Go.Proofs.YtacdkcapejijdaaGreatDoor
open Go.RowKit Clo

set_option maxHeartbeats 1000000 in
theorem body1_any (x l : ByteArray) (X : Nat) (w : World) (hx : w.cell? ⟨X, 0, none⟩ = some (.string l)) :
    Calls Tryz.prog 78 #[.string x, .pointer (some ⟨X, 0, none⟩)] w fun e w' => e = .returned (.bool (!decide (bl x = bl l))) ∧ w' = w := by
  have h := beq_bl x l
  have H := Lib.hid h; clear h
  go_enter Tryz.func78, Tryz.ntmps78
  go_wp2
  all_goals
    go_ret
    refine ⟨ret_bool ?_, rfl⟩
    rw [← H.out]
    try rfl

theorem drop_any {l : List Str} {k : Nat} (h : k < l.length) (p : Str → Bool) : (l.drop k).any p = (p (l.getD k []) || (l.drop (k + 1)).any p) := by
  rw [List.drop_eq_getElem_cons h]
  have hd : l.getD k [] = l[k] := by simp [List.getD, h]
  rw [hd]; rfl

set_option maxHeartbeats 1000000 in
theorem indexFunc_any (v : Value) (ls : List Str) (l : ByteArray) (X : Nat) (w : World) (hv : StrsAt w v ls) (hx : w.cell? ⟨X, 0, none⟩ = some (.string l)) :
    Calls Tryz.prog 121 #[v, .func (.func 78) #[] #[.pointer (some ⟨X, 0, none⟩)]] w fun e w' => (∃ n : Int, e = .returned (.int .i64 n) ∧ decide (0 ≤ n) = ls.any (fun x => decide (x ≠ bl l))) ∧ w' = w := by
  obtain ⟨ad, cap, rfl, hc, hlb, hr⟩ := hv
  obtain ⟨R, hR⟩ : ∃ R, R = ls.any (fun x => decide (x ≠ bl l)) := ⟨_, rfl⟩
  rw [← hR]
  have hent : ∀ args w, (callFunc 78 args).run Tryz.prog w = .ok (.enter 78 args) w := enters_of Tryz.func78 (by kernel_rfl) rfl
  have HR := Lib.hid hR; have HRR := Lib.hid hr; clear hR hr
  have hb1 := fun x => body1_any x l X w hx
  have HB1 := Lib.hid hb1; clear hb1 hx
  go_enter Tryz.func121, Tryz.ntmps121
  go_wp2
  go_loopw [5, 8] (fun _ i wr => ∃ k : Nat, k ≤ ls.length ∧ i = .int .i64 k ∧ R = (ls.drop k).any (fun x => decide (x ≠ bl l)) ∧ wr = w) (fun _ i _ => ls.length - (intOf i).toNat)
  case atStart => exact ⟨0, Nat.zero_le _, rfl, HR.out, rfl⟩
  case round =>
    obtain ⟨k, hk, rfl, hg, rfl⟩ := hrel
    by_cases hlt : k < ls.length
    · rw [drop_any hlt] at hg
      obtain ⟨g, off, rfl, hr2⟩ := HRR.out (by intro h; simp [h] at hlt)
      have c1 := hr2 k hlt
      obtain ⟨n1, e1, b1⟩ := str_of (ls.getD k [])
      rw [e1] at c1
      rw [← b1] at hg
      clear hr2 e1 b1
      have hq := HB1.out n1
      have hqe : (!decide (bl n1 = bl l)) = decide (bl n1 ≠ bl l) := by simp
      rw [hqe] at hq
      generalize decide (bl n1 ≠ bl l) = q at hq hg
      clear hqe
      have HQ := Lib.hid hq; have HG := Lib.hid hg; clear hq hg
      cases q
      all_goals go_wp2_with ((with_reducible refine HQ.out.mono ?_); rintro e w' ⟨rfl, rfl⟩)
      · go_roundw
        case rel => exact ⟨k + 1, by omega, by go_num, by rw [HG.out]; rfl, trivial⟩
        case measure => simp [intOf]; omega
      · go_ret
        exact ⟨⟨k, rfl, by rw [HG.out]; simp⟩, rfl⟩
    · have hg2 : R = false := by rw [hg, List.drop_eq_nil_of_le (by omega)]; rfl
      have HG := Lib.hid hg2; clear hg2 hg
      go_wp2
      go_ret
      exact ⟨⟨-1, rfl, by rw [HG.out]; rfl⟩, rfl⟩

set_option maxHeartbeats 1000000 in
theorem containsFunc_any (v : Value) (ls : List Str) (l : ByteArray) (X : Nat) (w : World) (hv : StrsAt w v ls) (hx : w.cell? ⟨X, 0, none⟩ = some (.string l)) :
    Calls Tryz.prog 77 #[v, .func (.func 78) #[] #[.pointer (some ⟨X, 0, none⟩)]] w fun e w' => e = .returned (.bool (ls.any (fun x => decide (x ≠ bl l)))) ∧ w' = w := by
  have h := indexFunc_any v ls l X w hv hx
  generalize ls.any (fun x => decide (x ≠ bl l)) = R at h
  have H := Lib.hid h; clear h hv hx
  go_enter Tryz.func77, Tryz.ntmps77
  go_wp2_with fail
  refine H.out.mono ?_
  rintro e w1 ⟨⟨n, rfl, hn⟩, rfl⟩
  have HN := Lib.hid hn; clear hn
  go_wp2
  go_ret
  exact ⟨ret_bool HN.out, rfl⟩

theorem decFrom_digits : ∀ (l : Str) (a : Nat), l.all isDigit = true → Lib.decFrom a l = some (l.foldl (fun a c => a * 10 + (c.toNat - 48)) a)
  | [], _, _ => rfl
  | c :: r, a, h => by
    rw [List.all_cons, Bool.and_eq_true] at h
    have hd : Lib.digitVal c = some (c.toNat - 48) := by
      have := h.1
      unfold isDigit at this
      unfold Lib.digitVal
      rw [if_pos (by simpa using this)]
    unfold Lib.decFrom
    rw [hd]
    exact decFrom_digits r _ h.2
theorem atoi_digits (l : Str) (h0 : l ≠ []) (h : l.all isDigit = true) : Lib.atoi l = some (digitsVal l : Int) := by
  cases l with
  | nil => exact absurd rfl h0
  | cons c r =>
    have hc : isDigit c = true := by rw [List.all_cons, Bool.and_eq_true] at h; exact h.1
    have h45 : (c == 45) = false := by
      rw [beq_eq_false_iff_ne]; intro e; subst e; revert hc; decide
    have h43 : (c == 43) = false := by
      rw [beq_eq_false_iff_ne]; intro e; subst e; revert hc; decide
    simp only [Lib.atoi, h45, h43, Bool.false_eq_true, if_false]
    unfold Lib.decNat
    simp only [List.isEmpty_cons, Bool.false_eq_true, if_false]
    rw [decFrom_digits _ _ h]; rfl
theorem digitsVal_le (l : Str) (h : l.all isDigit = true) (hl : l.length ≤ 9) : digitsVal l < 1000000000 := by
  have key : ∀ (l : Str) (a : Nat), l.all isDigit = true → l.foldl (fun a c => a * 10 + (c.toNat - 48)) a < (a + 1) * 10 ^ l.length := by
    intro l
    induction l with
    | nil => intro a _; simp
    | cons c r ih =>
      intro a h
      rw [List.all_cons, Bool.and_eq_true] at h
      have hc : c.toNat - 48 ≤ 9 := by
        have := h.1
        unfold isDigit at this
        simp at this; omega
      have := ih (a * 10 + (c.toNat - 48)) h.2
      rw [List.foldl_cons, List.length_cons, Nat.pow_succ]
      refine Nat.lt_of_lt_of_le this ?_
      rw [Nat.mul_comm (10 ^ r.length) 10, ← Nat.mul_assoc]
      exact Nat.mul_le_mul_right _ (by omega)
  have := key l 0 h
  unfold digitsVal
  refine Nat.lt_of_lt_of_le this ?_
  rw [Nat.zero_add, Nat.one_mul]
  exact Nat.le_trans (Nat.pow_le_pow_right (by decide) hl) (by decide)

theorem bytesWorld_below' (w : World) (e : TypeId) (s : ByteArray) : Below w.heap.size w (Lib.bytesWorld w e s) := Lib.bytesWorld_below w e s
theorem cells4 {w : World} {N : Nat} {a b c d : Value} {T : TypeId} (h : w.heap[N]? = some (.cells #[a, b, c, d] T (0, 0))) :
    w.cell? ⟨N, 0, none⟩ = some a ∧ w.cell? ⟨N, 1, none⟩ = some b ∧ w.cell? ⟨N, 2, none⟩ = some c ∧ w.cell? ⟨N, 3, none⟩ = some d :=
  ⟨by rw [blk_cell h]; rfl, by rw [blk_cell h]; rfl, by rw [blk_cell h]; rfl, by rw [blk_cell h]; rfl⟩

def BodyPost (r : Int × Int × Int) (w : World) (e : Ending) (w' : World) : Prop := e = .returned (.tuple #[.int .i64 r.1, .int .i64 r.2.1, .int .i64 r.2.2]) ∧ Below w.heap.size w w'
def SizesLe (l : List (Str × Str)) (n : Nat) : Prop := ∀ k, k < l.length → (l.getD k ([], [])).1.length ≤ n ∧ (l.getD k ([], [])).2.length ≤ n
theorem values_size {l : List (Str × Str)} {n : Nat} (h : SizesLe l n) (name : Str) : (∀ x ∈ values l name, x.length ≤ n) ∧ (values l name).length ≤ l.length := by
  refine ⟨?_, ?_⟩
  · intro x hx
    unfold values at hx
    rw [List.mem_map] at hx
    obtain ⟨p, hp, rfl⟩ := hx
    have := (List.mem_filter.1 hp).1
    obtain ⟨k, hk, rfl⟩ := List.mem_iff_getElem.1 this
    have := (h k hk).2
    simpa [List.getD, hk] using this
  · unfold values
    rw [List.length_map]
    exact List.length_filter_le _ _

set_option maxHeartbeats 4000000 in
set_option maxRecDepth 100000 in
theorem body_any (m t : ByteArray) (minor : Int) (v : Value) (l : List (Str × Str)) (w : World) (hE : Env w) (hv : PairsAt w v l) (hl : l.length ≤ 32) (hsz : SizesLe l 1073741824) :
    Calls Tryz.prog 46 #[.agg #[.string m, .string t, .int .i64 minor, v]] w (BodyPost (bodyOf ⟨bl m, bl t, minor, l⟩) w) := by
  obtain ⟨R, hR⟩ : ∃ R, R = bodyOf ⟨bl m, bl t, minor, l⟩ := ⟨_, rfl⟩
  rw [← hR]
  unfold bodyOf at hR
  simp only at hR
  have hz1 := values_size hsz clName
  have hz2 := values_size hsz teName
  have e1 : bl ⟨#[99, 111, 110, 116, 101, 110, 116, 45, 108, 101, 110, 103, 116, 104]⟩ = clName := rfl
  have e2 : bl ⟨#[116, 114, 97, 110, 115, 102, 101, 114, 45, 101, 110, 99, 111, 100, 105, 110, 103]⟩ = teName := rfl
  have hvg := fun W name (h : PairsAt W v l) (hn : name.size ≤ 140737488355328) => values_any m t minor v l name W h hn (by omega)
  generalize hls : values l clName = ls at hR hz1
  generalize hcs : values l teName = cs at hR hz2
  have HLS := Lib.hid hls; have HCS := Lib.hid hcs; clear hls hcs
  clear hsz
  have E1 := Lib.hid e1; have E2 := Lib.hid e2; clear e1 e2
  have HR := Lib.hid hR; have HVG := Lib.hid hvg; have HZ1 := Lib.hid hz1; have HZ2 := Lib.hid hz2; have HV := Lib.hid hv; have HE := Lib.hid hE
  clear hR hvg hz1 hz2 hE
  obtain ⟨ad, cap, rfl, hcc, hlb, hr⟩ := hv
  clear hr
  go_enter Tryz.func46, Tryz.ntmps46
  go_upto_region 1 with fail
  obtain ⟨w0, hw0⟩ : ∃ w0, w0 = w.alloc (.cells #[.string m, .string t, .int .i64 minor, .slice ad l.length cap] 33) := ⟨_, rfl⟩
  rw [← hw0]
  have hb0 : Below w.heap.size w w0 := by rw [hw0]; exact (Below.refl _ _).alloc (Nat.le_refl _) _
  have hk0 : w0.heap[w.heap.size]? = some (.cells #[.string m, .string t, .int .i64 minor, .slice ad l.length cap] 33 (0, 0)) := by rw [hw0]; exact heap_alloc_new _ _
  clear hw0
  have hlt0 := lt_of_blk hk0
  have c0 : w0.cell? ⟨w.heap.size, 0, none⟩ = some (.string m) := by rw [blk_cell hk0]; rfl
  have c1 : w0.cell? ⟨w.heap.size, 1, none⟩ = some (.string t) := by rw [blk_cell hk0]; rfl
  have c2 : w0.cell? ⟨w.heap.size, 2, none⟩ = some (.int .i64 minor) := by rw [blk_cell hk0]; rfl
  have c3 : w0.cell? ⟨w.heap.size, 3, none⟩ = some (.slice ad l.length cap) := by rw [blk_cell hk0]; rfl
  have hv0 : PairsAt w0.drew (.slice ad l.length cap) l := (HV.out.below hb0).below (Below.refl _ _).drew
  have HV0 := Lib.hid hv0; have HK0 := Lib.hid hk0; clear hv0 hk0
  go_cut [5, 6] (fun a b wx => ∃ va vb, a = va ∧ b = vb ∧ StrsAt wx va ls ∧ StrsAt wx vb cs ∧ Below w0.heap.size w0 wx)
  case first =>
    go_region_held3 (fun w' => w'.cell? ⟨w.heap.size, 0, none⟩ = some (.string m) ∧ w'.cell? ⟨w.heap.size, 1, none⟩ = some (.string t) ∧ w'.cell? ⟨w.heap.size, 2, none⟩ = some (.int .i64 minor) ∧ w'.cell? ⟨w.heap.size, 3, none⟩ = some (.slice ad l.length cap))
      (first | exact ⟨c0, c1, c2, c3⟩ | exact ⟨ca0, ca1, ca2, ca3⟩ | exact ⟨cb0, cb1, cb2, cb3⟩)
      (first
      | (go_at_call 73; have _h := hba; refine (HVG.out _ _ (HV0.out.below hba) (by decide)).mono ?_; rintro e wb ⟨vb, rfl, hob, hbb⟩; have HKB := Lib.hid ((hbb.block _ (lt_of_blk HKA.out)).trans HKA.out); obtain ⟨cb0, cb1, cb2, cb3⟩ := cells4 HKB.out)
      | (go_at_call 73; refine (HVG.out _ _ HV0.out (by decide)).mono ?_; rintro e wa ⟨va, rfl, hoa, hba⟩; have HKA := Lib.hid ((hba.block _ (by exact hlt0)).trans HK0.out); obtain ⟨ca0, ca1, ca2, ca3⟩ := cells4 HKA.out))
    go_wp2_with fail
    go_meet
    exact ⟨va, vb, rfl, rfl, by rw [← HLS.out, ← E1.out]; exact (hoa.keep hbb).at, by rw [← HCS.out, ← E2.out]; exact hob.at, ((Below.refl w0.heap.size w0).drew.trans hba).trans (hbb.mono hba.size)⟩
  case rest =>
    obtain ⟨va, vb, rfl, rfl, hsa, hsb, hbx⟩ := hcut
    clear c0 c1 c2 c3
    obtain ⟨aa, ca, rfl, q1, q2, hra⟩ := hsa
    obtain ⟨ab, cb, rfl, q3, q4, hrb⟩ := hsb
    have hkx := (hbx.block _ hlt0).trans HK0.out
    obtain ⟨c0, c1, c2, c3⟩ := cells4 hkx
    have HKX := Lib.hid hkx; clear hkx
    have hbw : Below w.heap.size w wc := hb0.trans (hbx.mono hb0.size)
    have HRA := Lib.hid hra; have HRB := Lib.hid hrb; clear hra hrb
    by_cases hC : 0 < cs.length
    · by_cases hL : 0 < ls.length
      · have hx := HR.out
        rw [if_pos ⟨hL, hC⟩] at hx
        have HX := Lib.hid hx; clear hx
        go_wp2_with fail
        go_ret3
        exact ⟨by rw [HX.out]; rfl, hbw⟩
      · have hx := HR.out
        rw [if_neg (fun h => hL h.1), if_pos hC] at hx
        obtain ⟨g, off, rfl, hr2⟩ := HRB.out (by intro h; simp [h] at hC)
        have d0 := hr2 0 hC
        rw [Nat.add_zero] at d0
        have hcs0 : (cs.getD 0 []).length ≤ 1073741824 := HZ2.out.1 _ (by simp [List.getD, hC])
        obtain ⟨n1, e1, b1⟩ := str_of (cs.getD 0 [])
        rw [e1] at d0
        rw [← b1] at hx hcs0
        rw [bl_length] at hcs0
        clear hr2 e1 b1
        have hsm := fun W => small_any n1 W (by omega)
        obtain ⟨n2, e2, b2⟩ := str_of (small (bl n1))
        rw [e2] at hsm
        rw [← b2] at hx
        clear e2 b2
        have HSM := Lib.hid hsm; have HX := Lib.hid hx; clear hsm hx
        by_cases hC1 : 1 < cs.length
        · have hx : R = (0, 0, 400) := by rw [HX.out, if_pos (.inl hC1)]
          have HX2 := Lib.hid hx; clear hx
          go_wp2_with fail
          go_ret3
          exact ⟨by rw [HX2.out]; rfl, hbw⟩
        · by_cases hch : bl n2 = chunkedW
          · have t1 : (n2.toList == [99, 104, 117, 110, 107, 101, 100]) = true := by rw [toList_bl, hch]; rfl
            by_cases hm1 : minor = 1
            · have t2 : (minor != 1) = false := by rw [hm1]; rfl
              have hx : R = (2, 0, 0) := by rw [HX.out, if_neg (by
                intro h
                rcases h with h | h | h
                · exact hC1 h
                · exact h hch
                · exact h hm1)]
              have HX2 := Lib.hid hx; clear hx hm1 hch
              go_wp2_with fail
              refine (HSM.out _).mono ?_
              rintro e w3 ⟨rfl, hb3⟩
              have c2b : w3.cell? ⟨w.heap.size, 2, none⟩ = some (.int .i64 minor) := by rw [hb3.cell (p := ⟨w.heap.size, 2, none⟩) (lt_of_blk HKX.out)]; exact c2
              go_wp2_with fail
              go_ret3
              exact ⟨by rw [HX2.out]; rfl, hbw.trans (hb3.mono hbw.size)⟩
            · have t2 : (minor != 1) = true := by simpa using hm1
              have hx : R = (0, 0, 400) := by rw [HX.out, if_pos (.inr (.inr hm1))]
              have HX2 := Lib.hid hx; clear hx hm1 hch
              go_wp2_with fail
              refine (HSM.out _).mono ?_
              rintro e w3 ⟨rfl, hb3⟩
              have c2b : w3.cell? ⟨w.heap.size, 2, none⟩ = some (.int .i64 minor) := by rw [hb3.cell (p := ⟨w.heap.size, 2, none⟩) (lt_of_blk HKX.out)]; exact c2
              go_wp2_with fail
              go_ret3
              exact ⟨by rw [HX2.out]; rfl, hbw.trans (hb3.mono hbw.size)⟩
          · have t1 : (n2.toList == [99, 104, 117, 110, 107, 101, 100]) = false := by rw [toList_bl]; exact beq_eq_false_iff_ne.2 hch
            have hx : R = (0, 0, 400) := by rw [HX.out, if_pos (.inr (.inl hch))]
            have HX2 := Lib.hid hx; clear hx hch
            go_wp2_with fail
            refine (HSM.out _).mono ?_
            rintro e w3 ⟨rfl, hb3⟩
            go_wp2_with fail
            go_ret3
            exact ⟨by rw [HX2.out]; rfl, hbw.trans (hb3.mono hbw.size)⟩
    · have hC0 : cs.length = 0 := by omega
      by_cases hL : ls.length = 0
      · have hx := HR.out
        rw [if_neg (fun h => hC h.2), if_neg hC, if_pos hL] at hx
        have HX := Lib.hid hx; clear hx
        rw [hC0, hL]
        go_wp2_with fail
        go_ret3
        exact ⟨by rw [HX.out]; rfl, hbw⟩
      · have hx := HR.out
        rw [if_neg (fun h => hC h.2), if_neg hC, if_neg hL] at hx
        have hLp : 0 < ls.length := by omega
        obtain ⟨g, off, rfl, hr2⟩ := HRA.out (by intro h; simp [h] at hL)
        have d0 := hr2 0 hLp
        rw [Nat.add_zero] at d0
        have hSA : StrsAt wc (.slice (some ⟨g, off, none⟩) ls.length ca) ls := ⟨_, _, rfl, q1, q2, fun h => ⟨g, off, rfl, hr2⟩⟩
        obtain ⟨n1, e1, b1⟩ := str_of (ls.getD 0 [])
        rw [e1] at d0
        rw [← b1, bl_length] at hx
        have t0 : ((ls.length : Int) == 0) = false := by rw [beq_eq_false_iff_ne]; omega
        clear hr2 e1 b1 hL
        have HSA := Lib.hid hSA; clear hSA
        have hall := fun W h => all_any n1 _ isDigit W h says_digit
        have hcf := fun W (h1 : StrsAt W (.slice (some ⟨g, off, none⟩) ls.length ca) ls) h2 => containsFunc_any _ ls n1 wc.heap.size W h1 h2
        have hdl := fun h1 h2 => atoi_digits (bl n1) h1 h2
        generalize (bl n1).all isDigit = ok at hx hall hdl
        generalize ls.any (fun x => decide (x ≠ bl n1)) = an at hx hcf
        generalize digitsVal (bl n1) = dv at hx hdl
        have HX := Lib.hid hx; have HALL := Lib.hid hall; have HCF := Lib.hid hcf; have HDL := Lib.hid hdl; clear hx hall hcf hdl
        have hbA : Below w.heap.size w (wc.alloc (.cells #[.string n1] 9)) := hbw.alloc hbw.size _
        by_cases hbad : n1.size < 1 ∨ 9 < n1.size ∨ ok = false ∨ an = true
        · have hx := HX.out
          rw [if_pos hbad] at hx
          have HX2 := Lib.hid hx; clear hx
          have h4 : n1.size < 1 ∨ (1 ≤ n1.size ∧ 9 < n1.size) ∨ (1 ≤ n1.size ∧ n1.size ≤ 9 ∧ ok = false) ∨ (1 ≤ n1.size ∧ n1.size ≤ 9 ∧ ok = true ∧ an = true) := by
            rcases hbad with h | h | h | h
            · exact .inl h
            · exact .inr (.inl ⟨by omega, h⟩)
            · by_cases a : n1.size < 1
              · exact .inl a
              · by_cases b : 9 < n1.size
                · exact .inr (.inl ⟨by omega, b⟩)
                · exact .inr (.inr (.inl ⟨by omega, by omega, h⟩))
            · by_cases a : n1.size < 1
              · exact .inl a
              · by_cases b : 9 < n1.size
                · exact .inr (.inl ⟨by omega, b⟩)
                · cases ok
                  · exact .inr (.inr (.inl ⟨by omega, by omega, rfl⟩))
                  · exact .inr (.inr (.inr ⟨by omega, by omega, rfl, h⟩))
          clear hbad
          rcases h4 with h | ⟨h1, h2⟩ | ⟨h1, h2, rfl⟩ | ⟨h1, h2, rfl, rfl⟩
          all_goals
            go_wp2_with (first | (go_at_call 75; (with_reducible refine (HALL.out _ (by unfold maxLen; omega)).mono ?_); rintro e w' ⟨rfl, rfl⟩) | (go_at_call 77; refine (HCF.out _ (HSA.out.below ((Below.refl _ _).alloc (Nat.le_refl _) _)) (alloc_cell _ _ _ _ _)).mono ?_; rintro e w' ⟨rfl, rfl⟩))
            go_ret3
            exact ⟨by rw [HX2.out]; rfl, hbA⟩
        · have hx := HX.out
          rw [if_neg hbad] at hx
          have HX2 := Lib.hid hx; clear hx
          obtain ⟨h1, h2, rfl, rfl⟩ : 1 ≤ n1.size ∧ n1.size ≤ 9 ∧ ok = true ∧ an = false := by
            refine ⟨?_, ?_, ?_, ?_⟩
            · apply Nat.le_of_not_lt; intro h; exact hbad (.inl (by omega))
            · apply Nat.le_of_not_lt; intro h; exact hbad (.inr (.inl (by omega)))
            · cases ok
              · exact absurd (.inr (.inr (.inl rfl))) hbad
              · rfl
            · cases an
              · rfl
              · exact absurd (.inr (.inr (.inr rfl))) hbad
          have hat := HDL.out (by intro h; rw [← bl_length, h] at h1; exact absurd h1 (by decide)) rfl
          have HAT := Lib.hid hat; clear hat hbad
          have d0A : (wc.alloc (.cells #[.string n1] 9)).cell? ⟨g, off, none⟩ = some (.string n1) := by rw [((Below.refl wc.heap.size wc).alloc (Nat.le_refl _) _).cell (p := ⟨g, off, none⟩) (lt_of_cell d0)]; exact d0
          go_wp2_with (first | (go_at_call 75; (with_reducible refine (HALL.out _ (by unfold maxLen; omega)).mono ?_); rintro e w' ⟨rfl, rfl⟩) | (go_at_call 77; refine (HCF.out _ (HSA.out.below ((Below.refl _ _).alloc (Nat.le_refl _) _)) (alloc_cell _ _ _ _ _)).mono ?_; rintro e w' ⟨rfl, rfl⟩))
          go_at_call 79
          refine (Tryz.strconv_Atoi n1 dv (by omega) HAT.out _).mono ?_
          rintro e w3 ⟨rfl, tt, rfl⟩
          by_cases h16 : 16384 < (dv : Int)
          · have hx := HX2.out
            rw [if_pos h16] at hx
            have HX3 := Lib.hid hx; clear hx
            go_wp2_with fail
            go_ret3
            exact ⟨by rw [HX3.out]; rfl, hbA.trans ((bytesWorld_below' _ _ _).mono hbA.size)⟩
          · have hx := HX2.out
            rw [if_neg h16] at hx
            have HX3 := Lib.hid hx; clear hx
            go_wp2_with fail
            go_ret3
            exact ⟨by rw [HX3.out]; rfl, hbA.trans ((bytesWorld_below' _ _ _).mono hbA.size)⟩
end Go.Proofs.YtacdkcapejijdaaGreatDoor
