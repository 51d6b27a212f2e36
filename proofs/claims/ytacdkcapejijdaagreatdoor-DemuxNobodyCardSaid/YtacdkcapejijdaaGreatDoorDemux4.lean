/- package demux: New, Arrive. -/
import Derived.Test.YtacdkcapejijdaaGreatDoorDemux3
import Derived.Deep.DeepCutAuto
namespace Go.Proofs.YtacdkcapejijdaaGreatDoor
open Go.RowKit Go.Maps Go.WideMaps Clo

theorem DmAt.addC {w w' : World} {D : Nat} {G : Gh} {d : Dm} {i : Int} {B : CnB} {c : Cn} (h : DmAt w D G d) (hi : G.cs i = none) (hC : isC i = true) (hk : Kpt (fun k => k = G.ml) w w')
    (hl : w'.ownsMap Tryz.prog 3 ptrR G.ml (G.n + 1) (G.dl.put (.int .i64 i) (ptrD (some B.cb)))) {z : Nat} (hz : ∀ k t, G.tag k = some t → k < z) (hcb : z ≤ B.cb ∧ B.cb < w'.heap.size) (hpb : z ≤ B.pb ∧ B.pb < w'.heap.size)
    (hne : B.cb ≠ B.pb) (hans : B.ans = none) (hc : CnAt w' B c) (hok : CnOk c) : ∃ G', DmAt w' D G' (d.set i c) ∧ G'.cs i = some B ∧ (∀ k, G'.tag k ≠ none → G.tag k ≠ none ∨ z ≤ k) ∧ G'.n ≤ G.n + 1 := by
  obtain ⟨tg, htg⟩ : ∃ tg : Nat → Option Tag, tg = fun k => if k = B.cb then some (.cn i) else if k = B.pb then some (.ps i) else G.tag k := ⟨_, rfl⟩
  have told : ∀ k t, G.tag k = some t → tg k = some t := fun k t hkt => by
    have := hz k t hkt
    rw [htg]; simp only
    rw [if_neg (by omega), if_neg (by omega)]; exact hkt
  have hblk : ∀ k t, G.tag k = some t → t ≠ .ml → w'.heap[k]? = w.heap[k]? := fun k t hkt h1 => hk.block k (h.tb k t hkt).2 fun hx => by
    subst hx; rw [h.tml] at hkt; exact h1 (Option.some.inj hkt).symm
  have hD := h.tb _ _ h.tD
  have hDz := hz _ _ h.tD
  refine ⟨{ G with n := G.n + 1, dl := G.dl.put (.int .i64 i) (ptrD (some B.cb)), cs := upd G.cs i (some B), tag := tg }, ?_, upd_same _ _ _, ?_, Nat.le_refl _⟩
  · refine ⟨(hblk _ _ h.tD (by simp)).trans h.cell, h.pos, hl, (ownsMap_block h.s (hblk _ _ h.tms (by simp))).mono (Nat.le_succ _), ?_, ?_, ?_, ?_, h.sk, told _ _ h.tD, told _ _ h.tml, told _ _ h.tms, ?_, ?_⟩
    · intro j z
      simp only [upd]
      by_cases he : j = i
      · rw [if_pos he]
        subst he
        exact atKey_put_same h.l.isMap (show WideAt.IsKeyLit (.int .i64 j) from trivial) _ _
      · rw [if_neg he]
        rw [atKey_put_other (fun e => he (by injection e))]
        exact h.lk j z
    · intro j Bj hj
      simp only [upd] at hj
      split at hj
      · rename_i he; subst he; exact hC
      · exact h.in64 _ _ hj
    · intro j Bj hj
      simp only [upd] at hj
      simp only [Dm.set, upd]
      split at hj
      · rename_i he
        rw [if_pos he]
        cases hj
        exact ⟨c, rfl, hc, hok⟩
      · rename_i he
        rw [if_neg he]
        obtain ⟨c, h1, h2, h3⟩ := h.some_ j Bj hj
        obtain ⟨t1, t2, t3⟩ := h.tcb j Bj hj
        exact ⟨c, h1, h2.kept (hblk _ _ t1 (by simp)) (hblk _ _ t2 (by simp))
          fun b v hv => ⟨hblk _ _ (t3 b v hv).1 (by simp), fun g hg => hblk _ _ ((t3 b v hv).2 g hg) (by simp)⟩, h3⟩
    · intro j hj
      simp only [upd] at hj
      simp only [Dm.set, upd]
      split at hj
      · cases hj
      · rename_i he
        rw [if_neg he]
        exact h.none_ j hj
    · intro j Bj hj
      simp only [upd] at hj
      split at hj
      · rename_i he
        subst he
        cases hj
        refine ⟨by simp [htg], ?_, fun a v hv => by rw [hans] at hv; cases hv⟩
        simp only [htg]
        rw [if_neg hne.symm]; simp
      · obtain ⟨t1, t2, t3⟩ := h.tcb j Bj hj
        exact ⟨told _ _ t1, told _ _ t2, fun a v hv => ⟨told _ _ (t3 a v hv).1, fun g hg => told _ _ ((t3 a v hv).2 g hg)⟩⟩
    · intro k t hkt
      simp only [htg] at hkt
      split at hkt
      · rename_i he; subst he; exact ⟨by omega, hcb.2⟩
      · split at hkt
        · rename_i he; subst he; exact ⟨by omega, hpb.2⟩
        · have := h.tb k t hkt
          have := hk.size
          exact ⟨by omega, by omega⟩
  · intro k hkt
    simp only [htg] at hkt
    split at hkt
    · rename_i he; subst he; exact .inr hcb.1
    · split at hkt
      · rename_i he; subst he; exact .inr hpb.1
      · exact .inl hkt

def NewPost (d : Dm) (w : World) (e : Ending) (w' : World) : Prop :=
  e = .returned (.tuple #[.pointer (some ⟨w.heap.size + 2, 0, none⟩), .int .i64 0]) ∧ Below w.heap.size w w' ∧ ∃ G, DmAt w' (w.heap.size + 2) G d ∧ G.n = 0 ∧ ∀ k, G.tag k ≠ none → w.heap.size ≤ k
set_option maxHeartbeats 2000000 in
set_option maxRecDepth 100000 in
theorem newBad_any (a b c : Int) (w : World) (h : a < 1 ∨ 16 < a ∨ b < 1 ∨ 64 < b ∨ c < 1 ∨ 64 < c) :
    Calls Tryz.prog 7 #[.int .i64 a, .int .i64 b, .int .i64 c] w fun e w' => e = .returned (.tuple #[.pointer none, .int .i64 1]) ∧ w' = w := by
  by_cases h1 : a < 1
  · clear h
    go_enter Tryz.func7, Tryz.ntmps7
    go_wp2
    go_ret2
    exact ⟨rfl, rfl⟩
  by_cases h2 : 16 < a
  · clear h
    go_enter Tryz.func7, Tryz.ntmps7
    go_wp2
    go_ret2
    exact ⟨rfl, rfl⟩
  by_cases h3 : b < 1
  · clear h
    go_enter Tryz.func7, Tryz.ntmps7
    go_wp2
    go_ret2
    exact ⟨rfl, rfl⟩
  by_cases h4 : 64 < b
  · clear h
    go_enter Tryz.func7, Tryz.ntmps7
    go_wp2
    go_ret2
    exact ⟨rfl, rfl⟩
  by_cases h5 : c < 1
  · clear h
    go_enter Tryz.func7, Tryz.ntmps7
    go_wp2
    go_ret2
    exact ⟨rfl, rfl⟩
  have h6 : 64 < c := by omega
  clear h
  go_enter Tryz.func7, Tryz.ntmps7
  go_wp2
  go_ret2
  exact ⟨rfl, rfl⟩

def Gh0 (k : Nat) : Gh := ⟨k, k + 1, 0, .map [], .map [], fun _ => none, fun j => if j = k then some .ml else if j = k + 1 then some .ms else if j = k + 2 then some .dm else none⟩
theorem new_at {a b c : Int} {w w' : World} (hE : Env w) (ha : 1 ≤ a ∧ a ≤ 16) (h0 : w'.heap[w.heap.size]? = some (.map #[] 0)) (h1 : w'.heap[w.heap.size + 1]? = some (.map #[] 0))
    (h2 : w'.heap[w.heap.size + 2]? = some (.cells #[.int .i64 a, .int .i64 b, .int .i64 c, .map (some w.heap.size), .map (some (w.heap.size + 1))] 69 (0, 0))) :
    DmAt w' (w.heap.size + 2) (Gh0 w.heap.size) (dmNew a b c) := by
  have hs := lt_of_blk h2
  have hz := hE.size
  have g : ∀ {P : Program} {k : TypeId} {R : Value → Option (DU × List MemPlace)} {j : Nat}, w'.heap[j]? = some (.map #[] 0) → w'.ownsMap P k R j 0 (.map []) := fun h => ⟨#[], 0, h, ⟨by simp, MapKept.stamped_empty 0, by simp⟩, Nat.le_refl _, rfl⟩
  refine ⟨h2, ⟨show 0 < a by omega, ha.2⟩, g h0, g h1, fun i z => rfl, fun i B hi => (by cases hi), fun i B hi => (by cases hi), fun i _ => rfl, fun t => ⟨rfl, rfl⟩, ?_, ?_, ?_, fun i B hi => (by cases hi), ?_⟩
  · simp [Gh0]
  · simp [Gh0]
  · simp [Gh0]
  · intro k t hk
    simp only [Gh0] at hk
    split at hk
    · omega
    · split at hk
      · omega
      · split at hk
        · omega
        · cases hk
set_option maxHeartbeats 2000000 in
set_option maxRecDepth 100000 in
theorem newOk_any (a b c : Int) (w : World) (hE : Env w) (ha : 1 ≤ a ∧ a ≤ 16) (hb : 1 ≤ b ∧ b ≤ 64) (hc : 1 ≤ c ∧ c ≤ 64) :
    Calls Tryz.prog 7 #[.int .i64 a, .int .i64 b, .int .i64 c] w (NewPost (dmNew a b c) w) := by
  obtain ⟨a1, a2⟩ := ha; obtain ⟨b1, b2⟩ := hb; obtain ⟨c1, c2⟩ := hc
  have hmm := @run_makeMap Tryz.prog
  have HE := Lib.hid hE; clear hE
  go_enter Tryz.func7, Tryz.ntmps7
  go_wp2
  go_ret2
  have hz : ∀ (w : World) (o : Obj), (w.alloc o).heap.size = w.heap.size + 1 := fun w o => by simp
  refine ⟨rfl, ((((Below.refl _ _).alloc (Nat.le_refl _) _).alloc (by simp) _).alloc (by simp; omega) _), _, new_at HE.out ⟨a1, a2⟩ ?_ ?_ ?_, rfl, fun k hk => ?_⟩
  · rw [Lib.alloc_old _ _ _ (by simp; omega), Lib.alloc_old _ _ _ (by simp), alloc_at _ _ _ rfl]
  · rw [Lib.alloc_old _ _ _ (by simp), alloc_at _ _ _ (by simp)]
  · exact alloc_at _ _ _ (by simp)
  · simp only [Gh0] at hk
    split at hk
    · omega
    · split at hk
      · omega
      · split at hk
        · omega
        · exact absurd rfl hk

theorem Dm.set_self {d : Dm} {i : Int} {c : Cn} (h : d.c i = some c) : d.set i c = d := by
  unfold Dm.set
  have : upd d.c i (some c) = d.c := by
    funext x
    unfold upd
    split
    · rename_i e; rw [e]; exact h.symm
    · rfl
  rw [this]
theorem upd_upd {α β : Type} [DecidableEq α] (f : α → β) (a : α) (b b' : β) : upd (upd f a b) a b' = upd f a b' := by
  funext x
  unfold upd
  split <;> rfl
theorem Dm.set_set (d : Dm) (i : Int) (c c' : Cn) : (d.set i c).set i c' = d.set i c' := by
  unfold Dm.set
  simp only [upd_upd]
theorem Grow.trans {w w1 w2 : World} {G G1 G2 : Gh} {m n : Nat} (h : Grow w w1 G G1 m) (k : Grow w1 w2 G1 G2 n) : Grow w w2 G G2 (m + n) := by
  refine ⟨⟨k.kpt.os.trans h.kpt.os, k.kpt.tape.trans h.kpt.tape, k.kpt.output.trans h.kpt.output, Nat.le_trans h.kpt.size k.kpt.size, fun j hj hn => ?_⟩, fun j hj => ?_, by have := h.n; have := k.n; omega⟩
  · have h1 := h.kpt.block j hj hn
    refine (k.kpt.block j (Nat.lt_of_lt_of_le hj h.kpt.size) fun hx => ?_).trans h1
    rcases h.tags j hx with hy | hy
    · exact hn hy
    · omega
  · rcases k.tags j hj with hx | hx
    · exact h.tags j hx
    · exact .inr (Nat.le_trans h.kpt.size hx)
theorem feed_len {p : Ps} {s : Str} (h : p.s.length ≤ 65536) : (feed p s).1.s.length ≤ 65536 := by
  unfold feed
  split
  · exact h
  · split
    · exact h
    · simp only [List.length_append]; omega

set_option maxHeartbeats 4000000 in
set_option maxRecDepth 100000 in
theorem arrive_any (D : Nat) (G : Gh) (d : Dm) (i : Int) (s : ByteArray) (w : World) (h : DmAt w D G d) (hn : G.n < maxLen) :
    Calls Tryz.prog 9 #[.pointer (some ⟨D, 0, none⟩), .int .i64 i, .string s] w (DmPost D G 1 (dmArrive d i (bl s)) w) := by
  obtain ⟨R, hR⟩ : ∃ R, R = dmArrive d i (bl s) := ⟨_, rfl⟩
  rw [← hR]
  unfold dmArrive at hR
  rw [bl_length] at hR
  have HIS := Lib.hid (h.isIs i)
  obtain ⟨c0, c1, c2, c3, c4⟩ := h.cells
  cases hi : isC i with
  | false =>
    rw [if_pos (.inl hi)] at hR
    rw [hi] at HIS
    have HR := Lib.hid hR; have HD := Lib.hid h; clear hR h hi
    go_enter Tryz.func9, Tryz.ntmps9
    go_wp2_with (go_at_call 26; refine HIS.out.mono ?_; rintro e w1 ⟨rfl, rfl⟩)
    go_ret
    exact DmPost.same HR.out HD.out
  | true =>
  rw [hi] at HIS
  by_cases hs : 65536 < s.size
  · rw [if_pos (.inr hs)] at hR
    have HR := Lib.hid hR; have HD := Lib.hid h; clear hR h hi
    go_enter Tryz.func9, Tryz.ntmps9
    go_wp2_with (go_at_call 26; refine HIS.out.mono ?_; rintro e w1 ⟨rfl, rfl⟩)
    go_ret
    exact DmPost.same HR.out HD.out
  rw [if_neg (by simp [hi, hs])] at hR
  simp only at hR
  have hwf := isC_wf hi
  have HH := Lib.hid h; have HI := Lib.hid hi; have HWF := Lib.hid hwf
  obtain ⟨c, hc⟩ : ∃ c, c = (d.c i).getD Cn.fresh := ⟨_, rfl⟩
  rw [← hc] at hR
  have HR := Lib.hid hR; have HC := Lib.hid hc
  have hpk := h.pick i hwf
  clear hR hc h hi hwf
  have hlook := HH.out.look i HWF.out
  obtain ⟨oc, hoc⟩ : ∃ oc, oc = G.cs i := ⟨_, rfl⟩
  rw [← hoc] at hlook
  have HOC := Lib.hid hoc; clear hoc
  go_enter Tryz.func9, Tryz.ntmps9
  go_upto_region 4 with (go_at_call 26; refine HIS.out.mono ?_; rintro e w1 ⟨rfl, rfl⟩)
  rename World => w
  go_cut [24] (fun a wx => a = .bool oc.isNone ∧ wx = w)
  case first =>
    cases oc with
    | none => simp only [Option.map_none, ptrV]; go_wp2_with fail; go_meet; exact ⟨rfl, rfl⟩
    | some B => simp only [Option.map_some, ptrV]; go_wp2_with fail; go_meet; exact ⟨rfl, rfl⟩
  case rest =>
  obtain ⟨rfl, rfl⟩ := hcut
  rename World => w
  go_upto_if 24 with fail
  go_cut [7] (fun a wx => ∃ G' B, a = .pointer (some ⟨B.cb, 0, none⟩) ∧ DmAt wx D G' (d.set i c) ∧ G'.cs i = some B ∧ Grow w wx G G' 1)
  case first =>
    rcases hpk with ⟨h1, h2, h3⟩ | ⟨B, c', h1, h2, h3, h4, h5⟩
    · have hoc : oc = none := HOC.out.trans h2
      subst hoc
      have hfr : c = Cn.fresh := by rw [HC.out, h1]; rfl
      have H2 := Lib.hid h2; clear h1 h2 h3
      go_wp2_with fail
      go_at_call 27
      refine (new_any w).mono ?_
      rintro e w1 ⟨rfl, rfl⟩
      obtain ⟨w1, hw1⟩ : ∃ w1, w1 = w.alloc (parserObj ⟨#[]⟩ 0) := ⟨_, rfl⟩
      have hb1 : Below w.heap.size w w1 := by rw [hw1]; exact (Below.refl _ _).alloc (Nat.le_refl _) _
      have hp1 : w1.heap[w.heap.size]? = some (parserObj ⟨#[]⟩ 0) := by rw [hw1]; exact heap_alloc_new _ _
      rw [← hw1]
      have hz1 : w1.heap.size = w.heap.size + 1 := by rw [hw1]; simp
      clear hw1
      obtain ⟨w2, hw2⟩ : ∃ w2, w2 = w1.alloc (cnObj ⟨w.heap.size + 1, w.heap.size, none⟩ Cn.fresh) := ⟨_, rfl⟩
      have hb2 : Below w1.heap.size w1 w2 := by rw [hw2]; exact (Below.refl _ _).alloc (Nat.le_refl _) _
      have hc2 : w2.heap[w.heap.size + 1]? = some (cnObj ⟨w.heap.size + 1, w.heap.size, none⟩ Cn.fresh) := by rw [hw2, ← hz1]; exact heap_alloc_new _ _
      have hz2 : w2.heap.size = w1.heap.size + 1 := by rw [hw2]; simp
      have hw2' : w1.alloc (.cells #[.pointer (some ⟨w.heap.size, 0, none⟩), .int .i64 (-1), .bool false, .bool false, .bool false, .int .i64 (-1), .bool false, .pointer none] 81) = w2 := hw2.symm
      have hb02 := hb1.trans (hb2.mono hb1.size)
      have hD2 := HH.out.below hb02
      have HD2 := Lib.hid hD2
      have HL2 := Lib.hid hD2.l
      have k3 := hD2.cells.2.2.2.1
      have hp2 := (hb2.block _ (lt_of_blk hp1)).trans hp1
      have HC2 := Lib.hid hc2; have HP2 := Lib.hid hp2; have HW2 := Lib.hid hw2'
      clear hD2 hc2 hp1 hp2 hw2 hw2'
      go_upto_region 6 with fail
      rw [HW2.out]
      go_wp2_with (at_mapUpdate; go_loud (refine wpList_mapUpdate_own _ rfl _ _ _ 66 rfl 3 76 (int_keyed Tryz.underlying3) Tryz.underlying66 _ G.ml G.n G.dl rfl HL2.out hn _ _ _ rfl rfl (keyOf_int_mk Tryz.underlying3 HWF.out) _ [] (ptrR_mk (some (w.heap.size + 1))) ?_); intro w3 hown3 hgrow3)
      go_meet
      have hk3 := Kpt.ofGrown hgrow3
      have htg := HD2.out.tb _ _ HD2.out.tml
      have hml := (HH.out.tb _ _ HH.out.tml).2
      have hcat : CnAt w3 ⟨w.heap.size + 1, w.heap.size, none⟩ Cn.fresh := by
        have hz3 := hk3.size
        refine ⟨(hk3.block _ (by show w.heap.size + 1 < _; omega) (by show ¬ w.heap.size + 1 = _; omega)).trans HC2.out, (hk3.block _ (by show w.heap.size < _; omega) (by show ¬ w.heap.size = _; omega)).trans HP2.out, trivial⟩
      have hz3 := hk3.size
      have hml := (HH.out.tb _ _ HH.out.tml).2
      subst hfr
      obtain ⟨G', g1, g2, g3, g4⟩ := HD2.out.addC (B := ⟨w.heap.size + 1, w.heap.size, none⟩) (c := Cn.fresh) H2.out HI.out hk3 hown3 (z := w.heap.size) (fun k t hk => (HH.out.tb k t hk).2)
        ⟨by show w.heap.size ≤ w.heap.size + 1; omega, by show w.heap.size + 1 < _; omega⟩ ⟨by show w.heap.size ≤ w.heap.size; omega, by show w.heap.size < _; omega⟩ (by show w.heap.size + 1 ≠ w.heap.size; omega) rfl hcat ⟨by show 0 ≤ 65536; omega, fun r hr => by cases hr⟩
      refine ⟨G', ⟨w.heap.size + 1, w.heap.size, none⟩, rfl, g1, g2, ⟨?_, g3, g4⟩⟩
      exact (Kpt.of hb02).trans (hk3.mono fun k _ hx => by rw [hx, HH.out.tml]; simp)
    · have hoc : oc = some B := HOC.out.trans h2
      subst hoc
      have hfr : c = c' := by rw [HC.out, h1]; rfl
      subst hfr
      have H1 := Lib.hid h1; have H2 := Lib.hid h2; clear h1 h2 h3 h4 h5
      go_wp2_with fail
      go_meet
      refine ⟨G, B, rfl, ?_, H2.out, Grow.refl _ _ _⟩
      rw [Dm.set_self H1.out]; exact HH.out
  case rest =>
  obtain ⟨G', B, rfl, hD, hB, hg⟩ := hcut
  rename World => w4
  obtain ⟨c', hc1, hc2, hc3⟩ := hD.some_ i B hB
  have hcc : c' = c := by
    have : (d.set i c).c i = some c := upd_same _ _ _
    rw [this] at hc1; exact (Option.some.inj hc1).symm
  subst hcc
  obtain ⟨⟨p0, p1, p2, p3, p4, p5, p6, p7⟩, pf⟩ := hc2.cells
  have f3 := pf 3
  have HDD := Lib.hid hD; have HBB := Lib.hid hB; have HGG := Lib.hid hg; have HC2 := Lib.hid hc2; have HC3 := Lib.hid hc3
  clear hD hB hg hc1 hc2 hc3 pf
  have hx := HR.out
  cases hcl : c'.closed with
  | true =>
    rw [if_pos hcl] at hx
    have hsame : d.set i c' = d := by
      apply Dm.set_self
      have h1 := HC.out
      cases hd : d.c i with
      | none => rw [hd] at h1; rw [h1] at hcl; cases hcl
      | some c0 => rw [hd] at h1; rw [h1]; rfl
    have HX := Lib.hid hx; clear hx
    rw [hcl] at p2
    go_wp2_with fail
    go_ret
    rw [HX.out]
    refine ⟨rfl, G', ?_, HGG.out⟩
    have := HDD.out
    rwa [hsame] at this
  | false =>
    rw [if_neg (by simp [hcl])] at hx
    rw [hcl] at p2
    have hfd := fun W hb => feed_any B.pb ⟨c'.ps.s.toArray⟩ s c'.ps.status W hb (by show c'.ps.s.length ≤ _; have := HC3.out.s; omega) (by omega)
    have hfl : (feed c'.ps (bl s)).1.s.length ≤ 65536 := feed_len HC3.out.s
    have he : (⟨bl ⟨c'.ps.s.toArray⟩, c'.ps.status⟩ : Ps) = c'.ps := rfl
    rw [he] at hfd
    generalize feed c'.ps (bl s) = fr at hx hfd hfl
    have HX := Lib.hid hx; have HF := Lib.hid (hfd _ HC2.out.ps); clear hx hfd he
    go_wp2_with fail
    go_at_call 28
    refine HF.out.mono ?_
    rintro e w5 ⟨rfl, hp5, hk5⟩
    obtain ⟨t1, t2, t3⟩ := HDD.out.tcb i B HBB.out
    have hne : B.cb ≠ B.pb := fun e => by rw [e, t2] at t1; cases t1
    have hc5 := (hk5.block B.cb (lt_of_blk HC2.out.cell) hne).trans HC2.out.cell
    clear p0 p1 p2 p3 p4 p5 p6 p7 f3
    have p3 : w5.cell? ⟨B.cb, 3, none⟩ = some (.bool c'.lost) := by rw [blk_cell hc5]; rfl
    have f3 : w5.frozen? ⟨B.cb, 3, none⟩ = false := blk_free hc5 3
    have hfin : ∀ b : Bool, b = (decide (fr.2 = 2) || c'.lost) → DmPost D G 1 R w (.returned (.int .i64 0)) (w5.setCell ⟨B.cb, 3, none⟩ (.bool b)) := by
      intro b hb
      have hk6 : Kpt (fun k => k = B.pb ∨ k = B.cb) w4 (w5.setCell ⟨B.cb, 3, none⟩ (.bool b)) := (hk5.mono fun k _ hx => .inl hx).set (p := ⟨B.cb, 3, none⟩) (fun _ => .inr rfl) _
      obtain ⟨G2, h1, h2, _⟩ := HDD.out.put (B' := B) (c' := { c' with ps := fr.1, lost := b }) (w' := w5.setCell ⟨B.cb, 3, none⟩ (.bool b)) HBB.out (hk6.mono fun k _ hx => by rcases hx with hx | hx <;> rw [hx]; exact .inr t2; exact .inl t1) rfl rfl
        ⟨heap_set hc5 3 (.bool b), (heap_set_ne (fun e => hne e.symm) _).trans hp5, HC2.out.an.kept fun a v hv => ⟨hk6.block _ (HDD.out.tb _ _ (t3 a v hv).1).2 (fun hx => by
            rcases hx with hx | hx
            · have := (t3 a v hv).1; rw [hx, t2] at this; cases this
            · have := (t3 a v hv).1; rw [hx, t1] at this; cases this), fun g hg => hk6.block _ (HDD.out.tb _ _ ((t3 a v hv).2 g hg)).2 (fun hx => by
            rcases hx with hx | hx
            · have := (t3 a v hv).2 g hg; rw [hx, t2] at this; cases this
            · have := (t3 a v hv).2 g hg; rw [hx, t1] at this; cases this)⟩⟩
        ⟨hfl, HC3.out.a⟩ _ (Nat.le_refl _) (fun a v hv => ⟨.inl (t3 a v hv).1, fun g hg => .inl ((t3 a v hv).2 g hg)⟩)
      rw [HX.out]
      refine ⟨rfl, G2, ?_, HGG.out.trans h2⟩
      rw [Dm.set_set] at h1
      rw [← hb]
      exact h1
    have HFIN := Lib.hid hfin; clear hfin hc5
    by_cases hf2 : fr.2 = 2
    · have t2b : (fr.2 == 2) = true := by simp [hf2]
      have hb : true = (decide (fr.2 = 2) || c'.lost) := by simp [hf2]
      have HB := Lib.hid hb; clear hf2 hb
      go_wp2_with fail
      go_ret
      exact HFIN.out _ HB.out
    · have t2b : (fr.2 == 2) = false := by simpa using hf2
      have hb : c'.lost = (decide (fr.2 = 2) || c'.lost) := by simp [hf2]
      have HB := Lib.hid hb; clear hf2 hb
      go_wp2_with fail
      go_ret
      exact HFIN.out _ HB.out
end Go.Proofs.YtacdkcapejijdaaGreatDoor
