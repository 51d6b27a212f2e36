/- package demux: Answer. -/
import Derived.Test.YtacdkcapejijdaaGreatDoorDemux12
import Derived.Deep.AppendLies
namespace Go.Proofs.YtacdkcapejijdaaGreatDoor
open Go.RowKit Go.Maps Go.WideMaps Clo

theorem pairCs_at {w : World} {g off : Nat} {l : List (Str × Str)} (h : ∀ i, i < l.length → w.cell? ⟨g, off + i * 2, none⟩ = some (.string ⟨((l.getD i ([], [])).1).toArray⟩) ∧ w.cell? ⟨g, off + i * 2 + 1, none⟩ = some (.string ⟨((l.getD i ([], [])).2).toArray⟩)) :
    ∀ j u, (pairCs l)[j]? = some u → w.cell? ((⟨g, off, none⟩ : Addr).add j) = some u := by
  intro j u hj
  have hlt : j < (pairCs l).length := by
    rcases Nat.lt_or_ge j (pairCs l).length with h' | h'
    · exact h'
    · rw [List.getElem?_eq_none h'] at hj; cases hj
  rw [pairCs_length] at hlt
  have hi : j / 2 < l.length := by omega
  obtain ⟨h1, h2⟩ := h (j / 2) hi
  obtain ⟨p1, p2⟩ := pairCs_get l (j / 2) hi
  rw [Lib.addr_add]
  rcases Nat.mod_two_eq_zero_or_one j with hm | hm
  · have e : j / 2 * 2 = j := by omega
    rw [e] at h1 p1
    rw [p1] at hj
    rw [h1]; exact hj
  · have e : j / 2 * 2 + 1 = j := by omega
    rw [e] at p2
    have e2 : off + j / 2 * 2 + 1 = off + j := by omega
    rw [e2] at h2
    rw [p2] at hj
    rw [h2]; exact hj
theorem pairCs_one (l : List (Str × Str)) : ∀ u ∈ pairCs l, u.oneCell' = true := by
  intro u hu
  obtain ⟨p, _, hp⟩ := List.mem_flatMap.1 hu
  simp at hp
  rcases hp with rfl | rfl <;> rfl

set_option maxHeartbeats 8000000 in
set_option maxRecDepth 100000 in
theorem answer_any (D : Nat) (G : Gh) (d : Dm) (i : Int) (r : Rs) (v : Value) (w : World) (h : DmAt w D G d) (hv : PairsAt w v r.fields) (hr : RsOk r) (hl : r.fields.length ≤ 1073741824) :
    Calls Tryz.prog 12 #[.pointer (some ⟨D, 0, none⟩), .int .i64 i, .agg #[.int .i64 r.status, v, .string ⟨r.body.toArray⟩, .bool r.close]] w (DmPost D G 0 (dmAnswer d i r) w) := by
  obtain ⟨R, hR⟩ : ∃ R, R = dmAnswer d i r := ⟨_, rfl⟩
  rw [← hR]
  unfold dmAnswer at hR
  obtain ⟨ad, cap, rfl, hcc, hlb, hrr⟩ := id hv
  obtain ⟨i0, hinf, hz0, hz1, hz2⟩ := info_parts Tryz.infoPair
  have HV := Lib.hid hv; clear hv hcc hlb hrr
  obtain ⟨w1, hw1⟩ : ∃ w1, w1 = w.alloc (.cells #[.int .i64 r.status, .slice ad r.fields.length cap, .string ⟨r.body.toArray⟩, .bool r.close] 41 (0, 0)) := ⟨_, rfl⟩
  have hb1 : Below w.heap.size w w1 := by rw [hw1]; exact (Below.refl _ _).alloc (Nat.le_refl _) _
  have hm1 : w1.heap[w.heap.size]? = some (.cells #[.int .i64 r.status, .slice ad r.fields.length cap, .string ⟨r.body.toArray⟩, .bool r.close] 41 (0, 0)) := by rw [hw1]; exact heap_alloc_new _ _
  have hw1' : w.alloc (.cells #[.int .i64 r.status, .slice ad r.fields.length cap, .string ⟨r.body.toArray⟩, .bool r.close] 41) = w1 := hw1.symm
  have h1 := h.below hb1
  have HIS := Lib.hid (h1.isIs i)
  have hwt := waits_any D G d i w1 h1
  have HW1 := Lib.hid hw1'; have HM1 := Lib.hid hm1; have HD := Lib.hid h; have HD1 := Lib.hid h1
  obtain ⟨d0, d1, d2, d3, d4⟩ := h1.cells
  clear hw1 hw1' hm1 h
  cases hi : isC i with
  | false =>
    rw [if_pos hi] at hR
    rw [hi] at HIS
    have HR := Lib.hid hR; clear hR hi h1 hwt
    go_enter Tryz.func12, Tryz.ntmps12
    go_upto_region 1 with fail
    rw [HW1.out]
    go_wp2_with (go_at_call 26; refine HIS.out.mono ?_; rintro e wE ⟨rfl, hwE⟩; rw [hwE]; clear hwE wE)
    go_ret
    rw [HR.out]
    exact ⟨rfl, G, HD1.out, Grow.of _ _ hb1⟩
  | true =>
  rw [if_neg (by simp [hi])] at hR
  rw [hi] at HIS
  have hwf := isC_wf hi
  rcases h1.pick i hwf with ⟨k1, _, hl⟩ | ⟨B, c, k1, k0, k2, k3, hl⟩
  · rw [k1] at hR
    have ho : dmWaits d i = false := by unfold dmWaits; rw [k1]
    rw [ho] at hwt
    have HR := Lib.hid hR; have HO := Lib.hid hwt; clear hR hi h1 hwt ho k1 hwf
    go_enter Tryz.func12, Tryz.ntmps12
    go_upto_region 1 with fail
    rw [HW1.out]
    go_wp2_with (first | (go_at_call 26; refine HIS.out.mono ?_; rintro e wE ⟨rfl, hwE⟩; rw [hwE]; clear hwE wE) | (go_at_call 23; refine HO.out.mono ?_; rintro e wE ⟨rfl, hwE⟩; rw [hwE]; clear hwE wE))
    go_ret
    rw [HR.out]
    exact ⟨rfl, G, HD1.out, Grow.of _ _ hb1⟩
  rw [k1] at hR
  have ho : dmWaits d i = c.waits := by unfold dmWaits; rw [k1]
  rw [ho] at hwt
  simp only at hR
  cases hcw : c.waits with
  | false =>
    rw [if_pos hcw] at hR
    rw [hcw] at hwt
    have HR := Lib.hid hR; have HO := Lib.hid hwt; clear hR hi h1 hwt ho k1 hwf k0 k2 k3 hcw
    go_enter Tryz.func12, Tryz.ntmps12
    go_upto_region 1 with fail
    rw [HW1.out]
    go_wp2_with (first | (go_at_call 26; refine HIS.out.mono ?_; rintro e wE ⟨rfl, hwE⟩; rw [hwE]; clear hwE wE) | (go_at_call 23; refine HO.out.mono ?_; rintro e wE ⟨rfl, hwE⟩; rw [hwE]; clear hwE wE))
    go_ret
    rw [HR.out]
    exact ⟨rfl, G, HD1.out, Grow.of _ _ hb1⟩
  | true =>
  rw [if_neg (by simp [hcw])] at hR
  rw [hcw] at hwt
  have HO := Lib.hid hwt; have HK0 := Lib.hid k0; have HK1 := Lib.hid k1; have HK2 := Lib.hid k2; have HK3 := Lib.hid k3
  have htb := h1.tcb i B k0
  have hX := (h1.tb _ _ htb.1).1
  obtain ⟨⟨p0, p1, p2, p3, p4, p5, p6, p7⟩, pf⟩ := k2.cells
  have f4 := pf 4; have f5 := pf 5
  have hneM : w.heap.size ≠ B.cb := fun e => by
    have h2 := (HD.out.tb _ _ (HD.out.tcb i B HK0.out).1).2
    omega
  have HTB := Lib.hid htb
  clear hi h1 hwt ho k0 k1 k2 k3 hwf pf hcw htb
  go_enter Tryz.func12, Tryz.ntmps12
  go_upto_region 1 with fail
  rw [HW1.out]
  go_upto_region 7 with (first | (go_at_call 26; refine HIS.out.mono ?_; rintro e wE ⟨rfl, hwE⟩; rw [hwE]; clear hwE wE) | (go_at_call 23; refine HO.out.mono ?_; rintro e wE ⟨rfl, hwE⟩; rw [hwE]; clear hwE wE))
  generalize hw2 : (w1.setCell _ _).setCell _ _ = w2
  have hc2 : w2.heap[B.cb]? = some (cnObj B { c with waits := false, asks := -1 }) := by rw [← hw2]; exact heap_set (heap_set HK2.out.cell 4 _) 5 _
  have hk2 : Kpt (fun k => k = B.cb) w1 w2 := by rw [← hw2]; exact ((Kpt.refl (fun k => k = B.cb) w1).set (p := ⟨B.cb, 4, none⟩) (fun _ => rfl) _).set (p := ⟨B.cb, 5, none⟩) (fun _ => rfl) _
  have hm2 := (hk2.block _ (lt_of_blk HM1.out) hneM).trans HM1.out
  clear hw2 p0 p1 p2 p3 p4 p5 p6 p7 f4 f5 d0 d1 d2 d3 d4 hl
  have p2 : w2.cell? ⟨B.cb, 2, none⟩ = some (.bool c.closed) := by rw [blk_cell hc2]; rfl
  obtain ⟨m0, m1, m2, m3⟩ := cells4 hm2
  have HC2 := Lib.hid hc2; have HKP2 := Lib.hid hk2; have HM2 := Lib.hid hm2
  clear hc2 hk2 hm2
  cases hcl : c.closed with
  | true =>
    rw [hcl] at p2
    rw [if_pos hcl] at hR
    have HR := Lib.hid hR; clear hR hcl
    go_wp2_with fail
    go_ret
    rw [HR.out]
    obtain ⟨G', y1, y2⟩ := HD1.out.setCn (c' := { c with waits := false, asks := -1 }) HK0.out HK2.out HK3.out HKP2.out HC2.out rfl rfl
    exact ⟨rfl, G', y1, (Grow.of G 0 hb1).trans y2⟩
  | false =>
    rw [hcl] at p2
    rw [if_neg (by simp [hcl])] at hR
    have HR := Lib.hid hR; have HCL := Lib.hid hcl; clear hR hcl
    go_upto_region 9 with fail
    generalize hw3 : w2.alloc _ = w3
    have hb3 : Below w2.heap.size w2 w3 := by rw [← hw3]; exact (Below.refl _ _).alloc (Nat.le_refl _) _
    have ho3 : w3.heap[w2.heap.size]? = some (.cells #[.int .i64 r.status, .slice ad r.fields.length cap, .string ⟨r.body.toArray⟩, .bool r.close] 41 (0, 0)) := by rw [← hw3]; exact heap_alloc_new _ _
    have hz3 : w3.heap.size = w2.heap.size + 1 := by rw [← hw3]; simp
    have hm3 := (hb3.block _ (lt_of_blk HM2.out)).trans HM2.out
    have hc3 := (hb3.block _ (lt_of_blk HC2.out)).trans HC2.out
    have hv2 := (HV.out.below hb1).keptCn HK2.out.cell HKP2.out
    have hv3 := hv2.below hb3
    clear hw3 m0 m1 m2 m3 p2
    obtain ⟨m0, m1, m2, m3⟩ := cells4 hm3
    have o1 : w3.cell? ⟨w2.heap.size, 1, none⟩ = some (.slice ad r.fields.length cap) := by rw [blk_cell ho3]; rfl
    have fo1 : w3.frozen? ⟨w2.heap.size, 1, none⟩ = false := blk_free ho3 1
    have HO3 := Lib.hid ho3; have HC3 := Lib.hid hc3; have HV3 := Lib.hid hv3; have HZ3 := Lib.hid hz3; have HB3 := Lib.hid hb3
    clear ho3 hc3 hv2 hv3 hz3 hb3 hm3
    go_upto_region 9 with fail
    go_cut [8] (fun a wx => a = .pointer (some ⟨w2.heap.size, 0, none⟩) ∧ ∃ v', wx.heap[w2.heap.size]? = some (rsObj v' r) ∧ PairsAt wx v' r.fields ∧ (∀ g, blkOf v' = some g → w3.heap.size ≤ g ∧ g < wx.heap.size) ∧ Kpt (fun k => k = w2.heap.size) w3 wx)
    case first =>
      have q1 : ∀ u, Kpt (fun k => k = w2.heap.size) w3 (w3.setCell ⟨w2.heap.size, 1, none⟩ u) := fun u => (Kpt.refl (fun k => k = w2.heap.size) w3).set (p := ⟨w2.heap.size, 1, none⟩) (fun _ => rfl) u
      by_cases hne : r.fields = []
      · rw [hne] at m1 o1
        simp only [List.length_nil] at m1 o1
        have hfin : ∀ W, W = w3.setCell ⟨w2.heap.size, 1, none⟩ (.slice none 0 0) → ∃ v', W.heap[w2.heap.size]? = some (rsObj v' r) ∧ PairsAt W v' r.fields ∧ (∀ g, blkOf v' = some g → w3.heap.size ≤ g ∧ g < W.heap.size) ∧ Kpt (fun k => k = w2.heap.size) w3 W := by
          rintro W rfl
          exact ⟨.slice none 0 0, heap_set HO3.out 1 _, by rw [hne]; exact PairsAt.nil _, fun g hg => (by cases hg), q1 _⟩
        have HFIN := Lib.hid hfin; clear hfin hne
        cases ad
        all_goals
          go_wp2_with fail
          go_meet
          exact ⟨rfl, HFIN.out _ rfl⟩
      · obtain ⟨ad', cap', e1, e2, e3, e4⟩ := HV3.out
        injection e1 with e1 e5 e6
        subst e1; subst e6
        obtain ⟨g, off, rfl, e7⟩ := e4 hne
        have hpos : 0 < r.fields.length := List.length_pos_iff.2 hne
        have hat := pairCs_at e7
        have HAT := Lib.hid hat; clear hat e7 e4 hne
        go_wp2_with (at_builtin; go_loud (refine wpList_append_lies _ rfl _ _ 31 rfl w3.heap.size 90 i0 (.agg #[.string ⟨#[]⟩, .string ⟨#[]⟩]) 2 32 Tryz.underlying31 hinf hz0 hz1 hz2 rfl (by decide) (.slice none 0 0) 0 [] rfl (World.ownsRow_nil _ _ _ _) ⟨g, off, none⟩ r.fields.length cap (pairCs r.fields) rfl (pairCs_length _) HAT.out (pairCs_one _) hpos (by unfold maxLen; omega) (by omega) (Nat.le_refl _) w3.heap.size rfl ?_); intro gg cap6 w6 hown6 hgrow6 hlies6 hg6; have ho6 := (hgrow6.block w2.heap.size (lt_of_blk HO3.out) (by simp [Value.ownBlock])).trans HO3.out; have o1' : w6.cell? ⟨w2.heap.size, 1, none⟩ = some (.slice (some ⟨g, off, none⟩) r.fields.length cap) := (by rw [blk_cell ho6]; rfl); have fo1' : w6.frozen? ⟨w2.heap.size, 1, none⟩ = false := blk_free ho6 1)
        have hgg : gg = w3.heap.size := by
          rcases hlies6 with h | h
          · cases h
          · exact h
        have hk6 : Kpt (fun k => k = w2.heap.size) w3 w6 := ⟨hgrow6.os, hgrow6.tape, hgrow6.output, hgrow6.size, fun k hk _ => hgrow6.block k hk (by simp [Value.ownBlock])⟩
        have hpr : PairsAt w6 (.slice (some ⟨gg, 0, none⟩) r.fields.length cap6) r.fields := by
          have h6 : OwnPairs w6 w3.heap.size (.slice (some ⟨gg, 0, none⟩) r.fields.length cap6) r.fields := ⟨by simpa using hown6, by omega⟩
          exact h6.at
        have HPR := Lib.hid hpr; have HO6 := Lib.hid ho6; have HK6 := Lib.hid hk6; have HGG := Lib.hid hgg; have HG6 := Lib.hid hg6
        clear hpr ho6 hk6 hgg hg6 hown6 hgrow6 hlies6
        go_meet
        refine ⟨rfl, .slice (some ⟨gg, 0, none⟩) r.fields.length cap6, heap_set HO6.out 1 _, ?_, ?_, HK6.out.set (p := ⟨w2.heap.size, 1, none⟩) (fun _ => rfl) _⟩
        · refine HPR.out.kept fun k hk _ => heap_set_ne (fun e => ?_) _
          cases hk
          have h1 := HGG.out; have h2 := HZ3.out
          simp only at e
          omega
        · intro k hk
          cases hk
          have h1 := HGG.out; have h2 := HG6.out
          refine ⟨by show w3.heap.size ≤ gg; omega, ?_⟩
          show gg < (w6.setCell _ _).heap.size
          simp [World.setCell]; omega
    case rest =>
    obtain ⟨rfl, v', x1, x2, x3, x4⟩ := hcut
    rename World => w6
    have hneO : w2.heap.size ≠ B.cb := by have := lt_of_blk HC2.out; omega
    have hc6 := (x4.block _ (lt_of_blk HC3.out) (fun e => hneO e.symm)).trans HC3.out
    clear m0 m1 m2 m3 o1 fo1
    have p7 : w6.cell? ⟨B.cb, 7, none⟩ = some (ansV B.ans) := by rw [blk_cell hc6]; rfl
    have f7 : w6.frozen? ⟨B.cb, 7, none⟩ = false := blk_free hc6 7
    have HC6 := Lib.hid hc6; have X1 := Lib.hid x1; have X2 := Lib.hid x2; have X3 := Lib.hid x3; have X4 := Lib.hid x4
    clear hc6 x1 x2 x3 x4
    go_wp2_with fail
    go_ret
    rw [HR.out]
    have hz1 := hb1.size
    have hz2 := HKP2.out.size
    have hkw : Kpt (fun k => k = B.cb) w (w6.setCell ⟨B.cb, 7, none⟩ (.pointer (some ⟨w2.heap.size, 0, none⟩))) := by
      have h1 : Kpt (fun k => k = B.cb) w w2 := (Kpt.of hb1 : Kpt (fun k => k = B.cb) w w1).trans (HKP2.out.mono fun k _ h => h)
      have h2 : Kpt (fun k => k = B.cb) w w6 := ⟨X4.out.os.trans (h1.below HB3.out).os, X4.out.tape.trans (h1.below HB3.out).tape, X4.out.output.trans (h1.below HB3.out).output, Nat.le_trans (h1.below HB3.out).size X4.out.size,
        fun k hk hn => (X4.out.block k (Nat.lt_of_lt_of_le hk (h1.below HB3.out).size) (by omega)).trans ((h1.below HB3.out).block k hk hn)⟩
      exact h2.set (p := ⟨B.cb, 7, none⟩) (fun _ => rfl) _
    obtain ⟨t1, t2, t3⟩ := HTB.out
    have hne : B.pb ≠ B.cb := fun e => by rw [e, t1] at t2; cases t2
    obtain ⟨c0, y1, y2, y3⟩ := HD.out.some_ i B HK0.out
    have hx0 : c0 = c := by rw [HK1.out] at y1; exact (Option.some.inj y1).symm
    subst hx0
    have hz6 := X4.out.size
    have hbig : ∀ g, w3.heap.size ≤ g → g ≠ B.cb := fun g hg e => by have := lt_of_blk HC3.out; omega
    have hat : CnAt (w6.setCell ⟨B.cb, 7, none⟩ (.pointer (some ⟨w2.heap.size, 0, none⟩))) { B with ans := some (w2.heap.size, v') } { c0 with waits := false, asks := -1, answer := some r } :=
      ⟨heap_set HC6.out 7 _, (hkw.block _ (HD.out.tb _ _ t2).2 hne).trans y2.ps, (heap_set_ne hneO _).trans X1.out, X2.out.kept fun g hg _ => heap_set_ne (hbig g (X3.out g hg).1) _⟩
    have hzw : (w6.setCell ⟨B.cb, 7, none⟩ (.pointer (some ⟨w2.heap.size, 0, none⟩))).heap.size = w6.heap.size := by simp [World.setCell]
    obtain ⟨G', u1, u2, _⟩ := HD.out.put (B' := { B with ans := some (w2.heap.size, v') }) (c' := { c0 with waits := false, asks := -1, answer := some r }) HK0.out (hkw.mono fun k _ e => .inl (by rw [e]; exact t1)) rfl rfl hat
      ⟨y3.s, fun r' hr' => by cases hr'; exact hr⟩ w.heap.size (Nat.le_refl _) (fun a v hav => by
        cases hav
        refine ⟨.inr ⟨by omega, ?_⟩, fun g hg => .inr ⟨?_, ?_⟩⟩
        · rw [hzw]; have := lt_of_blk X1.out; exact this
        · have := (X3.out g hg).1; have := HB3.out.size; omega
        · rw [hzw]; exact (X3.out g hg).2)
    exact ⟨rfl, G', u1, u2⟩
end Go.Proofs.YtacdkcapejijdaaGreatDoor
