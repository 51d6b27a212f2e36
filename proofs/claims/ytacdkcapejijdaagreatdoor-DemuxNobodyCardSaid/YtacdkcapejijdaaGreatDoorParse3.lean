/- package parse: Next. -/
import Derived.Test.YtacdkcapejijdaaGreatDoorParse2
import Derived.Test.YtacdkcapejijdaaGreatDoorSpec3
import Derived.Deep.RegionHeld3
namespace Go.Proofs.YtacdkcapejijdaaGreatDoor
open Go.RowKit Clo

theorem bodyOf_range (h : Hd) : ((bodyOf h).1 = 0 ∨ (bodyOf h).1 = 1 ∨ (bodyOf h).1 = 2) ∧ 0 ≤ (bodyOf h).2.1 ∧ (bodyOf h).2.1 ≤ 16384 := by
  unfold bodyOf
  simp only
  repeat' split
  all_goals first
    | (refine ⟨.inl rfl, ?_, ?_⟩ <;> decide)
    | (refine ⟨.inr (.inr rfl), ?_, ?_⟩ <;> decide)
    | (refine ⟨.inr (.inl rfl), ?_, ?_⟩ <;> simp only <;> omega)
theorem chunkEnd_end (fuel : Nat) (ih : ∀ (body : Str) (k : Nat) (s : Str), 0 ≤ (chunksLoop fuel body k s).2.1 ∧ (chunksLoop fuel body k s).2.1 ≤ s.length) (body s : Str) (n at2 : Nat) : 0 ≤ (chunkEnd fuel body s n at2).2.1 ∧ (chunkEnd fuel body s n at2).2.1 ≤ s.length := by
  unfold chunkEnd
  repeat' split
  all_goals first
    | exact ih _ _ _
    | (constructor <;> simp only <;> omega)
    | (rename_i h1 h2 _
       have hn := newline_two (s.drop (at2 + 2 + n)) (by rcases newline_cases (s.drop (at2 + 2 + n)) with h | h | h <;> simp_all)
       rw [List.length_drop] at hn
       constructor <;> simp only <;> omega)
theorem chunksLoop_end : ∀ (fuel : Nat) (body : Str) (k : Nat) (s : Str), 0 ≤ (chunksLoop fuel body k s).2.1 ∧ (chunksLoop fuel body k s).2.1 ≤ s.length
  | 0, _, _, s => by simp [chunksLoop]
  | fuel + 1, body, k, s => by
    rw [chunksLoop_succ]
    cases chunkSize 0 0 k (s.drop k) with
    | more => simp [chunkGo]
    | bad st => simp [chunkGo]
    | size n at1 =>
      simp only [chunkGo]
      generalize (if s.getD at1 0 = 59 then chunkExt k (at1 + 1) (s.drop (at1 + 1)) else some (some at1)) = e
      cases e with
      | none => simp [chunkAfter]
      | some e =>
        cases e with
        | none => simp [chunkAfter]
        | some at2 => exact chunkEnd_end fuel (fun b k s => chunksLoop_end fuel b k s) body s n at2
theorem chunks_end (s : Str) (k : Nat) : 0 ≤ (chunks s k).2.1 ∧ (chunks s k).2.1 ≤ s.length := chunksLoop_end _ _ _ _
def NextPost (X : Nat) (r : Ps × Rq × Bool × Int) (w : World) (e : Ending) (w' : World) : Prop :=
  ∃ v q, e = .returned (.tuple #[.agg #[.string ⟨r.2.1.head.method.toArray⟩, .string ⟨r.2.1.head.target.toArray⟩, .int .i64 r.2.1.head.minor, v, .string ⟨r.2.1.path.toArray⟩, q, .string ⟨r.2.1.body.toArray⟩, .bool r.2.1.close], .bool r.2.2.1, .int .i64 r.2.2.2]) ∧
    w'.heap[X]? = some (parserObj ⟨r.1.s.toArray⟩ r.1.status) ∧ PairsAt w' v r.2.1.head.fields ∧ PairsAt w' q r.2.1.query ∧ Kpt (fun k => k = X) w w' ∧ (∀ g, blkOf v = some g → w.heap.size ≤ g) ∧ ∀ g, blkOf q = some g → w.heap.size ≤ g
theorem OwnPairs.blk {w : World} {B : Nat} {v : Value} {l : List (List UInt8 × List UInt8)} (h : OwnPairs w B v l) : ∀ g, blkOf v = some g → B ≤ g := by
  intro g hg
  rcases h.1.2 with ⟨rfl, _⟩ | ⟨g', cap, cur, rfl, hB, _⟩
  · cases hg
  · cases hg; exact hB

theorem next_zero {X : Nat} {R : Ps × Rq × Bool × Int} {p : Ps} {b : Bool} {n : Int} (h : R = (p, Rq.zero, b, n)) {w : World} {e : Ending} {w' : World} (he : e = .returned (.tuple #[.agg rqZero, .bool b, .int .i64 n]))
    (hb : w'.heap[X]? = some (parserObj ⟨p.s.toArray⟩ p.status)) (hk : Kpt (fun k => k = X) w w') : NextPost X R w e w' := by
  subst h
  exact ⟨_, _, he, hb, PairsAt.nil _, PairsAt.nil _, hk, fun g hg => (by cases hg), fun g hg => (by cases hg)⟩

theorem cells8 {w : World} {N : Nat} {T : TypeId} (h : w.heap[N]? = some (.cells rqZero T (0, 0))) :
    (w.cell? ⟨N, 0, none⟩ = some (.string ⟨#[]⟩) ∧ w.cell? ⟨N, 1, none⟩ = some (.string ⟨#[]⟩) ∧ w.cell? ⟨N, 2, none⟩ = some (.int .i64 0) ∧ w.cell? ⟨N, 3, none⟩ = some (.slice none 0 0) ∧ w.cell? ⟨N, 4, none⟩ = some (.string ⟨#[]⟩) ∧ w.cell? ⟨N, 5, none⟩ = some (.slice none 0 0) ∧ w.cell? ⟨N, 6, none⟩ = some (.string ⟨#[]⟩) ∧ w.cell? ⟨N, 7, none⟩ = some (.bool false)) ∧ ∀ i, w.frozen? ⟨N, i, none⟩ = false :=
  ⟨⟨by rw [blk_cell h]; rfl, by rw [blk_cell h]; rfl, by rw [blk_cell h]; rfl, by rw [blk_cell h]; rfl, by rw [blk_cell h]; rfl, by rw [blk_cell h]; rfl, by rw [blk_cell h]; rfl, by rw [blk_cell h]; rfl⟩, fun i => blk_free h i⟩
theorem rq_lit : rqZero = #[.string ⟨#[]⟩, .string ⟨#[]⟩, .int .i64 0, .slice none 0 0, .string ⟨#[]⟩, .slice none 0 0, .string ⟨#[]⟩, .bool false] := rfl
/-- A request's block is written whole. -/
def put8 (w : World) (N : Nat) (a b c d e f g h : Value) : World :=
  (((((((w.setCell ⟨N, 0, none⟩ a).setCell ⟨N, 1, none⟩ b).setCell ⟨N, 2, none⟩ c).setCell ⟨N, 3, none⟩ d).setCell ⟨N, 4, none⟩ e).setCell ⟨N, 5, none⟩ f).setCell ⟨N, 6, none⟩ g).setCell ⟨N, 7, none⟩ h
theorem put8_heap {w : World} {N : Nat} {T : TypeId} (hb : w.heap[N]? = some (.cells rqZero T (0, 0))) (a b c d e f g h : Value) : (put8 w N a b c d e f g h).heap[N]? = some (.cells #[a, b, c, d, e, f, g, h] T (0, 0)) := by
  have h0 := heap_set hb 0 a
  have h1 := heap_set h0 1 b
  have h2 := heap_set h1 2 c
  have h3 := heap_set h2 3 d
  have h4 := heap_set h3 4 e
  have h5 := heap_set h4 5 f
  have h6 := heap_set h5 6 g
  have h7 := heap_set h6 7 h
  unfold put8
  exact h7.trans (by simp [rqZero])
theorem put8_kpt {S : Nat → Prop} {w0 w : World} {N : Nat} (hk : Kpt S w0 w) (hN : w0.heap.size ≤ N) (a b c d e f g h : Value) : Kpt S w0 (put8 w N a b c d e f g h) := by
  have q : ∀ {w : World} (o : Nat) (u : Value), Kpt S w0 w → Kpt S w0 (w.setCell ⟨N, o, none⟩ u) := fun o u hk => hk.set (p := ⟨N, o, none⟩) (fun h => absurd h (by show ¬ N < _; omega)) u
  exact q _ _ (q _ _ (q _ _ (q _ _ (q _ _ (q _ _ (q _ _ (q _ _ hk)))))))
theorem put8_keep {w : World} {N b : Nat} {p q r s : Value} (h : b ≠ N) (hk : w.cell? ⟨b, 0, none⟩ = some p ∧ w.cell? ⟨b, 1, none⟩ = some q ∧ w.cell? ⟨b, 2, none⟩ = some r ∧ w.cell? ⟨b, 3, none⟩ = some s) (a0 b0 c0 d0 e0 f0 g0 h0 : Value) :
    (put8 w N a0 b0 c0 d0 e0 f0 g0 h0).cell? ⟨b, 0, none⟩ = some p ∧ (put8 w N a0 b0 c0 d0 e0 f0 g0 h0).cell? ⟨b, 1, none⟩ = some q ∧ (put8 w N a0 b0 c0 d0 e0 f0 g0 h0).cell? ⟨b, 2, none⟩ = some r ∧ (put8 w N a0 b0 c0 d0 e0 f0 g0 h0).cell? ⟨b, 3, none⟩ = some s := by
  have e : ∀ i j, (⟨N, i, none⟩ : Addr) ≠ ⟨b, j, none⟩ := fun i j q => h (by injection q with q1; exact q1.symm)
  unfold put8
  simp only [cell_set_ne (e _ _)]
  exact hk
theorem put8_ne {w : World} {N k : Nat} (h : k ≠ N) (a b c d e f g i : Value) : (put8 w N a b c d e f g i).heap[k]? = w.heap[k]? := by
  unfold put8
  rw [heap_set_ne h, heap_set_ne h, heap_set_ne h, heap_set_ne h, heap_set_ne h, heap_set_ne h, heap_set_ne h, heap_set_ne h]

theorem put8_self (w : World) (N : Nat) (a b c d e f g h : Value) : Kpt (fun k => k = N) w (put8 w N a b c d e f g h) := by
  have q : ∀ {w0 w : World} (o : Nat) (u : Value), Kpt (fun k => k = N) w0 w → Kpt (fun k => k = N) w0 (w.setCell ⟨N, o, none⟩ u) := fun o u hk => hk.set (p := ⟨N, o, none⟩) (fun _ => rfl) u
  exact q _ _ (q _ _ (q _ _ (q _ _ (q _ _ (q _ _ (q _ _ (q _ _ (Kpt.refl _ _))))))))
theorem OwnPairs.put8 {w : World} {B : Nat} {v : Value} {l : List (List UInt8 × List UInt8)} (h : OwnPairs w B v l) {N : Nat} (hN : N < B) (a b c d e f g i : Value) : PairsAt (Go.Proofs.YtacdkcapejijdaaGreatDoor.put8 w N a b c d e f g i) v l :=
  (h.kpt (put8_self w N a b c d e f g i) (fun _ hg e => h.ne (.inl hN) (by rw [hg, e]))).at

set_option maxHeartbeats 4000000 in
set_option maxRecDepth 100000 in
theorem next_any (X : Nat) (s : ByteArray) (st : Int) (w : World) (hE : Env w) (hX : envB ≤ X) (hb : w.heap[X]? = some (parserObj s st)) (hs : s.size ≤ 1073741824) :
    Calls Tryz.prog 31 #[.pointer (some ⟨X, 0, none⟩)] w (NextPost X (next ⟨bl s, st⟩) w) := by
  obtain ⟨R, hR⟩ : ∃ R, R = next ⟨bl s, st⟩ := ⟨_, rfl⟩
  rw [← hR]
  have hlt := lt_of_blk hb
  have hne : X ≠ w.heap.size := by omega
  have hb0 : (w.alloc (.cells rqZero 35 (0, 0))).heap[X]? = some (parserObj s st) := by rw [Lib.alloc_old _ _ _ hlt]; exact hb
  obtain ⟨w0, hw0⟩ : ∃ w0, w0 = w.alloc (.cells rqZero 35 (0, 0)) := ⟨_, rfl⟩
  have hk0 : Kpt (fun k => k = X) w w0 := by rw [hw0]; exact (Kpt.refl _ _).alloc _
  have hN0 : w0.heap[w.heap.size]? = some (.cells rqZero 35 (0, 0)) := by rw [hw0]; exact heap_alloc_new _ _
  have hw0' : w.alloc (.cells #[.string ⟨#[]⟩, .string ⟨#[]⟩, .int .i64 0, .slice none 0 0, .string ⟨#[]⟩, .slice none 0 0, .string ⟨#[]⟩, .bool false] 35) = w0 := hw0.symm
  rw [← hw0] at hb0
  have hg := pgiven_any X s st w0 hb0
  have hbr := broken_any X s st w0 hb0
  have hbk := fun n => breaks_any X s st n w0 hb0
  have c1 : w0.cell? ⟨X, 1, none⟩ = some (.string s) := by rw [blk_cell hb0]; rfl
  have c2 : w0.cell? ⟨X, 2, none⟩ = some (.int .i64 st) := by rw [blk_cell hb0]; rfl
  have f1 := blk_free hb0 1
  obtain ⟨⟨n0, n1, n2, n3, n4, n5, n6, n7⟩, nf⟩ := cells8 hN0
  have g0 := nf 0; have g1 := nf 1; have g2 := nf 2; have g3 := nf 3; have g4 := nf 4; have g5 := nf 5; have g6 := nf 6; have g7 := nf 7
  clear nf
  have HB := Lib.hid hb; have HB0 := Lib.hid hb0; have HG := Lib.hid hg; have HBR := Lib.hid hbr; have HBK := Lib.hid hbk; have HN0 := Lib.hid hN0; have HW0 := Lib.hid hw0'; have HR := Lib.hid hR; have HE := Lib.hid hE; have HK0 := Lib.hid hk0
  clear hb hb0 hg hbr hbk hN0 hw0 hw0' hR hE hk0
  go_enter Tryz.func31, Tryz.ntmps31
  go_upto_region 1 with fail
  rw [HW0.out]
  by_cases h0 : st = 0
  · have t0 : (st != 0) = false := by rw [h0]; rfl
    subst h0
    go_wp2_with (first | (go_at_call 40; refine HG.out.mono ?_; rintro e w1 ⟨rfl, rfl⟩))
    obtain ⟨mx, hm⟩ := (HE.out.kpt HK0.out (by rintro k rfl; exact hX)).mx
    go_at_call 43
    refine (Tryz.strings_Index s ⟨#[13, 10, 13, 10]⟩ mx w1 (by omega) hm).mono ?_
    rintro e w2 ⟨rfl, rfl⟩
    clear hm
    have hix : Lib.index s.data.toList (ByteArray.mk #[13, 10, 13, 10]).data.toList = Lib.index (bl s) endOfHead := rfl
    rw [hix]
    have hcase : Lib.index (bl s) endOfHead = -1 ∨ ∃ i : Nat, Lib.index (bl s) endOfHead = i ∧ i + 4 ≤ s.size := Lib.indexB_cases s ⟨#[13, 10, 13, 10]⟩
    have hR1 := HR.out
    unfold next at hR1
    rw [if_neg (by simp)] at hR1
    simp only at hR1
    generalize Lib.index (bl s) endOfHead = ix at hR1 hcase
    clear hix
    rw [bl_length] at hR1
    rcases hcase with rfl | ⟨i, rfl, hi⟩
    · rw [if_pos (by decide)] at hR1
      by_cases hbig : 4096 < s.size
      · rw [if_pos hbig] at hR1
        have HX := Lib.hid hR1; clear hR1
        go_wp2_with fail
        go_at_call 44
        refine (HBK.out _).mono ?_
        rintro e w3 ⟨rfl, hb3, hk3⟩
        rw [rq_lit]
        have hN3 := (hk3.block w.heap.size (lt_of_blk HN0.out) (fun e => hne e.symm)).trans HN0.out
        clear n0 n1 n2 n3 n4 n5 n6 n7 g0 g1 g2 g3 g4 g5 g6 g7 c1 c2 f1
        obtain ⟨⟨n0, n1, n2, n3, n4, n5, n6, n7⟩, nf⟩ := cells8 hN3
        have g0 := nf 0; have g1 := nf 1; have g2 := nf 2; have g3 := nf 3; have g4 := nf 4; have g5 := nf 5; have g6 := nf 6; have g7 := nf 7
        have HN3 := Lib.hid hN3; have HB3 := Lib.hid hb3; clear nf hN3 hb3
        go_wp2_with fail
        refine bodyPost_ret (results_cell_row3 rfl _ _ w.heap.size 35 rqZero (0, 0) _ rfl (put8_heap HN3.out (.string ⟨#[]⟩) (.string ⟨#[]⟩) (.int .i64 0) (.slice none 0 0) (.string ⟨#[]⟩) (.slice none 0 0) (.string ⟨#[]⟩) (.bool false)) Tryz.underlying35 rfl (by kernel_rfl)) rfl ?_
        exact next_zero HX.out rfl ((put8_ne hne _ _ _ _ _ _ _ _).trans HB3.out) (put8_kpt (HK0.out.trans hk3) (Nat.le_refl _) _ _ _ _ _ _ _ _)
      · rw [if_neg hbig] at hR1
        have HX := Lib.hid hR1; clear hR1
        go_wp2_with fail
        refine bodyPost_ret (results_cell_row3 rfl _ _ w.heap.size 35 rqZero (0, 0) _ rfl (put8_heap HN0.out (.string ⟨#[]⟩) (.string ⟨#[]⟩) (.int .i64 0) (.slice none 0 0) (.string ⟨#[]⟩) (.slice none 0 0) (.string ⟨#[]⟩) (.bool false)) Tryz.underlying35 rfl (by kernel_rfl)) rfl ?_
        exact next_zero HX.out rfl ((put8_ne hne _ _ _ _ _ _ _ _).trans HB0.out) (put8_kpt HK0.out (Nat.le_refl _) _ _ _ _ _ _ _ _)
    · rw [if_neg (by omega)] at hR1
      have eat : ((i : Int).toNat + 4) = i + 4 := by omega
      simp only [eat] at hR1
      clear eat
      have hpp := fun W hE => parse_any (s.extract 0 (i + 4)) W hE (by rw [size_extract]; omega)
      rw [bl_take] at hpp
      have hgd := headParse_good ((bl s).take (i + 4))
      generalize headParse ((bl s).take (i + 4)) = hp at hR1 hpp hgd
      obtain ⟨h, hst, hat⟩ := hp
      simp only at hR1 hpp hgd
      have HPP := Lib.hid hpp; have HR1 := Lib.hid hR1; have HGD := Lib.hid hgd; clear hpp hR1 hgd
      have hE1 := HE.out.kpt HK0.out (by rintro k rfl; exact hX)
      have HE1 := Lib.hid hE1; clear hE1
      go_wp2_with fail
      go_at_call 45
      refine (HPP.out _ HE1.out).mono ?_
      rintro e w3 ⟨v, rfl, ho, hb3⟩
      obtain ⟨m0, t0_, minor, fl⟩ := h
      simp only at ho
      obtain ⟨hm, em, bm⟩ := str_of m0
      obtain ⟨ht, et, bt⟩ := str_of t0_
      subst bm; subst bt
      simp only [em, et]
      clear em et
      obtain ⟨va, vc, rfl⟩ := ho.len
      have hX3 := (hb3.block X (lt_of_blk HB0.out)).trans HB0.out
      have hN3 := (hb3.block w.heap.size (lt_of_blk HN0.out)).trans HN0.out
      have hk3 := HK0.out.below hb3
      clear n0 n1 n2 n3 n4 n5 n6 n7 g0 g1 g2 g3 g4 g5 g6 g7 c1 c2 f1
      obtain ⟨w4, hw4⟩ : ∃ w4, w4 = w3.alloc (.cells #[.string hm, .string ht, .int .i64 minor, .slice va fl.length vc] 33 (0, 0)) := ⟨_, rfl⟩
      have hb34 : Below w3.heap.size w3 w4 := by rw [hw4]; exact (Below.refl _ _).alloc (Nat.le_refl _) _
      have hH4 : w4.heap[w3.heap.size]? = some (.cells #[.string hm, .string ht, .int .i64 minor, .slice va fl.length vc] 33 (0, 0)) := by rw [hw4]; exact heap_alloc_new _ _
      have hX4 := (hb34.block X (lt_of_blk hX3)).trans hX3
      have hN4 := (hb34.block w.heap.size (lt_of_blk hN3)).trans hN3
      have hk4 := hk3.below hb34
      have ho4 := ho.keep hb34
      have HW4 := Lib.hid hw4.symm; have HX4 := Lib.hid hX4; have HN4 := Lib.hid hN4; have HK4 := Lib.hid hk4; have HO4 := Lib.hid ho4; have HH4 := Lib.hid hH4
      clear hw4 hX4 hN4 hk4 ho4 hH4 hX3 hN3 hk3 ho
      go_upto_region 9 with fail
      rw [HW4.out]
      by_cases hs0 : hst = 0
      · have t1 : (hst != 0) = false := by rw [hs0]; rfl
        subst hs0
        have hx := HR1.out
        rw [if_neg (by simp)] at hx
        have hbody := fun W (h1 : Env W) (h2 : PairsAt W (.slice va fl.length vc) fl) => body_any hm ht minor (.slice va fl.length vc) fl W h1 h2 HGD.out.1 HGD.out.sizes
        have hbc := bodyOf_range ⟨bl hm, bl ht, minor, fl⟩
        generalize bodyOf ⟨bl hm, bl ht, minor, fl⟩ = bo at hx hbody hbc
        obtain ⟨kd, bn, bst⟩ := bo
        simp only at hx hbc
        obtain ⟨hbc, hbn0, hbn1⟩ := hbc
        have HX2 := Lib.hid hx; have HBD := Lib.hid hbody; clear hx hbody
        obtain ⟨d0, d1, d2, d3⟩ := cells4 HH4.out
        have hE4 := HE.out.kpt HK4.out (by rintro k rfl; exact hX)
        have HE4 := Lib.hid hE4; clear hE4
        go_wp2_with fail
        go_at_call 46
        refine (HBD.out _ HE4.out HO4.out.at).mono ?_
        rintro e w5 ⟨he, hb5⟩
        simp only at he
        subst he
        have hX5 := (hb5.block X (lt_of_blk HX4.out)).trans HX4.out
        have hN5 := (hb5.block w.heap.size (lt_of_blk HN4.out)).trans HN4.out
        have hH5 := (hb5.block w3.heap.size (lt_of_blk HH4.out)).trans HH4.out
        have ho5 := HO4.out.keep hb5
        have hk5 := HK4.out.below hb5
        clear d0 d1 d2 d3
        have HX5 := Lib.hid hX5; have HN5 := Lib.hid hN5; have HH5 := Lib.hid hH5; have HO5 := Lib.hid ho5; have HK5 := Lib.hid hk5
        clear hX5 hN5 hH5 ho5 hk5
        by_cases hb0 : bst = 0
        · have t2 : (bst != 0) = false := by rw [hb0]; rfl
          subst hb0
          have hx := HX2.out
          rw [if_neg (by simp)] at hx
          have HX3 := Lib.hid hx; clear hx
          go_upto_block 0 with fail
          go_cut [10, 11, 12] (fun a b c wx => ∃ (bb : ByteArray) (en : Int) (more : Bool), a = .string bb ∧ b = .int .i64 en ∧ c = .bool more ∧ 0 ≤ en ∧ (more = false → en ≤ s.size) ∧
            R = (if more = true then (⟨bl s, 0⟩, Rq.zero, false, 0) else (⟨(bl s).drop en.toNat, 0⟩, ⟨⟨bl hm, bl ht, minor, fl⟩, (target (bl ht)).1, (target (bl ht)).2.1, bl bb, closes ⟨bl hm, bl ht, minor, fl⟩⟩, true, 0)) ∧ Below w5.heap.size w5 wx)
          case first =>
            have hx := HX3.out
            rw [bodyAt, bl_length] at hx
            rcases hbc with rfl | rfl | rfl
            · have hx2 : R = (⟨(bl s).drop (i + 4), 0⟩, ⟨⟨bl hm, bl ht, minor, fl⟩, (target (bl ht)).1, (target (bl ht)).2.1, [], closes ⟨bl hm, bl ht, minor, fl⟩⟩, true, 0) := by rw [hx]; rfl
              have HX4 := Lib.hid hx2; clear hx hx2
              go_wp2_with fail
              go_meet
              exact ⟨⟨#[]⟩, ((i + 4 : Nat) : Int), false, rfl, by go_num, rfl, by omega, fun _ => by omega, by rw [HX4.out]; rfl, Below.refl _ _⟩
            · have hx2 : R = (if s.size < i + 4 + bn.toNat then (⟨bl s, 0⟩, Rq.zero, false, 0) else (⟨(bl s).drop (i + 4 + bn.toNat), 0⟩, ⟨⟨bl hm, bl ht, minor, fl⟩, (target (bl ht)).1, (target (bl ht)).2.1, ((bl s).drop (i + 4)).take bn.toNat, closes ⟨bl hm, bl ht, minor, fl⟩⟩, true, 0)) := by
                rw [hx, if_pos rfl]
                by_cases hq : s.size < i + 4 + bn.toNat
                · rw [if_pos hq, if_pos hq]; rfl
                · rw [if_neg hq, if_neg hq]; rfl
              have HX6 := Lib.hid hx2; clear hx hx2
              obtain ⟨nn, rfl⟩ : ∃ nn : Nat, bn = nn := ⟨bn.toNat, by omega⟩
              have c1 : w5.cell? ⟨X, 1, none⟩ = some (.string s) := by rw [blk_cell HX5.out]; rfl
              by_cases hq : s.size < i + 4 + nn
              · have hx2 : R = (⟨bl s, 0⟩, Rq.zero, false, 0) := by rw [HX6.out, if_pos (by omega)]
                have HX7 := Lib.hid hx2; clear hx2
                have hqi : (s.size : Int) < (i : Int) + 4 + (nn : Int) := by omega
                go_wp2_with fail
                go_meet
                exact ⟨⟨#[]⟩, ((i + 4 + nn : Nat) : Int), true, rfl, by go_num, rfl, by omega, fun h => absurd h (by decide), by rw [HX7.out]; rfl, Below.refl _ _⟩
              · have hx2 : R = (⟨(bl s).drop (i + 4 + nn), 0⟩, ⟨⟨bl hm, bl ht, minor, fl⟩, (target (bl ht)).1, (target (bl ht)).2.1, ((bl s).drop (i + 4)).take nn, closes ⟨bl hm, bl ht, minor, fl⟩⟩, true, 0) := by rw [HX6.out, if_neg (by omega)]; rfl
                have HX7 := Lib.hid hx2; clear hx2
                have hqi : ¬ ((s.size : Int) < (i : Int) + 4 + (nn : Int)) := by omega
                go_wp2_with fail
                go_meet
                exact ⟨s.extract (i + 4) (i + 4 + nn), ((i + 4 + nn : Nat) : Int), false, rfl, by go_num, rfl, by omega, fun _ => by omega, by rw [HX7.out, bl_extract, show i + 4 + nn - (i + 4) = nn by omega]; rfl, Below.refl _ _⟩
            · have hch := fun W => chunks_any s (i + 4) W hi hs
              have hend := chunks_end (bl s) (i + 4)
              rw [bl_length] at hend
              have hx2 : R = (if (chunks (bl s) (i + 4)).2.2.2 ≠ 0 then breaks (chunks (bl s) (i + 4)).2.2.2 else if (chunks (bl s) (i + 4)).2.2.1 = true then (⟨bl s, 0⟩, Rq.zero, false, 0) else (⟨(bl s).drop (chunks (bl s) (i + 4)).2.1.toNat, 0⟩, ⟨⟨bl hm, bl ht, minor, fl⟩, (target (bl ht)).1, (target (bl ht)).2.1, (chunks (bl s) (i + 4)).1, closes ⟨bl hm, bl ht, minor, fl⟩⟩, true, 0)) := by rw [hx]; rfl
              generalize chunks (bl s) (i + 4) = ch at hch hend hx2
              obtain ⟨cb, ce, cm, cs⟩ := ch
              simp only at hend hx2
              have HCH := Lib.hid hch; have HX6 := Lib.hid hx2; clear hch hx hx2
              have c1 : w5.cell? ⟨X, 1, none⟩ = some (.string s) := by rw [blk_cell HX5.out]; rfl
              go_wp2_with fail
              go_at_call 47
              have ei : (i : Int) + 4 = ((i + 4 : Nat) : Int) := by omega
              rw [ei]
              refine (HCH.out _).mono ?_
              rintro e w6 ⟨he, hb6⟩
              simp only at he
              subst he
              rw [← ei]
              clear ei
              have hX6 := (hb6.block X (lt_of_blk HX5.out)).trans HX5.out
              have hN6 := (hb6.block w.heap.size (lt_of_blk HN5.out)).trans HN5.out
              have HX6b := Lib.hid hX6; have HN6 := Lib.hid hN6; have HK6 := Lib.hid (HK5.out.below hb6)
              clear hX6 hN6
              by_cases hc0 : cs = 0
              · have t3 : (cs != 0) = false := by rw [hc0]; rfl
                subst hc0
                have hx := HX6.out
                rw [if_neg (by simp)] at hx
                have HX7 := Lib.hid hx; clear hx
                go_wp2_with fail
                go_meet
                exact ⟨⟨cb.toArray⟩, ce, cm, rfl, rfl, rfl, hend.1, fun _ => hend.2, HX7.out, hb6⟩
              · have t3 : (cs != 0) = true := by simpa using hc0
                have hx := HX6.out
                rw [if_pos hc0] at hx
                have HX7 := Lib.hid hx; clear hx hc0
                go_wp2_with fail
                go_at_call 44
                refine (breaks_any X s 0 cs w6 HX6b.out).mono ?_
                rintro e w7 ⟨rfl, hbB, hkB⟩
                rw [rq_lit]
                have hNB := (hkB.block w.heap.size (lt_of_blk HN6.out) (fun e => hne e.symm)).trans HN6.out
                obtain ⟨⟨n0, n1, n2, n3, n4, n5, n6, n7⟩, nf⟩ := cells8 hNB
                have g0 := nf 0; have g1 := nf 1; have g2 := nf 2; have g3 := nf 3; have g4 := nf 4; have g5 := nf 5; have g6 := nf 6; have g7 := nf 7
                have HNB := Lib.hid hNB; have HBB := Lib.hid hbB; clear nf hNB hbB
                go_wp2_with fail
                refine bodyPost_ret (results_cell_row3 rfl _ _ w.heap.size 35 rqZero (0, 0) _ rfl (put8_heap HNB.out (.string ⟨#[]⟩) (.string ⟨#[]⟩) (.int .i64 0) (.slice none 0 0) (.string ⟨#[]⟩) (.slice none 0 0) (.string ⟨#[]⟩) (.bool false)) Tryz.underlying35 rfl (by kernel_rfl)) rfl ?_
                exact next_zero HX7.out rfl ((put8_ne hne _ _ _ _ _ _ _ _).trans HBB.out) (put8_kpt (HK6.out.trans hkB) (Nat.le_refl _) _ _ _ _ _ _ _ _)
          case rest =>
            obtain ⟨bb, en, more, rfl, rfl, rfl, hen0, hen1, hRR, hb6⟩ := hcut
            have hX6 := (hb6.block X (lt_of_blk HX5.out)).trans HX5.out
            have hN6 := (hb6.block w.heap.size (lt_of_blk HN5.out)).trans HN5.out
            have hH6 := (hb6.block w3.heap.size (lt_of_blk HH5.out)).trans HH5.out
            have ho6 := HO5.out.keep hb6
            have hk6 := HK5.out.below hb6
            have HX6 := Lib.hid hX6; have HN6 := Lib.hid hN6; have HH6 := Lib.hid hH6; have HO6 := Lib.hid ho6; have HK6 := Lib.hid hk6; have HRR := Lib.hid hRR
            clear hX6 hN6 hH6 ho6 hk6 hRR
            cases more
            · have hen1 := hen1 rfl
              have hx := HRR.out
              rw [if_neg (by simp)] at hx
              have HX7 := Lib.hid hx; clear hx
              obtain ⟨en, rfl⟩ : ∃ q : Nat, en = q := ⟨en.toNat, by omega⟩
              have c1 : wc.cell? ⟨X, 1, none⟩ = some (.string s) := by rw [blk_cell HX6.out]; rfl
              have f1 := blk_free HX6.out 1
              go_upto_region 28 with fail
              obtain ⟨w7, hw7⟩ : ∃ w7, w7 = wc.setCell ⟨X, 1, none⟩ (.string (s.extract en s.size)) := ⟨_, rfl⟩
              rw [← hw7]
              have hneN : w.heap.size ≠ X := fun e => hne e.symm
              have hneH : w3.heap.size ≠ X := by have := hb3.size; have := lt_of_blk HB0.out; omega
              have hX7 : w7.heap[X]? = some (parserObj (s.extract en s.size) 0) := by rw [hw7]; exact heap_set HX6.out 1 _
              have hN7 : w7.heap[w.heap.size]? = some (.cells rqZero 35 (0, 0)) := by rw [hw7, heap_set_ne hneN]; exact HN6.out
              have hH7 : w7.heap[w3.heap.size]? = some (.cells #[.string hm, .string ht, .int .i64 minor, .slice va fl.length vc] 33 (0, 0)) := by rw [hw7, heap_set_ne hneH]; exact HH6.out
              have hk7 : Kpt (fun k => k = X) w w7 := by rw [hw7]; exact HK6.out.set (p := ⟨X, 1, none⟩) (fun _ => rfl) _
              have HX8 := Lib.hid hX7; have HN7 := Lib.hid hN7; have HH7 := Lib.hid hH7; have HK7 := Lib.hid hk7
              clear hX7 hN7 hH7 hk7 c1 f1
              have ho7 : OwnPairs w7 w2.heap.size (.slice va fl.length vc) fl := by rw [hw7]; exact HO6.out.set (a := ⟨X, 1, none⟩) (lt_of_blk HB0.out) _
              have HO7 := Lib.hid ho7; clear ho7 hw7
              have htg := fun W hE => target_any ht W hE (by have := HGD.out.2.2; simp only [bl_length] at this; omega)
              have hcl := fun W (h1 : Env W) (h2 : PairsAt W (.slice va fl.length vc) fl) => closes_any hm ht minor (.slice va fl.length vc) fl W h1 h2 HGD.out.1 HGD.out.sizes
              have hx := HX7.out
              generalize target (bl ht) = T at hx htg
              generalize closes ⟨bl hm, bl ht, minor, fl⟩ = cl at hx hcl
              have HX9 := Lib.hid hx; have HTG := Lib.hid htg; have HCL := Lib.hid hcl; clear hx htg hcl
              obtain ⟨d0, d1, d2, d3⟩ := cells4 HH7.out
              have hE7 := HE.out.kpt HK7.out (by rintro k rfl; exact hX)
              have HE7 := Lib.hid hE7; clear hE7
              go_wp2_with fail
              go_at_call 48
              refine (HTG.out _ HE7.out).mono ?_
              rintro e w8 ⟨vq, q, rfl, hoq, hb8⟩
              go_upto_region 29 with fail
              have hX8 := (hb8.block X (lt_of_blk HX8.out)).trans HX8.out
              have hN8 := (hb8.block w.heap.size (lt_of_blk HN7.out)).trans HN7.out
              have hH8 := (hb8.block w3.heap.size (lt_of_blk HH7.out)).trans HH7.out
              clear d0 d1 d2 d3
              obtain ⟨d0, d1, d2, d3⟩ := cells4 hH8
              have hp8 := (HO7.out.keep hb8).at
              have hE8 : Env w8.drew := (HE.out.kpt (HK7.out.below hb8) (by rintro k rfl; exact hX)).drewN 1
              obtain ⟨qa, qc, rfl⟩ := hoq.len
              have e0 : w8.drew.cell? ⟨w3.heap.size, 0, none⟩ = _ := d0; have e1 : w8.drew.cell? ⟨w3.heap.size, 1, none⟩ = _ := d1; have e2 : w8.drew.cell? ⟨w3.heap.size, 2, none⟩ = _ := d2; have e3 : w8.drew.cell? ⟨w3.heap.size, 3, none⟩ = _ := d3
              have hneHN : w3.heap.size ≠ w.heap.size := by have := lt_of_blk HN0.out; have := hb3.size; omega
              have HXA := Lib.hid hX8; have HNA := Lib.hid hN8; have HHA := Lib.hid hH8; have HPA := Lib.hid hp8; have HEA := Lib.hid hE8; have HOQ := Lib.hid hoq
              clear hX8 hN8 hH8 hp8 hE8 hoq
              go_region_held3 (fun w' => w'.cell? ⟨w3.heap.size, 0, none⟩ = some (.string hm) ∧ w'.cell? ⟨w3.heap.size, 1, none⟩ = some (.string ht) ∧ w'.cell? ⟨w3.heap.size, 2, none⟩ = some (.int .i64 minor) ∧ w'.cell? ⟨w3.heap.size, 3, none⟩ = some (.slice va fl.length vc))
                (first | with_reducible exact ⟨d0, d1, d2, d3⟩ | with_reducible exact ⟨e0, e1, e2, e3⟩ | with_reducible exact ⟨ca0, ca1, ca2, ca3⟩ | exact put8_keep hneHN ⟨ca0, ca1, ca2, ca3⟩ _ _ _ _ _ _ _ _)
                (first
                | (go_at_call 49; refine (HCL.out _ HEA.out (HPA.out.below (Below.refl _ _).drew)).mono ?_; rintro e w9 ⟨rfl, hb9⟩; have HH9 := Lib.hid ((hb9.block _ (lt_of_blk HHA.out)).trans HHA.out); obtain ⟨ca0, ca1, ca2, ca3⟩ := cells4 HH9.out; have HN9 := Lib.hid ((hb9.block _ (lt_of_blk HNA.out)).trans HNA.out); obtain ⟨⟨n0, n1, n2, n3, n4, n5, n6, n7⟩, nf⟩ := cells8 HN9.out; have g0 := nf 0; have g1 := nf 1; have g2 := nf 2; have g3 := nf 3; have g4 := nf 4; have g5 := nf 5; have g6 := nf 6; have g7 := nf 7))
              go_wp2_with fail
              have hb89 := (Below.refl w8.heap.size w8).drew.trans hb9
              have hN2 := lt_of_blk HN0.out
              have hs7 := hb8.size
              have hN7 := lt_of_blk HN7.out
              refine bodyPost_ret (results_cell_row3 rfl _ _ w.heap.size 35 #[.string hm, .string ht, .int .i64 minor, .slice va fl.length vc, .string ⟨T.1.toArray⟩, .slice qa T.2.1.length qc, .string bb, .bool cl] (0, 0) _ rfl (put8_heap HN9.out (.string hm) (.string ht) (.int .i64 minor) (.slice va fl.length vc) (.string ⟨T.1.toArray⟩) (.slice qa T.2.1.length qc) (.string bb) (.bool cl)) Tryz.underlying35 rfl (by kernel_rfl)) rfl ?_
              refine ⟨.slice va fl.length vc, .slice qa T.2.1.length qc, ?_, ?_, ?_, ?_, ?_, ?_, ?_⟩
              · rw [HX9.out]; rfl
              · rw [HX9.out]
                show _ = some (parserObj ⟨((bl s).drop en).toArray⟩ 0)
                rw [← bl_drop]
                exact (put8_ne hne _ _ _ _ _ _ _ _).trans ((hb89.block X (lt_of_blk HXA.out)).trans HXA.out)
              · rw [HX9.out]
                exact ((HO7.out.keep hb8).keep hb89).put8 hN2 _ _ _ _ _ _ _ _
              · rw [HX9.out]
                exact (HOQ.out.keep hb89).put8 hN7 _ _ _ _ _ _ _ _
              · exact put8_kpt ((HK7.out.below hb8).below hb89) (Nat.le_refl _) _ _ _ _ _ _ _ _
              · exact fun g hg => Nat.le_trans (Nat.le_of_lt hN2) (HO7.out.blk g hg)
              · exact fun g hg => Nat.le_trans (Nat.le_of_lt hN7) (HOQ.out.blk g hg)
            · have hx := HRR.out
              rw [if_pos rfl] at hx
              have HX7 := Lib.hid hx; clear hx
              obtain ⟨⟨n0, n1, n2, n3, n4, n5, n6, n7⟩, nf⟩ := cells8 HN6.out
              have g0 := nf 0; have g1 := nf 1; have g2 := nf 2; have g3 := nf 3; have g4 := nf 4; have g5 := nf 5; have g6 := nf 6; have g7 := nf 7
              clear nf
              go_wp2_with fail
              refine bodyPost_ret (results_cell_row3 rfl _ _ w.heap.size 35 rqZero (0, 0) _ rfl (put8_heap HN6.out (.string ⟨#[]⟩) (.string ⟨#[]⟩) (.int .i64 0) (.slice none 0 0) (.string ⟨#[]⟩) (.slice none 0 0) (.string ⟨#[]⟩) (.bool false)) Tryz.underlying35 rfl (by kernel_rfl)) rfl ?_
              exact next_zero HX7.out rfl ((put8_ne hne _ _ _ _ _ _ _ _).trans HX6.out) (put8_kpt HK6.out (Nat.le_refl _) _ _ _ _ _ _ _ _)
        · have t2 : (bst != 0) = true := by simpa using hb0
          have hx := HX2.out
          rw [if_pos hb0] at hx
          have HX3 := Lib.hid hx; clear hx hb0
          go_wp2_with fail
          go_at_call 44
          refine (breaks_any X s 0 bst w5 HX5.out).mono ?_
          rintro e w6 ⟨rfl, hbB, hkB⟩
          rw [rq_lit]
          have hNB := (hkB.block w.heap.size (lt_of_blk HN5.out) (fun e => hne e.symm)).trans HN5.out
          obtain ⟨⟨n0, n1, n2, n3, n4, n5, n6, n7⟩, nf⟩ := cells8 hNB
          have g0 := nf 0; have g1 := nf 1; have g2 := nf 2; have g3 := nf 3; have g4 := nf 4; have g5 := nf 5; have g6 := nf 6; have g7 := nf 7
          have HNB := Lib.hid hNB; have HBB := Lib.hid hbB; clear nf hNB hbB
          go_wp2_with fail
          refine bodyPost_ret (results_cell_row3 rfl _ _ w.heap.size 35 rqZero (0, 0) _ rfl (put8_heap HNB.out (.string ⟨#[]⟩) (.string ⟨#[]⟩) (.int .i64 0) (.slice none 0 0) (.string ⟨#[]⟩) (.slice none 0 0) (.string ⟨#[]⟩) (.bool false)) Tryz.underlying35 rfl (by kernel_rfl)) rfl ?_
          exact next_zero HX3.out rfl ((put8_ne hne _ _ _ _ _ _ _ _).trans HBB.out) (put8_kpt (HK5.out.trans hkB) (Nat.le_refl _) _ _ _ _ _ _ _ _)
      · have t1 : (hst != 0) = true := by simpa using hs0
        have hx := HR1.out
        rw [if_pos hs0] at hx
        have HX2 := Lib.hid hx; clear hx hs0
        go_wp2_with fail
        go_at_call 44
        refine (breaks_any X s 0 hst w4 HX4.out).mono ?_
        rintro e w5 ⟨rfl, hbB, hkB⟩
        rw [rq_lit]
        have hNB := (hkB.block w.heap.size (lt_of_blk HN4.out) (fun e => hne e.symm)).trans HN4.out
        obtain ⟨⟨n0, n1, n2, n3, n4, n5, n6, n7⟩, nf⟩ := cells8 hNB
        have g0 := nf 0; have g1 := nf 1; have g2 := nf 2; have g3 := nf 3; have g4 := nf 4; have g5 := nf 5; have g6 := nf 6; have g7 := nf 7
        have HNB := Lib.hid hNB; have HBB := Lib.hid hbB; clear nf hNB hbB
        go_wp2_with fail
        refine bodyPost_ret (results_cell_row3 rfl _ _ w.heap.size 35 rqZero (0, 0) _ rfl (put8_heap HNB.out (.string ⟨#[]⟩) (.string ⟨#[]⟩) (.int .i64 0) (.slice none 0 0) (.string ⟨#[]⟩) (.slice none 0 0) (.string ⟨#[]⟩) (.bool false)) Tryz.underlying35 rfl (by kernel_rfl)) rfl ?_
        exact next_zero HX2.out rfl ((put8_ne hne _ _ _ _ _ _ _ _).trans HBB.out) (put8_kpt (HK4.out.trans hkB) (Nat.le_refl _) _ _ _ _ _ _ _ _)
  · have t0 : (st != 0) = true := by simpa using h0
    have hx : R = (⟨bl s, st⟩, Rq.zero, false, st) := by rw [HR.out]; unfold next; rw [if_pos (show (⟨bl s, st⟩ : Ps).status ≠ 0 from h0)]
    have HX := Lib.hid hx; clear hx h0
    go_wp2_with (first | (go_at_call 40; refine HG.out.mono ?_; rintro e w1 ⟨rfl, rfl⟩) | (go_at_call 42; refine HBR.out.mono ?_; rintro e w1 ⟨rfl, rfl⟩))
    refine bodyPost_ret (results_cell_row3 rfl _ _ w.heap.size 35 rqZero (0, 0) _ rfl (put8_heap HN0.out (.string ⟨#[]⟩) (.string ⟨#[]⟩) (.int .i64 0) (.slice none 0 0) (.string ⟨#[]⟩) (.slice none 0 0) (.string ⟨#[]⟩) (.bool false)) Tryz.underlying35 rfl (by kernel_rfl)) rfl ?_
    exact next_zero HX.out rfl ((put8_ne hne _ _ _ _ _ _ _ _).trans HB0.out) (put8_kpt HK0.out (Nat.le_refl _) _ _ _ _ _ _ _ _)
end Go.Proofs.YtacdkcapejijdaaGreatDoor
