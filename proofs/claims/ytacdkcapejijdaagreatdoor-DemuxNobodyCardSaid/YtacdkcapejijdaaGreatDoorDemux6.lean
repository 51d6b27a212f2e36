/- package demux: emits, hands. -/
import Derived.Test.YtacdkcapejijdaaGreatDoorDemux5
namespace Go.Proofs.YtacdkcapejijdaaGreatDoor
open Go.RowKit Go.Maps Go.WideMaps Clo

def actCells (a : Clo.Act) (v q : Value) : List Value :=
  [.int .i64 a.kind, .string ⟨a.out.toArray⟩, .bool a.close, .int .i64 a.user, .string ⟨a.token.toArray⟩, .string ⟨a.name.toArray⟩, .string ⟨a.word.toArray⟩,
   .string ⟨a.request.head.method.toArray⟩, .string ⟨a.request.head.target.toArray⟩, .int .i64 a.request.head.minor, v, .string ⟨a.request.path.toArray⟩, q, .string ⟨a.request.body.toArray⟩, .bool a.request.close]
def actV (a : Clo.Act) (v q : Value) : Value := .agg (actCells a v q).toArray
def actZero : Array Value := #[.int .i64 0, .string ⟨#[]⟩, .bool false, .int .i64 0, .string ⟨#[]⟩, .string ⟨#[]⟩, .string ⟨#[]⟩, .string ⟨#[]⟩, .string ⟨#[]⟩, .int .i64 0, .slice none 0 0, .string ⟨#[]⟩, .slice none 0 0, .string ⟨#[]⟩, .bool false]

/-- Cells written one behind the other. -/
def putL (w : World) (N : Nat) : Nat → List Value → World
  | _, [] => w
  | o, v :: r => putL (w.setCell ⟨N, o, none⟩ v) N (o + 1) r
def setL (cs : Array Value) : Nat → List Value → Array Value
  | _, [] => cs
  | o, v :: r => setL (cs.setIfInBounds o v) (o + 1) r
theorem putL_heap {N : Nat} {T : TypeId} : ∀ (vs : List Value) (o : Nat) (w : World) (cs : Array Value), w.heap[N]? = some (.cells cs T (0, 0)) → (putL w N o vs).heap[N]? = some (.cells (setL cs o vs) T (0, 0))
  | [], _, _, _, h => h
  | v :: r, o, _, _, h => putL_heap r (o + 1) _ _ (heap_set h o v)
theorem putL_ne {N k : Nat} (hk : k ≠ N) : ∀ (vs : List Value) (o : Nat) (w : World), (putL w N o vs).heap[k]? = w.heap[k]?
  | [], _, _ => rfl
  | v :: r, o, _ => (putL_ne hk r (o + 1) _).trans (heap_set_ne hk v)
theorem putL_kpt {S : Nat → Prop} {w0 : World} {N : Nat} (hN : N < w0.heap.size → S N) : ∀ (vs : List Value) (o : Nat) (w : World), Kpt S w0 w → Kpt S w0 (putL w N o vs)
  | [], _, _, h => h
  | v :: r, o, _, h => putL_kpt hN r (o + 1) _ (h.set (p := ⟨N, o, none⟩) hN v)
theorem act_set (a : Clo.Act) (v q : Value) : setL actZero 0 (actCells a v q) = (actCells a v q).toArray := by simp [setL, actZero, actCells]

/-- An act's block is written whole. -/
def put15 (w : World) (N : Nat) (a0 a1 a2 a3 a4 a5 a6 a7 a8 a9 a10 a11 a12 a13 a14 : Value) : World := (((((((((((((((w.setCell ⟨N, 0, none⟩ a0).setCell ⟨N, 1, none⟩ a1).setCell ⟨N, 2, none⟩ a2).setCell ⟨N, 3, none⟩ a3).setCell ⟨N, 4, none⟩ a4).setCell ⟨N, 5, none⟩ a5).setCell ⟨N, 6, none⟩ a6).setCell ⟨N, 7, none⟩ a7).setCell ⟨N, 8, none⟩ a8).setCell ⟨N, 9, none⟩ a9).setCell ⟨N, 10, none⟩ a10).setCell ⟨N, 11, none⟩ a11).setCell ⟨N, 12, none⟩ a12).setCell ⟨N, 13, none⟩ a13).setCell ⟨N, 14, none⟩ a14)
theorem put15_eq (w : World) (N : Nat) (a0 a1 a2 a3 a4 a5 a6 a7 a8 a9 a10 a11 a12 a13 a14 : Value) : put15 w N a0 a1 a2 a3 a4 a5 a6 a7 a8 a9 a10 a11 a12 a13 a14 = putL w N 0 [a0, a1, a2, a3, a4, a5, a6, a7, a8, a9, a10, a11, a12, a13, a14] := by simp only [put15, putL]
def putAct (w : World) (N : Nat) (a : Clo.Act) (v q : Value) : World :=
  put15 w N (.int .i64 a.kind) (.string ⟨a.out.toArray⟩) (.bool a.close) (.int .i64 a.user) (.string ⟨a.token.toArray⟩) (.string ⟨a.name.toArray⟩) (.string ⟨a.word.toArray⟩)
    (.string ⟨a.request.head.method.toArray⟩) (.string ⟨a.request.head.target.toArray⟩) (.int .i64 a.request.head.minor) v (.string ⟨a.request.path.toArray⟩) q (.string ⟨a.request.body.toArray⟩) (.bool a.request.close)
theorem putAct_eq (w : World) (N : Nat) (a : Clo.Act) (v q : Value) : putAct w N a v q = putL w N 0 (actCells a v q) := by simp only [putAct, put15_eq, actCells]
theorem act_heap {w : World} {N : Nat} {T : TypeId} (h : w.heap[N]? = some (.cells actZero T (0, 0))) (a : Clo.Act) (v q : Value) : (putAct w N a v q).heap[N]? = some (.cells (actCells a v q).toArray T (0, 0)) := by
  rw [putAct_eq, putL_heap _ _ _ _ h, act_set]
theorem putAct_ne {w : World} {N k : Nat} (hk : k ≠ N) (a : Clo.Act) (v q : Value) : (putAct w N a v q).heap[k]? = w.heap[k]? := by rw [putAct_eq, putL_ne hk]
theorem putAct_kpt {S : Nat → Prop} {w0 w : World} {N : Nat} (hN : N < w0.heap.size → S N) (h : Kpt S w0 w) (a : Clo.Act) (v q : Value) : Kpt S w0 (putAct w N a v q) := by rw [putAct_eq]; exact putL_kpt hN _ _ _ h
theorem cells15 {w : World} {N : Nat} {T : TypeId} (h : w.heap[N]? = some (.cells actZero T (0, 0))) :
    (w.cell? ⟨N, 0, none⟩ = some (.int .i64 0) ∧ w.cell? ⟨N, 1, none⟩ = some (.string ⟨#[]⟩) ∧ w.cell? ⟨N, 2, none⟩ = some (.bool false) ∧ w.cell? ⟨N, 3, none⟩ = some (.int .i64 0) ∧ w.cell? ⟨N, 4, none⟩ = some (.string ⟨#[]⟩) ∧ w.cell? ⟨N, 5, none⟩ = some (.string ⟨#[]⟩) ∧ w.cell? ⟨N, 6, none⟩ = some (.string ⟨#[]⟩) ∧ w.cell? ⟨N, 7, none⟩ = some (.string ⟨#[]⟩) ∧ w.cell? ⟨N, 8, none⟩ = some (.string ⟨#[]⟩) ∧ w.cell? ⟨N, 9, none⟩ = some (.int .i64 0) ∧ w.cell? ⟨N, 10, none⟩ = some (.slice none 0 0) ∧ w.cell? ⟨N, 11, none⟩ = some (.string ⟨#[]⟩) ∧ w.cell? ⟨N, 12, none⟩ = some (.slice none 0 0) ∧ w.cell? ⟨N, 13, none⟩ = some (.string ⟨#[]⟩) ∧ w.cell? ⟨N, 14, none⟩ = some (.bool false)) ∧ ∀ i, w.frozen? ⟨N, i, none⟩ = false :=
  ⟨⟨by rw [blk_cell h]; rfl, by rw [blk_cell h]; rfl, by rw [blk_cell h]; rfl, by rw [blk_cell h]; rfl, by rw [blk_cell h]; rfl, by rw [blk_cell h]; rfl, by rw [blk_cell h]; rfl, by rw [blk_cell h]; rfl, by rw [blk_cell h]; rfl, by rw [blk_cell h]; rfl, by rw [blk_cell h]; rfl, by rw [blk_cell h]; rfl, by rw [blk_cell h]; rfl, by rw [blk_cell h]; rfl, by rw [blk_cell h]; rfl⟩, fun i => blk_free h i⟩
theorem may_plain500 (c : Bool) : may (plainR 500 c) = true := rfl
theorem print_plain500 (c : Bool) : print (plainR 500 c) = some (printText (plainR 500 c)) := by unfold Clo.print; rw [if_pos (may_plain500 c)]

def nilS : Value := .slice none 0 0
/-- What an act's call leaves: the act's value; the connection as it is now. -/
def ActPost (B : CnB) (c : Cn) (a : Clo.Act) (v q : Value) (w : World) (e : Ending) (w' : World) : Prop :=
  e = .returned (actV a v q) ∧ w'.heap[B.cb]? = some (cnObj B c) ∧ Kpt (fun k => k = B.cb) w w'

set_option maxHeartbeats 4000000 in
set_option maxRecDepth 100000 in
theorem emits_any (B : CnB) (c : Cn) (r : Rs) (v : Value) (w : World) (hE : Env w) (_hX : envB ≤ B.cb) (hb : w.heap[B.cb]? = some (cnObj B c)) (hv : PairsAt w v r.fields) (hr : RsOk r) :
    Calls Tryz.prog 29 #[.pointer (some ⟨B.cb, 0, none⟩), .agg #[.int .i64 r.status, v, .string ⟨r.body.toArray⟩, .bool r.close]] w
      (ActPost B (cnEmits c r).1 (cnEmits c r).2 nilS nilS w) := by
  obtain ⟨C, hC⟩ : ∃ C, C = cnEmits c r := ⟨_, rfl⟩
  rw [← hC]
  unfold cnEmits outOf at hC
  have hpr := fun W (h1 : Env W) (h2 : PairsAt W v r.fields) => print_any r.status v r.fields ⟨r.body.toArray⟩ r.close W h1 h2 hr.1 hr.2
  have er : (⟨r.status, r.fields, bl ⟨r.body.toArray⟩, r.close⟩ : Rs) = r := rfl
  rw [er] at hpr
  have hp5 := fun W (h1 : Env W) => print_any 500 nilS [] ⟨#[]⟩ r.close W h1 (PairsAt.nil W) (by intro k hk; simp at hk) (by decide)
  have e5 : (⟨500, [], bl ⟨#[]⟩, r.close⟩ : Rs) = plainR 500 r.close := rfl
  rw [e5, print_plain500] at hp5
  obtain ⟨st, fl, bd, cl⟩ := r
  simp only at hpr hp5 hC hv ⊢
  obtain ⟨bb, ebb, bbb⟩ := str_of bd
  rw [ebb] at hpr ⊢
  generalize print ⟨st, fl, bd, cl⟩ = P at hpr hC
  clear er e5 ebb bbb
  have HC := Lib.hid hC; have HPR := Lib.hid hpr; have HP5 := Lib.hid hp5; have HB := Lib.hid hb; have HE := Lib.hid hE; have HV := Lib.hid hv
  obtain ⟨ad, cap, rfl, hcc, hlb, hrr⟩ := hv
  clear hC hpr hp5 hb hE hr hrr
  have hlt := lt_of_blk HB.out
  go_enter Tryz.func29, Tryz.ntmps29
  go_upto_region 1 with fail
  obtain ⟨w1, hw1⟩ : ∃ w1, w1 = (w.alloc (.cells #[.int .i64 st, .slice ad fl.length cap, .string bb, .bool cl] 41 (0, 0))).alloc (.cells actZero 37 (0, 0)) := ⟨_, rfl⟩
  have hz1 : w1.heap.size = w.heap.size + 2 := by rw [hw1]; simp
  have hb1 : Below w.heap.size w w1 := by rw [hw1]; exact ((Below.refl _ _).alloc (Nat.le_refl _) _).alloc (by simp) _
  have hr1 : w1.heap[w.heap.size]? = some (.cells #[.int .i64 st, .slice ad fl.length cap, .string bb, .bool cl] 41 (0, 0)) := by rw [hw1, Lib.alloc_old _ _ _ (by simp)]; exact heap_alloc_new _ _
  have ha1 : w1.heap[w.heap.size + 1]? = some (.cells actZero 37 (0, 0)) := by rw [hw1]; exact alloc_at _ _ _ (by simp)
  have hc1 := (hb1.block _ hlt).trans HB.out
  have hw1' : (w.alloc (.cells #[.int .i64 st, .slice ad fl.length cap, .string bb, .bool cl] 41)).alloc (.cells #[.int .i64 0, .string ⟨#[]⟩, .bool false, .int .i64 0, .string ⟨#[]⟩, .string ⟨#[]⟩, .string ⟨#[]⟩, .string ⟨#[]⟩, .string ⟨#[]⟩, .int .i64 0, .slice none 0 0, .string ⟨#[]⟩, .slice none 0 0, .string ⟨#[]⟩, .bool false] 37) = w1 := hw1.symm
  rw [hw1']
  obtain ⟨d0, d1, d2, d3⟩ := cells4 hr1
  have HR1 := Lib.hid hr1; have HA1 := Lib.hid ha1; have HC1 := Lib.hid hc1; have HE1 := Lib.hid (HE.out.below hb1); have HV1 := Lib.hid (HV.out.below hb1)
  clear hw1 hw1' hr1 ha1 hc1
  go_wp2_with fail
  go_at_call 41
  refine (HPR.out _ HE1.out HV1.out).mono ?_
  rintro e w2 ⟨rfl, hb2⟩
  have hb02 := hb1.trans (hb2.mono hb1.size)
  have hz2 := hb2.size
  have hr2 := (hb2.block _ (lt_of_blk HR1.out)).trans HR1.out
  clear d0 d1 d2 d3
  obtain ⟨d0, d1, d2, d3⟩ := cells4 hr2
  have HR2 := Lib.hid hr2
  clear hr2
  go_upto_if 13 with fail
  go_cut [5] (fun a wx => a = .string ⟨(P.getD (printText (plainR 500 cl))).toArray⟩ ∧ Below w2.heap.size w2 wx)
  case first =>
    cases P with
    | none =>
      go_wp2_with fail
      go_at_call 30
      refine (plain_any _ _ _ _).mono ?_
      rintro e w3 ⟨rfl, hb3⟩
      have HE3 := Lib.hid (HE.out.below (hb02.trans (hb3.mono hb02.size)))
      go_wp2_with fail
      go_at_call 41
      refine (HP5.out _ HE3.out).mono ?_
      rintro e w4 ⟨rfl, hb4⟩
      go_wp2_with fail
      go_meet
      exact ⟨rfl, hb3.trans (hb4.mono hb3.size)⟩
    | some x =>
      go_wp2_with fail
      go_meet
      exact ⟨rfl, Below.refl _ _⟩
  case rest =>
  obtain ⟨rfl, hb3⟩ := hcut
  rename World => w3
  have hC := HC.out
  obtain ⟨os, eos, bos⟩ := str_of (P.getD (printText (plainR 500 cl)))
  rw [eos]
  rw [← bos] at hC
  clear eos bos
  have hb03 := hb02.trans (hb3.mono hb02.size)
  have hb13 := hb2.trans (hb3.mono hb2.size)
  have hc3 := (hb13.block _ (lt_of_blk HC1.out)).trans HC1.out
  have hr3 := (hb3.block _ (lt_of_blk HR2.out)).trans HR2.out
  have ha3 := (hb13.block _ (lt_of_blk HA1.out)).trans HA1.out
  clear d0 d1 d2 d3
  have d3 : w3.cell? ⟨w.heap.size, 3, none⟩ = some (.bool cl) := (cells4 hr3).2.2.2
  have p2 : w3.cell? ⟨B.cb, 2, none⟩ = some (.bool c.closed) := by rw [blk_cell hc3]; rfl
  have f2 : w3.frozen? ⟨B.cb, 2, none⟩ = false := blk_free hc3 2
  obtain ⟨⟨n0, n1, n2, n3, n4, n5, n6, n7, n8, n9, n10, n11, n12, n13, n14⟩, nf⟩ := cells15 ha3
  have g0 := nf 0; have g1 := nf 1; have g2 := nf 2; have g3 := nf 3; have g4 := nf 4; have g5 := nf 5; have g6 := nf 6; have g7 := nf 7; have g8 := nf 8; have g9 := nf 9; have g10 := nf 10; have g11 := nf 11; have g12 := nf 12; have g13 := nf 13; have g14 := nf 14
  have HC3 := Lib.hid hc3; have HA3 := Lib.hid ha3; have HCC := Lib.hid hC
  clear hc3 hr3 ha3 hC nf
  cases hcl : c.closed <;> rw [hcl] at p2
  all_goals
    go_wp2_with fail
  all_goals
    have hneC : w.heap.size + 1 ≠ B.cb := by omega
    refine bodyPost_ret (results_cell_row rfl _ _ (w.heap.size + 1) 37 (actCells { Act.zero with kind := 1, out := bl os, close := cl } nilS nilS).toArray (0, 0) _ rfl (act_heap ((heap_set_ne (a := ⟨B.cb, 2, none⟩) hneC _).trans HA3.out) { Act.zero with kind := 1, out := bl os, close := cl } nilS nilS) Tryz.underlying37 rfl (by kernel_rfl)) rfl ?_
    refine ⟨by rw [HCC.out]; rfl, ?_, ?_⟩
    · rw [HCC.out]
      refine (putAct_ne hneC.symm { Act.zero with kind := 1, out := bl os, close := cl } nilS nilS).trans ((heap_set HC3.out 2 _).trans ?_)
      simp only [hcl]
      rfl
    · exact putAct_kpt (S := fun k => k = B.cb) (N := w.heap.size + 1) (fun h => absurd h (by omega)) ((Kpt.of hb03 : Kpt (fun k => k = B.cb) w w3).set (p := ⟨B.cb, 2, none⟩) (fun _ => rfl) _) { Act.zero with kind := 1, out := bl os, close := cl } nilS nilS
end Go.Proofs.YtacdkcapejijdaaGreatDoor
