/- package reply: Print. -/
import Derived.Test.YtacdkcapejijdaaGreatDoorReply2
import Derived.Test.YtacdkcapejijdaaGreatDoorParse2
import Derived.Test.YtacdkcapejijdaaGreatDoorSpec3
import Derived.Deep.RegionHeld3
import Derived.Deep.DeepCutAuto
import Derived.Lib.ItoaLen
import Derived.Lib.AppendIntMem
namespace Go.Proofs.YtacdkcapejijdaaGreatDoor
open Go.RowKit Clo

def PrintPost (r : Option Str) (w : World) (e : Ending) (w' : World) : Prop :=
  e = .returned (.tuple #[.string ⟨(r.getD []).toArray⟩, .int .i64 (if r.isSome then 0 else 90)]) ∧ Below w.heap.size w w'

theorem fieldsText_snoc (l : List (Str × Str)) (k : Nat) (h : k < l.length) : fieldsText (l.take (k + 1)) = fieldsText (l.take k) ++ ((l.getD k ([], [])).1 ++ colonSp ++ (l.getD k ([], [])).2 ++ crlf) := by
  have hf : ∀ (a b : List (Str × Str)), fieldsText (a ++ b) = fieldsText a ++ fieldsText b := by
    intro a b
    induction a with
    | nil => rfl
    | cons x a ih => simp [fieldsText, ih, List.append_assoc]
  rw [snoc_at l ([], []) k h, hf]
  simp [fieldsText]
theorem fieldsText_len (l : List (Str × Str)) (n : Nat) (h : ∀ k, k < l.length → (l.getD k ([], [])).1.length ≤ n ∧ (l.getD k ([], [])).2.length ≤ n) : (fieldsText l).length ≤ l.length * (2 * n + 4) := by
  induction l with
  | nil => simp [fieldsText]
  | cons x l ih =>
    have h0 := h 0 (by simp)
    have h1 := ih (fun k hk => by have := h (k + 1) (by simpa using hk); simpa [List.getD] using this)
    simp only [fieldsText, List.length_append, List.length_cons, Nat.add_mul, Nat.one_mul]
    simp only [List.getD, List.getElem?_cons_zero, Option.getD_some] at h0
    have e1 : colonSp.length = 2 := rfl
    have e2 : crlf.length = 2 := rfl
    generalize l.length * (2 * n + 4) = q at h1 ⊢
    omega
theorem strCells_join (d : Str) (s : ByteArray) : Lib.byteCells d ++ Lib.strCells s = Lib.byteCells (d ++ bl s) := by simp [Lib.byteCells, Lib.strCells, bl]

theorem may_bounds {st : Int} {l : List (Str × Str)} {body : Str} {cl : Bool} (h : may ⟨st, l, body, cl⟩ = true) : 200 ≤ st ∧ st ≤ 599 ∧ l.length ≤ 32 ∧ body.length ≤ 1048576 := by
  unfold may at h
  rw [Bool.and_eq_true] at h
  exact of_decide_eq_true h.1

theorem reasonIn_len (st : Int) : ∀ (l : List (Int × Str)), (∀ p ∈ l, p.2.length ≤ 64) → ((reasonIn l st).getD statusW).length ≤ 64
  | [], _ => by simp [reasonIn, statusW]
  | p :: r, h => by
    unfold reasonIn
    split
    · exact h p (List.mem_cons_self ..)
    · exact reasonIn_len st r (fun q hq => h q (List.mem_cons_of_mem _ hq))
theorem words_le (st : Int) : ((reasonIn reasons st).getD statusW).length ≤ 64 := reasonIn_len st _ (by decide)
theorem builder_keep {T e : TypeId} {B b : Nat} {p : Value} {bs : List Value} {w w' : World} (h : Lib.BuilderAt T e B b p bs w) (hb : Below w.heap.size w w') : Lib.BuilderAt T e B b p bs w' := by
  obtain ⟨h0, v, h1, h2, h3⟩ := h
  exact ⟨h0, v, (hb.block b (lt_of_blk h1)).trans h1, h2.kept (row := none) ⟨hb.os, hb.tape, hb.output, hb.size, fun k hk _ => hb.block k hk⟩ (by cases hv : v.ownBlock with | none => exact .inl rfl | some g => exact .inr (by simp)), h3⟩
theorem isBuilder_keep {T e : TypeId} {B b : Nat} {bs : List Value} {w w' : World} (h : Lib.IsBuilder T e B b bs w) (hb : Below w.heap.size w w') : Lib.IsBuilder T e B b bs w' :=
  h.imp (fun x => builder_keep x hb) (fun x => builder_keep x hb)
theorem itoa_any (n : Int) (w : World) (hE : Env w) (h0 : -9223372036854775808 ≤ n) (h1 : n ≤ 9223372036854775807) :
    Calls Tryz.prog 55 #[.int .i64 n] w fun e w' => e = .returned (.string ⟨(Lib.itoa n).toArray⟩) ∧ Below w.heap.size w w' :=
  (Tryz.strconv_Itoa n h0 h1 w hE.pow).mono (by rintro e w' ⟨he, k, os, rfl⟩; exact ⟨he, Lib.below_grow _ _ (Nat.le_refl _) k os⟩)

set_option maxHeartbeats 4000000 in
set_option maxRecDepth 100000 in
theorem print_any (st : Int) (v : Value) (l : List (Str × Str)) (body : ByteArray) (cl : Bool) (w : World) (hE : Env w) (hv : PairsAt w v l)
    (hsz : SizesLe l 1073741824) (hb : body.size ≤ 1073741824) :
    Calls Tryz.prog 41 #[.agg #[.int .i64 st, v, .string body, .bool cl]] w (PrintPost (print ⟨st, l, bl body, cl⟩) w) := by
  obtain ⟨R, hR⟩ : ∃ R, R = print ⟨st, l, bl body, cl⟩ := ⟨_, rfl⟩
  rw [← hR]
  have hmay := fun W (h : PairsAt W v l) => may_any st v l body cl W h (by intro k hk; have := hsz k hk; omega) (by omega)
  obtain ⟨w0, hw0⟩ : ∃ w0, w0 = w.alloc (.cells #[.int .i64 st, v, .string body, .bool cl] 41 (0, 0)) := ⟨_, rfl⟩
  have hb0 : Below w.heap.size w w0 := by rw [hw0]; exact (Below.refl _ _).alloc (Nat.le_refl _) _
  have hX0 : w0.heap[w.heap.size]? = some (.cells #[.int .i64 st, v, .string body, .bool cl] 41 (0, 0)) := by rw [hw0]; exact heap_alloc_new _ _
  have hw0' : w.alloc (.cells #[.int .i64 st, v, .string body, .bool cl] 41) = w0 := hw0.symm
  have hv0 := hv.below hb0
  have hE0 := hE.below hb0
  unfold Clo.print at hR
  obtain ⟨ad, cap, rfl, hc, hlb, hr⟩ := hv
  have hr0 : l ≠ [] → ∃ g off, ad = some ⟨g, off, none⟩ ∧ ∀ i, i < l.length → w0.cell? ⟨g, off + i * 2, none⟩ = some (.string ⟨((l.getD i ([], [])).1).toArray⟩) ∧ w0.cell? ⟨g, off + i * 2 + 1, none⟩ = some (.string ⟨((l.getD i ([], [])).2).toArray⟩) := by
    intro hne
    obtain ⟨g, off, h1, h2⟩ := hr hne
    refine ⟨g, off, h1, fun i hi => ?_⟩
    obtain ⟨p, q⟩ := h2 i hi
    have hlt := lt_of_cell p
    rw [(bcell hb0).1 _ _ hlt, (bcell hb0).1 _ _ hlt]
    exact ⟨p, q⟩
  obtain ⟨c0, c1, c2, c3⟩ := cells4 hX0
  have HW0 := Lib.hid hw0'; have HX0 := Lib.hid hX0; have HE0 := Lib.hid hE0; have HRR := Lib.hid hr0; have HS := Lib.hid hsz; have HMAY := Lib.hid (hmay _ hv0); have HB0 := Lib.hid hb0
  clear hw0 hw0' hX0 hE0 hr0 hr hsz hmay hv0 hb0 hE
  go_enter Tryz.func41, Tryz.ntmps41
  go_upto_region 1 with fail
  rw [HW0.out]
  by_cases hm : may ⟨st, l, bl body, cl⟩ = true
  · obtain ⟨m1, m2, m3, m4⟩ := may_bounds hm
    rw [bl_length] at m4
    have hmay := HMAY.out
    rw [hm] at hmay
    rw [if_pos hm] at hR
    unfold printText at hR
    simp only [words_, bl_length] at hR
    have hrs := fun W => Reason_any st W
    have hwl := words_le st
    generalize reasonIn reasons st = rs at hR hrs hwl
    obtain ⟨ws, ew⟩ : ∃ ws : ByteArray, bl ws = rs.getD statusW := ⟨⟨(rs.getD statusW).toArray⟩, rfl⟩
    rw [← ew] at hR hwl
    rw [bl_length] at hwl
    obtain ⟨it, eit, bit⟩ := str_of (Lib.itoa st)
    have hitl : it.size ≤ 21 := by rw [← bl_length, bit]; exact Lib.itoa_length_le st (by omega) (by omega)
    have hitoa := fun W hE => itoa_any st W hE (by omega) (by omega)
    rw [eit] at hitoa
    rw [← bit] at hR
    obtain ⟨ib, eib, bib⟩ := str_of (Lib.itoa body.size)
    have hibl : ib.size ≤ 21 := by rw [← bl_length, bib]; exact Lib.itoa_length_le _ (by omega) (by omega)
    have hitob := fun W hE => itoa_any body.size W hE (by omega) (by omega)
    rw [eib] at hitob
    rw [← bib] at hR
    obtain ⟨ec, eec, bec⟩ := str_of (endW cl)
    have hecl : ec.size ≤ 10 := by rw [← bl_length, bec]; cases cl <;> decide
    have hend := fun W => end_any cl W
    rw [eec] at hend
    rw [← bec] at hR
    have HITO := Lib.hid hitoa; have HITB := Lib.hid hitob; have HEND := Lib.hid hend
    clear eit bit hitoa eib bib hitob eec bec hend
    have HR := Lib.hid hR; have HRS := Lib.hid hrs; have HM := Lib.hid hmay; have EW := Lib.hid ew
    clear hR hrs hmay HMAY ew hm
    go_wp2_with fail
    go_at_call 63
    refine HM.out.mono ?_
    rintro e w1 ⟨rfl, hb1⟩
    have hX1 := (hb1.block _ (lt_of_blk HX0.out)).trans HX0.out
    clear c0 c1 c2 c3
    obtain ⟨c0, c1, c2, c3⟩ := cells4 hX1
    have HX1 := Lib.hid hX1; clear hX1
    go_wp2_with fail
    go_at_call 64
    refine (HRS.out _).mono ?_
    rintro e w2 ⟨rfl, hb2⟩
    have hX2 := (hb2.block _ (lt_of_blk HX1.out)).trans HX1.out
    clear c0 c1 c2 c3
    obtain ⟨c0, c1, c2, c3⟩ := cells4 hX2
    have HX2 := Lib.hid hX2; clear hX2
    have hb02 := hb1.trans (hb2.mono hb1.size)
    go_upto_if 19 with fail
    go_cut [4, 5] (fun a _ wx => a = .string ws ∧ wx = w2)
    case first =>
      cases rs with
      | none =>
        go_wp2_with fail
        go_meet
        exact ⟨congrArg Value.string (bl_inj EW.out.symm), rfl⟩
      | some x =>
        go_wp2_with fail
        go_meet
        exact ⟨congrArg Value.string (bl_inj EW.out.symm), rfl⟩
    case rest =>
    obtain ⟨rfl, rfl⟩ := hcut
    go_upto_region 7 with fail
    rename World => w2
    obtain ⟨w3, hw3⟩ : ∃ w3, w3 = w2.alloc (.cells #[.pointer none, .slice none 0 0] 128 (0, 0)) := ⟨_, rfl⟩
    have hw3' : w2.alloc (.cells #[.pointer none, .slice none 0 0] 128) = w3 := hw3.symm
    rw [hw3']
    have hb3 : Below w2.heap.size w2 w3 := by rw [hw3]; exact (Below.refl _ _).alloc (Nat.le_refl _) _
    have hB3 : Lib.IsBuilder 128 5 w2.heap.size w2.heap.size [] w3 := by rw [hw3]; exact Lib.fresh_isBuilder _ _ _
    have hX3 := (hb3.block _ (lt_of_blk HX2.out)).trans HX2.out
    clear c0 c1 c2 c3 hw3 hw3'
    obtain ⟨c0, c1, c2, c3⟩ := cells4 hX3
    have hb03 := hb02.trans (hb3.mono hb02.size)
    have HX3 := Lib.hid hX3; have HB3 := Lib.hid hB3; clear hX3 hB3
    have HE3 := Lib.hid (HE0.out.below hb03)
    go_wp2_with fail
    go_at_call 55
    refine (HITO.out _ HE3.out).mono ?_
    rintro e w4 ⟨rfl, hb4⟩
    go_wp2_with fail
    go_at_call 65
    have hB4 := isBuilder_keep HB3.out hb4
    have hz4 := hb4.size
    have hz3 := hb3.size
    obtain ⟨h1, eh1, eh1'⟩ : ∃ h1 : ByteArray, h1 = ({ data := #[72, 84, 84, 80, 47, 49, 46, 49, 32] } ++ it ++ { data := #[32] } ++ ws ++ { data := #[13, 10] } : ByteArray) ∧ bl h1 = http11 ++ bl it ++ sp ++ bl ws ++ crlf := ⟨_, rfl, by simp only [bl_append]; rfl⟩
    rw [← eh1]
    have hh1 : h1.size ≤ 97 := by rw [← bl_length, eh1']; simp only [List.length_append, bl_length]; have : http11.length = 9 := rfl; have : sp.length = 1 := rfl; have : crlf.length = 2 := rfl; omega
    clear eh1
    refine (writeString_any w2.heap.size w2.heap.size [] h1 w4 hB4 (by simp; omega) (by omega)).mono ?_
    rintro e w5 ⟨rfl, hB5, hb5⟩
    have hb25 : Below w2.heap.size w2 w5 := (hb3.trans (hb4.mono hz3)).trans hb5
    have hX5 := (hb25.block _ (lt_of_blk HX2.out)).trans HX2.out
    have hB5' : Lib.IsBuilder 128 5 w2.heap.size w2.heap.size (Lib.byteCells (bl h1 ++ fieldsText (l.take 0))) w5 := .inr (by have h := strCells_join [] h1; simp only [Lib.byteCells, List.map_nil, List.nil_append] at h; simpa [fieldsText, Lib.byteCells, Lib.strCells, bl] using hB5)
    clear c0 c1 c2 c3
    obtain ⟨c0, c1, c2, c3⟩ := cells4 hX5
    have HX5 := Lib.hid hX5; have HB5 := Lib.hid hB5'; have HHT := Lib.hid eh1'
    clear hX5 hB5' hB4 hB5 eh1'
    go_wp2_with fail
    go_loopw [8, 32] (fun _ i wr => ∃ k : Nat, k ≤ l.length ∧ i = .int .i64 k ∧ Lib.IsBuilder 128 5 w2.heap.size w2.heap.size (Lib.byteCells (bl h1 ++ fieldsText (l.take k))) wr ∧ Below w2.heap.size w2 wr) (fun _ i _ => l.length - (intOf i).toNat)
    case atStart => exact ⟨0, Nat.zero_le _, rfl, HB5.out, hb25⟩
    case round =>
      obtain ⟨k, hk, rfl, hBk, hbk⟩ := hrel
      have hzk := hbk.size
      have hbw := hb02.trans (hbk.mono hb02.size)
      have hfl : (fieldsText (l.take k)).length ≤ 100000000000 := by
        have h1 := fieldsText_len (l.take k) 1073741824 (by
          intro j hj
          rw [List.length_take] at hj
          have h2 := HS.out j (by omega)
          have e : (l.take k).getD j ([], []) = l.getD j ([], []) := by
            simp only [List.getD, List.getElem?_take]
            rw [if_pos (by omega)]
          rw [e]; exact h2)
        exact Nat.le_trans h1 (Nat.le_trans (Nat.mul_le_mul_right _ (show (l.take k).length ≤ 32 by rw [List.length_take]; omega)) (by decide))
      by_cases hlt : k < l.length
      · obtain ⟨g, off, rfl, hr2⟩ := HRR.out (by intro h; simp [h] at hlt)
        obtain ⟨p1, p2⟩ := hr2 k hlt
        obtain ⟨z1, z2⟩ := HS.out k hlt
        have hlt0 := lt_of_cell p1
        rw [← hbw.cell (p := ⟨g, off + k * 2, none⟩) hlt0] at p1
        rw [← hbw.cell (p := ⟨g, off + k * 2 + 1, none⟩) hlt0] at p2
        have htk := fieldsText_snoc l k hlt
        obtain ⟨n1, e1, b1_⟩ := str_of (l.getD k ([], [])).1
        obtain ⟨n2, e2, b2_⟩ := str_of (l.getD k ([], [])).2
        rw [e1] at p1; rw [e2] at p2
        rw [← b1_, ← b2_] at htk
        rw [← b1_, bl_length] at z1; rw [← b2_, bl_length] at z2
        clear hr2 e1 e2 b1_ b2_
        have HTK := Lib.hid htk; have HBK := Lib.hid hBk; clear htk hBk
        go_wp2_with fail
        go_at_call 65
        obtain ⟨s2, es2, es2'⟩ : ∃ s2 : ByteArray, s2 = (n1 ++ { data := #[58, 32] } ++ n2 ++ { data := #[13, 10] } : ByteArray) ∧ bl s2 = bl n1 ++ colonSp ++ bl n2 ++ crlf := ⟨_, rfl, by simp only [bl_append]; rfl⟩
        rw [← es2]
        have hs2 : s2.size = n1.size + n2.size + 4 := by rw [← bl_length, es2']; simp only [List.length_append, bl_length]; have : colonSp.length = 2 := rfl; have : crlf.length = 2 := rfl; omega
        clear es2
        have hba := (Below.refl wr.heap.size wr).alloc (Nat.le_refl _) (.cells #[.string n1, .string n2] 90 (0, 0))
        refine (writeString_any w2.heap.size w2.heap.size (Lib.byteCells (bl h1 ++ fieldsText (l.take k))) s2 _ (isBuilder_keep HBK.out hba) (by rw [byteCells_len, List.length_append, bl_length]; omega) (by simp; omega)).mono ?_
        rintro e w6 ⟨rfl, hB6, hb6⟩
        go_wp2_with fail
        go_roundw
        case rel =>
          refine ⟨k + 1, by omega, by go_num, .inr ?_, hbk.trans ((hba.mono hzk).trans hb6)⟩
          rw [strCells_join, es2', List.append_assoc, ← HTK.out] at hB6
          exact hB6
        case measure => simp [intOf]; omega
      · have hkl : l.take k = l := List.take_of_length_le (by omega)
        rw [hkl] at hBk hfl
        have HBK := Lib.hid hBk
        clear hBk hkl
        have hX6 := (hbk.block _ (lt_of_blk HX2.out)).trans HX2.out
        clear c0 c1 c2 c3
        obtain ⟨c0, c1, c2, c3⟩ := cells4 hX6
        have e0 : wr.drew.cell? ⟨w.heap.size, 2, none⟩ = _ := c2; have e1 : wr.drew.cell? ⟨w.heap.size, 3, none⟩ = _ := c3
        have HX6 := Lib.hid hX6
        have hE6 : Env wr.drew := (HE0.out.below hbw).drewN 1
        have HE6 := Lib.hid hE6
        clear hX6 hE6
        obtain ⟨s3, es3, es3'⟩ : ∃ s3 : ByteArray, s3 = ({ data := #[99, 111, 110, 116, 101, 110, 116, 45, 108, 101, 110, 103, 116, 104, 58, 32] } ++ ib ++ { data := #[13, 10, 99, 111, 110, 110, 101, 99, 116, 105, 111, 110, 58, 32] } ++ ec ++ { data := #[13, 10, 13, 10] } ++ body : ByteArray) ∧ bl s3 = clColon ++ bl ib ++ connColon ++ bl ec ++ endOfHead ++ bl body := ⟨_, rfl, by simp only [bl_append]; rfl⟩
        have hs3 : s3.size ≤ 2000000 := by rw [← bl_length, es3']; simp only [List.length_append, bl_length]; have : clColon.length = 16 := rfl; have : connColon.length = 14 := rfl; have : endOfHead.length = 4 := rfl; omega
        have hs3b : (Lib.byteCells (bl h1 ++ fieldsText l)).length + s3.size ≤ 140737488355328 := by rw [byteCells_len, List.length_append, bl_length]; omega
        have ES3 := Lib.hid es3; have ES3B := Lib.hid es3'
        clear es3 es3'
        have l1 : ¬ 9223372036854775807 < 16 + ib.size := by omega
        have l2 : ¬ 9223372036854775807 < 16 + ib.size + 14 := by omega
        have l3 : ¬ 9223372036854775807 < 16 + ib.size + 14 + ec.size := by omega
        have l4 : ¬ 9223372036854775807 < 16 + ib.size + 14 + ec.size + 4 := by omega
        have l5 : ¬ 9223372036854775807 < 16 + ib.size + 14 + ec.size + 4 + body.size := by omega
        go_upto_region 13 with fail
        go_region_held3 (fun w' => w'.cell? ⟨w.heap.size, 2, none⟩ = some (.string body) ∧ w'.cell? ⟨w.heap.size, 3, none⟩ = some (.bool cl))
          (first | with_reducible exact ⟨c2, c3⟩ | with_reducible exact ⟨e0, e1⟩ | with_reducible exact ⟨ca2, ca3⟩ | with_reducible exact ⟨cb2, cb3⟩)
          (first
          | (go_at_call 55; refine (HITB.out _ HE6.out).mono ?_; rintro e w7 ⟨rfl, hb7⟩; have HX7 := Lib.hid ((hb7.block _ (lt_of_blk HX6.out)).trans HX6.out); obtain ⟨ca0, ca1, ca2, ca3⟩ := cells4 HX7.out)
          | (go_at_call 65; rw [← ES3.out]; refine (writeString_any w2.heap.size w2.heap.size (Lib.byteCells (bl h1 ++ fieldsText l)) s3 w7 (isBuilder_keep HBK.out ((Below.refl _ _).drew.trans hb7)) hs3b (Nat.le_trans hzk hb7.size)).mono ?_; rintro e w8 ⟨rfl, hB8, hb8⟩; have HX8 := Lib.hid ((hb8.block _ (Nat.lt_of_lt_of_le (lt_of_blk HX2.out) (Nat.le_refl _))).trans HX7.out); obtain ⟨cb0, cb1, cb2, cb3⟩ := cells4 HX8.out)
          | (go_at_call 66; refine (HEND.out _).mono ?_; rintro e wE ⟨rfl, hwE⟩; rw [hwE]; clear hwE wE))
        all_goals
          rw [strCells_join] at hB8
          have hfin : bl h1 ++ fieldsText l ++ bl s3 = R.getD [] := by rw [HR.out, HHT.out, ES3B.out]; rfl
          have hsome : R.isSome = true := by rw [HR.out]; rfl
          have hbz := ((Nat.le_trans hzk hb7.size) : w2.heap.size ≤ w7.heap.size)
          rw [hfin] at hB8
          have HB8 := Lib.hid hB8; have HSM := Lib.hid hsome; clear hB8 hfin hsome
          go_wp2_with fail
          go_at_call 67
          refine (Tryz.Builder_String_any w2.heap.size w2.heap.size _ _ (.inr HB8.out) (Nat.le_trans hbz hb8.size)).mono ?_
          rintro e w9 ⟨rfl, hb9⟩
          go_wp2_with fail
          go_ret2
          refine ⟨by rw [HSM.out]; rfl, HB0.out.trans ((hbw.trans (((Below.refl wr.heap.size wr).drew.trans hb7).mono hbw.size)).mono HB0.out.size |>.trans ?_)⟩
          exact (hb8.trans hb9).mono (Nat.le_trans HB0.out.size hb02.size)
  · have hmay := HMAY.out
    have hm' : may ⟨st, l, bl body, cl⟩ = false := by simpa using hm
    rw [hm'] at hmay
    rw [if_neg hm] at hR
    have HR := Lib.hid hR; have HM := Lib.hid hmay; clear hR hmay HMAY hm hm'
    go_wp2_with fail
    go_at_call 63
    refine HM.out.mono ?_
    rintro e w1 ⟨rfl, hb1⟩
    go_wp2_with fail
    go_ret2
    exact ⟨by rw [HR.out]; rfl, HB0.out.trans (hb1.mono HB0.out.size)⟩
end Go.Proofs.YtacdkcapejijdaaGreatDoor
