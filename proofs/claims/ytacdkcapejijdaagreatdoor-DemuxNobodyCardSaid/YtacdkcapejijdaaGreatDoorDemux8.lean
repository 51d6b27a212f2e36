/- package demux: token. -/
import Derived.Test.YtacdkcapejijdaaGreatDoorDemux7
namespace Go.Proofs.YtacdkcapejijdaaGreatDoor
open Go.RowKit Go.Maps Go.WideMaps Clo

def rqV (r : Rq) (v q : Value) : Value := .agg #[.string ⟨r.head.method.toArray⟩, .string ⟨r.head.target.toArray⟩, .int .i64 r.head.minor, v, .string ⟨r.path.toArray⟩, q, .string ⟨r.body.toArray⟩, .bool r.close]
theorem tokenIn_step {vs : List Str} {k : Nat} (h : k < vs.length) : tokenIn (vs.drop k) = match getP (cookies (vs.getD k [])) sidW with | some t => t | none => tokenIn (vs.drop (k + 1)) := by
  rw [List.drop_eq_getElem_cons h]
  have hd : vs.getD k [] = vs[k] := by simp [List.getD, h]
  rw [hd]; rfl
def TokPost (t : Str) (w : World) (e : Ending) (w' : World) : Prop := e = .returned (.string ⟨t.toArray⟩) ∧ Below w.heap.size w w'
set_option maxHeartbeats 4000000 in
set_option maxRecDepth 100000 in
theorem tokenOf_any (r : Rq) (v q : Value) (w : World) (hE : Env w) (hv : PairsAt w v r.head.fields) (hg : HdGood r.head) :
    Calls Tryz.prog 51 #[rqV r v q] w (TokPost (tokenOf r) w) := by
  obtain ⟨R, hR⟩ : ∃ R, R = tokenOf r := ⟨_, rfl⟩
  rw [← hR]
  unfold tokenOf at hR
  obtain ⟨⟨hm, ht, mi, fl⟩, rp, rq, rb, cl⟩ := r
  simp only at hv hg hR
  have hz1 := values_size hg.sizes cookieName
  have e1 : bl ⟨#[99, 111, 111, 107, 105, 101]⟩ = cookieName := rfl
  have hfl := hg.1
  simp only at hfl
  obtain ⟨bm, ebm, bbm⟩ := str_of hm
  obtain ⟨bt, ebt, bbt⟩ := str_of ht
  have hvg := fun W (h : PairsAt W v fl) => values_any bm bt mi v fl ⟨#[99, 111, 111, 107, 105, 101]⟩ W h (by decide) (by omega)
  rw [e1] at hvg
  unfold rqV
  simp only
  rw [ebm, ebt]
  simp only at hz1 hR
  generalize values fl cookieName = vs at hR hz1 hvg
  obtain ⟨hz1, hz2⟩ := hz1
  have hvl : vs.length ≤ 32 := by omega
  have HR := Lib.hid hR; have HVG := Lib.hid hvg; have HZ1 := Lib.hid hz1; have HV := Lib.hid hv; have HE := Lib.hid hE
  clear hR hvg hz1 hE hz2 e1 hg ebm bbm ebt bbt
  obtain ⟨ad, cap, rfl, hcc, hlb, hr⟩ := hv
  clear hr hcc hlb
  go_enter Tryz.func51, Tryz.ntmps51
  go_wp2_with fail
  go_at_call 73
  refine (HVG.out _ (HV.out.below ((Below.refl _ _).alloc (Nat.le_refl _) _))).mono ?_
  rintro e w1 ⟨vv, rfl, hos, hb1⟩
  have hbw1 : Below w.heap.size w w1 := ((Below.refl w.heap.size w).alloc (Nat.le_refl _) _).trans (hb1.mono (by simp))
  have hsa := hos.at
  obtain ⟨av, cv, rfl, q1, q2, hra⟩ := hsa
  have HRA := Lib.hid hra; clear hra hos hb1
  go_wp2
  go_loopw [4, 5, 6, 11] (fun _ _ _ i wr => ∃ k : Nat, k ≤ vs.length ∧ i = .int .i64 k ∧ R = tokenIn (vs.drop k) ∧ Below w1.heap.size w1 wr) (fun _ _ _ i _ => vs.length - (intOf i).toNat)
  case atStart => exact ⟨0, Nat.zero_le _, rfl, HR.out, Below.refl _ _⟩
  case round =>
    rename World => wu
    obtain ⟨k, hk, rfl, hrk, hbw⟩ := hrel
    have hz := hbw.size
    by_cases hlt : k < vs.length
    · obtain ⟨g, off, rfl, hr2⟩ := HRA.out (by intro h; simp [h] at hlt)
      have c1 := hr2 k hlt
      have hlt0 := lt_of_cell c1
      rw [← hbw.cell (p := ⟨g, off + k, none⟩) hlt0] at c1
      have hsz1 : (vs.getD k []).length ≤ 1073741824 := HZ1.out _ (by simp [List.getD, hlt])
      rw [tokenIn_step hlt] at hrk
      obtain ⟨n1, en1, b1⟩ := str_of (vs.getD k [])
      rw [en1] at c1
      rw [← b1] at hsz1 hrk
      rw [bl_length] at hsz1
      clear hr2 en1 b1
      have hck := fun W hE => cookies_any n1 W hE (by omega)
      generalize cookies (bl n1) = cs at hrk hck
      have hgt := fun W cv (h : PairsAt W cv cs) => get_any cv cs ⟨#[115, 105, 100]⟩ W h
      have e2 : bl ⟨#[115, 105, 100]⟩ = sidW := rfl
      rw [e2] at hgt
      unfold GetPost at hgt
      generalize getP cs sidW = gp at hrk hgt
      have HRK := Lib.hid hrk; have HCK := Lib.hid hck; have HGT := Lib.hid hgt
      have HER := Lib.hid (HE.out.below (hbw1.trans (hbw.mono hbw1.size)))
      clear hrk hck hgt e2
      go_wp2_with fail
      go_at_call 91
      refine (HCK.out _ HER.out).mono ?_
      rintro e w2 ⟨v2, rfl, ho2, hb2⟩
      obtain ⟨oa, oc, rfl⟩ := ho2.len
      have HO2 := Lib.hid ho2.at
      go_wp2_with fail
      go_at_call 90
      refine (HGT.out _ _ HO2.out).mono ?_
      rintro e w3 ⟨rfl, hb3⟩
      have hb23 := hb2.trans (hb3.mono hb2.size)
      cases gp with
      | some t =>
        go_wp2_with fail
        go_ret
        exact ⟨by rw [HRK.out]; rfl, hbw1.trans ((hbw.trans (hb23.mono hz)).mono hbw1.size)⟩
      | none =>
        go_wp2_with fail
        go_roundw
        case rel => exact ⟨k + 1, by omega, by go_num, HRK.out, hbw.trans (hb23.mono hz)⟩
        case measure => simp [intOf]; omega
    · have hT : R = [] := by rw [hrk, List.drop_eq_nil_of_le (by omega)]; rfl
      have HT := Lib.hid hT; clear hT hrk
      go_wp2
      go_ret
      exact ⟨by rw [HT.out]; rfl, hbw1.trans (hbw.mono hbw1.size)⟩
end Go.Proofs.YtacdkcapejijdaaGreatDoor
