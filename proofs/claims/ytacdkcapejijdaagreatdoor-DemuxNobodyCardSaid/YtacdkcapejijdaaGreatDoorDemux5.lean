/- package demux: Counts: a range over a map whose elements are pointers. -/
import Derived.Test.YtacdkcapejijdaaGreatDoorDemux4
namespace Go.Proofs.YtacdkcapejijdaaGreatDoor
open Go.RowKit Go.Maps Go.WideMaps Clo

/-! ### how many meet p -/
def hush (l : Int → Bool) (c : Int → Option Cn) : Int → Option Cn := fun j => if l j then none else c j
theorem countC_le (p : Option Cn → Bool) (c : Int → Option Cn) : ∀ n, countC p c n ≤ n
  | 0 => Nat.le_refl _
  | n + 1 => by
    have := countC_le p c n
    unfold countC
    split <;> omega
theorem countC_none (p : Option Cn → Bool) (hp : p none = false) (c : Int → Option Cn) : ∀ n : Nat, (∀ j : Nat, j < n → c j = none) → countC p c n = 0
  | 0, _ => rfl
  | n + 1, h => by
    unfold countC
    rw [countC_none p hp c n (fun j hj => h j (by omega)), h n (by omega), hp]; rfl
theorem countC_congr (p : Option Cn → Bool) {c c' : Int → Option Cn} : ∀ n : Nat, (∀ j : Nat, j < n → c j = c' j) → countC p c n = countC p c' n
  | 0, _ => rfl
  | n + 1, h => by
    unfold countC
    rw [countC_congr p n (fun j hj => h j (by omega)), h n (by omega)]
theorem countC_upd (p : Option Cn → Bool) (hp : p none = false) (c : Int → Option Cn) (x : Nat) (v : Option Cn) (hx : c x = none) : ∀ n : Nat, x < n → countC p (upd c x v) n = countC p c n + (if p v then 1 else 0)
  | 0, h => absurd h (by omega)
  | n + 1, h => by
    unfold countC
    by_cases he : x = n
    · subst he
      rw [upd_same, hx, hp, countC_congr p (c := upd c x v) (c' := c) x (fun j hj => upd_ne _ _ (by omega))]
      simp
    · rw [upd_ne _ _ (by omega), countC_upd p hp c x v hx n (by omega)]
      omega
theorem hush_step {l : Int → Bool} {c : Int → Option Cn} {x : Int} (hl : l x = true) : hush (fun j => l j && !(decide (j = x))) c = upd (hush l c) x (c x) := by
  funext j
  unfold hush upd
  by_cases he : j = x
  · subst he; simp
  · simp [he]
theorem isC_nat {x : Int} (h : isC x = true) : ∃ n : Nat, x = n ∧ n < 64 := by
  simp [isC] at h
  exact ⟨x.toNat, by omega, by omega⟩
theorem count_stepN (p : Option Cn → Bool) (hp : p none = false) {l : Int → Bool} {c : Int → Option Cn} {n N : Nat} (hl : l n = true) (hn : n < N) :
    countC p (hush (fun j => l j && !(decide (j = (n : Int)))) c) N = countC p (hush l c) N + (if p (c n) then 1 else 0) := by
  rw [hush_step hl]
  exact countC_upd p hp _ n _ (by unfold hush; rw [hl]; rfl) N hn
theorem count_step (p : Option Cn → Bool) (hp : p none = false) {l : Int → Bool} {c : Int → Option Cn} {x : Int} {N : Nat} (hN : N = 64) (hl : l x = true) (hx : isC x = true) :
    countC p (hush (fun j => l j && !(decide (j = x))) c) N = countC p (hush l c) N + (if p (c x) then 1 else 0) := by
  obtain ⟨n, hn1, hn⟩ := isC_nat hx
  rw [hn1] at hl ⊢
  exact count_stepN p hp hl (Nat.lt_of_lt_of_le hn (Nat.le_of_eq hN.symm))
theorem sameKey_int (j x : Int) : (Lit.int .i64 j).sameKey (.int .i64 x) = decide (j = x) := by
  by_cases h : j = x
  · subst h; simp [Lit.sameKey]
  · rw [decide_eq_false h]
    exact sameKey_ne (fun e => h (by injection e))

section
variable {w : World} {ops : Array Oper} {rest : List Oper} {o : Oper} {a : Go.Act} {Q : Exit → Go.Act → World → Prop}
/-- The step of a range over connections. -/
theorem wpList_next_conns (hg : o.guard = none) (it : Operand) (hop : o.op = Op.next it false) {D : Nat} {G : Gh} {d : Dm} {w0 : World} (h0 : DmAt w0 D G d)
    (r : Nat) (left : Lit → Bool) (cnt : Nat) (hit : a.eval it = .pointer (some ⟨r, 0, none⟩)) (h : w.ranges Tryz.prog 3 ptrR G.ml r G.n G.dl left cnt)
    (hDone : (∀ kl, left kl = false) → wpList Tryz.prog ops Q rest (a.put o.dst (.tuple #[.bool false])) w)
    (hMore : ∀ (x : Int) (B : CnB) (w' : World) (cnt' : Nat), G.cs x = some B → left (.int .i64 x) = true → w'.ranges Tryz.prog 3 ptrR G.ml r G.n G.dl (fun z => left z && !z.sameKey (.int .i64 x)) cnt' → cnt' < cnt →
      w.grownBy w' (some r) → w'.heap.size = w.heap.size → (Instr.entry (.pointer (some ⟨r, 0, none⟩))).run Tryz.prog w' = .ok (.tuple #[.int .i64 x, .pointer (some ⟨B.cb, 0, none⟩)]) w' → wpList Tryz.prog ops Q rest (a.put o.dst (.tuple #[.bool true, .int .i64 x, .pointer (some ⟨B.cb, 0, none⟩)])) w') :
    wpList Tryz.prog ops Q (o :: rest) a w :=
  wpList_next_ranges w hg it hop 3 (int_keyed Tryz.underlying3) ptrR (Value.int .i64) ptrV (fun key kl hkey => by obtain ⟨x, rfl, _⟩ := Maps.keyOf_int_inv Tryz.underlying3 hkey; exact ⟨x, rfl⟩) (fun v y hv => by obtain ⟨c, rfl, _⟩ := ptrR_inv hv; exact ⟨c, rfl⟩)
    G.ml r G.n G.dl left cnt hit h (fun _ hl => hDone hl) (fun x c kl y w' cnt' hkey hlk hv hat hrg hlt hgr hsz hen => by
      obtain ⟨x', ex, rfl, hwx⟩ := Maps.keyOf_int_inv Tryz.underlying3 hkey
      cases ex
      obtain ⟨c', ec, rfl⟩ := ptrR_inv hv
      have ec' : c = c' := by
        have := congrArg ptrR ec
        rw [ptrR_mk, ptrR_mk] at this
        exact ptrD_inj (congrArg Prod.fst (Option.some.inj this))
      subst ec'
      have hB : ∃ B, G.cs x = some B ∧ c = some B.cb := by
        have h1 := fun z => (h0.lk x z).symm.trans (hat z)
        cases hc : G.cs x with
        | none =>
          rw [hc] at h1
          simp only at h1
          have e1 := h1 (.lit (.bool false))
          have e2 := h1 (.lit (.bool true))
          rw [← e2] at e1
          cases e1
        | some B =>
          rw [hc] at h1
          exact ⟨B, rfl, (ptrD_inj (h1 (.lit (.bool false)))).symm⟩
      obtain ⟨B, hB1, rfl⟩ := hB
      exact hMore x B w' cnt' hB1 hlk hrg hlt hgr hsz hen)
end

def CountsPost (r : Int × Int) (w : World) (e : Ending) (w' : World) : Prop := e = .returned (.tuple #[.int .i64 r.1, .int .i64 r.2]) ∧ Below w.heap.size w w'
set_option maxHeartbeats 4000000 in
set_option maxRecDepth 100000 in
theorem counts_any (D : Nat) (G : Gh) (d : Dm) (u : Int) (w : World) (h : DmAt w D G d) :
    Calls Tryz.prog 21 #[.pointer (some ⟨D, 0, none⟩), .int .i64 u] w (CountsPost (dmCounts d u) w) := by
  obtain ⟨R, hR⟩ : ∃ R, R = dmCounts d u := ⟨_, rfl⟩
  rw [← hR]
  unfold dmCounts at hR
  have HG := Lib.hid h.given
  obtain ⟨c0, c1, c2, c3, c4⟩ := h.cells
  by_cases hu : u < 0
  · rw [if_pos (.inl hu)] at hR
    have HR := Lib.hid hR; clear hR h
    go_enter Tryz.func21, Tryz.ntmps21
    go_wp2_with (first | (go_at_call 25; refine HG.out.mono ?_; rintro e w1 ⟨rfl, rfl⟩))
    go_ret2
    exact ⟨by rw [HR.out]; rfl, Below.refl _ _⟩
  by_cases hv : d.users ≤ u
  · rw [if_pos (.inr hv)] at hR
    have HR := Lib.hid hR; clear hR h
    go_enter Tryz.func21, Tryz.ntmps21
    go_wp2_with (first | (go_at_call 25; refine HG.out.mono ?_; rintro e w1 ⟨rfl, rfl⟩))
    go_ret2
    exact ⟨by rw [HR.out]; rfl, Below.refl _ _⟩
  rw [if_neg (by omega)] at hR
  have HR := Lib.hid hR; have HD := Lib.hid h; have HL := Lib.hid h.l; clear hR h
  go_enter Tryz.func21, Tryz.ntmps21
  go_wp2_with (first | (go_at_call 25; refine HG.out.mono ?_; rintro e wE ⟨rfl, hwE⟩; rw [hwE]; clear hwE wE) | (at_range; refine wpList_range_own _ rfl _ 66 rfl 3 76 (int_keyed Tryz.underlying3) Tryz.underlying66 _ G.ml G.n G.dl rfl HL.out ?_; intro w2 hrg0 hg0 hs0))
  go_frame
  have hb0 : Below w.heap.size w w2 := ⟨hg0.os, hg0.tape, hg0.output, hg0.size, fun k hk => hg0.block k hk (by simp)⟩
  go_loopw [4, 5, 7] (fun a b _ wr => ∃ (left : Lit → Bool) (cnt : Nat), wr.ranges Tryz.prog 3 ptrR G.ml w.heap.size G.n G.dl left cnt ∧ Below w.heap.size w wr ∧
      a = .int .i64 (countC (cnOwn u) (hush (fun j => left (.int .i64 j)) d.c) 64 : Nat) ∧ b = .int .i64 (countC (cnAsk u) (hush (fun j => left (.int .i64 j)) d.c) 64 : Nat)) (fun _ _ _ wr => wr.rangeLeft G.ml w.heap.size)
  case atStart =>
    have hall : ∀ j : Int, hush (fun j => Maps.has G.dl (.int .i64 j)) d.c j = none := by
      intro j
      unfold hush
      split
      · rfl
      · rename_i hh
        apply HD.out.none_
        cases hc : G.cs j with
        | none => rfl
        | some B => exact absurd (has_true_of_atKey (y := ptrD (some B.cb)) (fun z => by rw [HD.out.lk, hc])) hh
    have e1 : ∀ p : Option Cn → Bool, p none = false → countC p (hush (fun j => Maps.has G.dl (.int .i64 j)) d.c) 64 = 0 := fun p hp => countC_none p hp _ _ fun j _ => hall j
    exact ⟨_, _, hrg0, hb0, by rw [e1 _ rfl]; rfl, by rw [e1 _ rfl]; rfl⟩
  case round =>
    obtain ⟨left, cnt, hrg, hbr, rfl, rfl⟩ := hrel
    have HBR := Lib.hid hbr; have HRG := Lib.hid hrg
    clear hbr hrg
    go_wp2_with (at_next; go_loud (refine wpList_next_conns rfl _ rfl HD.out w.heap.size left cnt rfl HRG.out ?_ ?_))
    · intro hl0
      have e1 : hush (fun j => left (.int .i64 j)) d.c = d.c := by funext j; unfold hush; simp only [hl0]; rfl
      rw [e1]
      have HB := HBR.out
      go_wp2
      go_ret2
      exact ⟨by rw [HR.out]; rfl, HBR.out⟩
    · intro x B w3 cnt3 hB hlx hrg3 hlt hg3 hs3 hen
      have hb3 : Below w.heap.size w w3 := HBR.out.trans ⟨hg3.os, hg3.tape, hg3.output, hg3.size, fun k hk => hg3.block k (Nat.lt_of_lt_of_le hk HBR.out.size) (by simp; omega)⟩
      obtain ⟨c, hc1, hc2, hc3⟩ := (HD.out.below hb3).some_ x B hB
      obtain ⟨⟨p0, p1, p2, p3, p4, p5, p6, p7⟩, pf⟩ := hc2.cells
      have hx64 := HD.out.in64 x B hB
      have n1 := countC_le (cnOwn u) (hush (fun j => left (.int .i64 j)) d.c) 64
      have n2 := countC_le (cnAsk u) (hush (fun j => left (.int .i64 j)) d.c) 64
      have s1 := count_step (cnOwn u) rfl (l := fun j => left (.int .i64 j)) (c := d.c) (N := 64) rfl hlx hx64
      have s2 := count_step (cnAsk u) rfl (l := fun j => left (.int .i64 j)) (c := d.c) (N := 64) rfl hlx hx64
      rw [hc1] at s1 s2
      have el : (fun j => (fun z => left z && !z.sameKey (.int .i64 x)) (.int .i64 j)) = fun j => left (.int .i64 j) && !(decide (j = x)) := by
        funext j; simp only [sameKey_int]
      generalize countC (cnOwn u) (hush (fun j => left (.int .i64 j)) d.c) 64 = a at n1 s1 ⊢
      generalize countC (cnAsk u) (hush (fun j => left (.int .i64 j)) d.c) 64 = b at n2 s2 ⊢
      have HEL := Lib.hid el; have HS1 := Lib.hid s1; have HS2 := Lib.hid s2; have HG3 := Lib.hid hrg3; have HB3 := Lib.hid hb3; have HLT := Lib.hid hlt
      clear el s1 s2 hrg3 hb3 hlt hc1 hc2 hc3 hB hlx hg3 hx64 pf hs3
      have e1 : cnOwn u (some c) = (!c.closed && (c.user == u)) := rfl
      have e2 : cnAsk u (some c) = (c.waits && (c.asks == u)) := rfl
      have t1 : (c.user == u) = true ∨ (c.user == u) = false := by cases (c.user == u) <;> simp
      have t2 : (c.asks == u) = true ∨ (c.asks == u) = false := by cases (c.asks == u) <;> simp
      have E1 := Lib.hid e1; have E2 := Lib.hid e2; clear e1 e2
      cases hcl : c.closed <;> cases hw : c.waits <;> rcases t1 with t1 | t1 <;> rcases t2 with t2 | t2
      all_goals
        rw [hcl] at p2; rw [hw] at p4
        have e1 := E1.out; have e2 := E2.out
        rw [hcl, t1] at e1; rw [hw, t2] at e2
        have E3 := Lib.hid e1; have E4 := Lib.hid e2; clear e1 e2 E1 E2 hcl hw
        go_wp2_with fail
        go_roundw
        case rel => exact ⟨_, cnt3, HG3.out, HB3.out, by rw [HEL.out, HS1.out, E3.out]; go_num, by rw [HEL.out, HS2.out, E4.out]; go_num⟩
        case measure => rw [HG3.out.left_eq, HRG.out.left_eq]; exact HLT.out
end Go.Proofs.YtacdkcapejijdaaGreatDoor
