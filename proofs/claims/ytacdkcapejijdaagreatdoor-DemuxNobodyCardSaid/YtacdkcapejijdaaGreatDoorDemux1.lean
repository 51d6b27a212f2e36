/- package demux: how connections lie in memory; what stays, what turns. -/
import Derived.Test.YtacdkcapejijdaaGreatDoorSpec4
import Derived.Test.YtacdkcapejijdaaGreatDoorParse3
import Derived.Test.YtacdkcapejijdaaGreatDoorReply3
import Derived.Maps.OwnSet
import Derived.Maps.RangeWalk
namespace Go.Proofs.YtacdkcapejijdaaGreatDoor
open Go.RowKit Go.Maps Clo

abbrev DU := DataW Unit
def ptrD : Option Nat → DU
  | none => .lit (.bool false)
  | some b => .lit (.int .u64 b)
def ptrV : Option Nat → Value
  | none => .pointer none
  | some b => .pointer (some ⟨b, 0, none⟩)
def ptrR : Value → Option (DU × List MemPlace)
  | .pointer none => some (ptrD none, [])
  | .pointer (some ⟨b, 0, none⟩) => some (ptrD (some b), [])
  | _ => none
theorem ptrR_mk (o : Option Nat) : ptrR (ptrV o) = some (ptrD o, []) := by cases o <;> rfl
theorem ptrR_inv {v : Value} {z : DU × List MemPlace} (h : ptrR v = some z) : ∃ o, v = ptrV o ∧ z = (ptrD o, []) := by
  unfold ptrR at h
  split at h
  · cases h; exact ⟨none, rfl, rfl⟩
  · cases h; exact ⟨some _, rfl, rfl⟩
  · cases h
theorem ptrD_inj {a b : Option Nat} (h : ptrD a = ptrD b) : a = b := by
  cases a <;> cases b <;> simp [ptrD] at h ⊢
  omega

inductive Tag where
  | dm
  | ml
  | ms
  | cn (i : Int)
  | ps (i : Int)
  | an (i : Int)
structure CnB where
  cb : Nat
  pb : Nat
  ans : Option (Nat × Value)
structure Gh where
  ml : Nat
  ms : Nat
  n : Nat
  dl : DU
  ds : DU
  cs : Int → Option CnB
  tag : Nat → Option Tag

def ansV (a : Option (Nat × Value)) : Value := ptrV (a.map Prod.fst)
def cnObj (B : CnB) (c : Cn) : Obj :=
  .cells #[.pointer (some ⟨B.pb, 0, none⟩), .int .i64 c.user, .bool c.closed, .bool c.lost, .bool c.waits, .int .i64 c.asks, .bool c.ends, ansV B.ans] 81 (0, 0)
def rsObj (v : Value) (r : Rs) : Obj := .cells #[.int .i64 r.status, v, .string ⟨r.body.toArray⟩, .bool r.close] 41 (0, 0)
def AnsAt (w : World) : Option (Nat × Value) → Option Rs → Prop
  | none, none => True
  | some (a, v), some r => w.heap[a]? = some (rsObj v r) ∧ PairsAt w v r.fields
  | _, _ => False
structure CnAt (w : World) (B : CnB) (c : Cn) : Prop where
  cell : w.heap[B.cb]? = some (cnObj B c)
  ps : w.heap[B.pb]? = some (parserObj ⟨c.ps.s.toArray⟩ c.ps.status)
  an : AnsAt w B.ans c.answer
def RsOk (r : Rs) : Prop := SizesLe r.fields 1073741824 ∧ r.body.length ≤ 1073741824
structure CnOk (c : Cn) : Prop where
  s : c.ps.s.length ≤ 65536
  a : ∀ r, c.answer = some r → RsOk r

def dmObj (G : Gh) (d : Dm) : Obj := .cells #[.int .i64 d.users, .int .i64 d.conns, .int .i64 d.asks, .map (some G.ml), .map (some G.ms)] 69 (0, 0)
structure DmAt (w : World) (D : Nat) (G : Gh) (d : Dm) : Prop where
  cell : w.heap[D]? = some (dmObj G d)
  pos : 0 < d.users ∧ d.users ≤ 16
  l : w.ownsMap Tryz.prog 3 ptrR G.ml G.n G.dl
  s : w.ownsMap Tryz.prog 9 (plainElem Tryz.prog 3) G.ms G.n G.ds
  lk : ∀ i : Int, ∀ z, G.dl.atKey (.int .i64 i) z = match G.cs i with | some B => ptrD (some B.cb) | none => z
  in64 : ∀ i B, G.cs i = some B → isC i = true
  some_ : ∀ i B, G.cs i = some B → ∃ c, d.c i = some c ∧ CnAt w B c ∧ CnOk c
  none_ : ∀ i, G.cs i = none → d.c i = none
  sk : ∀ t : Str, Maps.has G.ds (.string t) = (d.ss t).isSome ∧ G.ds.atKey (.string t) (.lit (.int .i64 0)) = .lit (.int .i64 ((d.ss t).getD 0))
  tD : G.tag D = some .dm
  tml : G.tag G.ml = some .ml
  tms : G.tag G.ms = some .ms
  tcb : ∀ i B, G.cs i = some B → G.tag B.cb = some (.cn i) ∧ G.tag B.pb = some (.ps i) ∧ ∀ a v, B.ans = some (a, v) → G.tag a = some (.an i) ∧ ∀ g, blkOf v = some g → G.tag g = some (.an i)
  tb : ∀ k t, G.tag k = some t → envB ≤ k ∧ k < w.heap.size

structure Grow (w w' : World) (G G' : Gh) (m : Nat) : Prop where
  kpt : Kpt (fun k => G.tag k ≠ none) w w'
  tags : ∀ k, G'.tag k ≠ none → G.tag k ≠ none ∨ w.heap.size ≤ k
  n : G'.n ≤ G.n + m
theorem Grow.of {w w' : World} (G : Gh) (m : Nat) (hb : Below w.heap.size w w') : Grow w w' G G m := ⟨.of hb, fun _ h => .inl h, Nat.le_add_right _ _⟩
theorem Grow.refl (w : World) (G : Gh) (m : Nat) : Grow w w G G m := .of G m (Below.refl _ _)

theorem ownsMap_block {H : Type} {P : Program} {k : TypeId} {R : Value → Option (DataW H × List MemPlace)} {w w' : World} {b n : Nat} {D : DataW H} (h : w.ownsMap P k R b n D) (hb : w'.heap[b]? = w.heap[b]?) : w'.ownsMap P k R b n D := by
  obtain ⟨es, clock, h1, r⟩ := h
  exact ⟨es, clock, hb.trans h1, r⟩
theorem AnsAt.kept {w w' : World} {a : Option (Nat × Value)} {r : Option Rs} (h : AnsAt w a r) (hk : ∀ b v, a = some (b, v) → w'.heap[b]? = w.heap[b]? ∧ ∀ g, blkOf v = some g → w'.heap[g]? = w.heap[g]?) : AnsAt w' a r := by
  cases a with
  | none => cases r with
    | none => trivial
    | some r => exact h
  | some x =>
    obtain ⟨b, v⟩ := x
    cases r with
    | none => exact h
    | some r =>
      obtain ⟨h1, h2⟩ := h
      obtain ⟨k1, k2⟩ := hk b v rfl
      exact ⟨k1.trans h1, h2.kept fun g hg _ => k2 g hg⟩
theorem CnAt.kept {w w' : World} {B : CnB} {c : Cn} (h : CnAt w B c) (h1 : w'.heap[B.cb]? = w.heap[B.cb]?) (h2 : w'.heap[B.pb]? = w.heap[B.pb]?) (h3 : ∀ b v, B.ans = some (b, v) → w'.heap[b]? = w.heap[b]? ∧ ∀ g, blkOf v = some g → w'.heap[g]? = w.heap[g]?) : CnAt w' B c :=
  ⟨h1.trans h.cell, h2.trans h.ps, h.an.kept h3⟩
theorem DmAt.keptAll {w w' : World} {D : Nat} {G : Gh} {d : Dm} (h : DmAt w D G d) (hz : w.heap.size ≤ w'.heap.size) (hb : ∀ k t, G.tag k = some t → w'.heap[k]? = w.heap[k]?) : DmAt w' D G d where
  cell := (hb _ _ h.tD).trans h.cell
  pos := h.pos
  l := ownsMap_block h.l (hb _ _ h.tml)
  s := ownsMap_block h.s (hb _ _ h.tms)
  lk := h.lk
  in64 := h.in64
  some_ := fun i B hi => by
    obtain ⟨c, h1, h2, h3⟩ := h.some_ i B hi
    obtain ⟨t1, t2, t3⟩ := h.tcb i B hi
    exact ⟨c, h1, h2.kept (hb _ _ t1) (hb _ _ t2) fun b v hv => ⟨hb _ _ (t3 b v hv).1, fun g hg => hb _ _ ((t3 b v hv).2 g hg)⟩, h3⟩
  none_ := h.none_
  sk := h.sk
  tD := h.tD
  tml := h.tml
  tms := h.tms
  tcb := h.tcb
  tb := fun k t hk => ⟨(h.tb k t hk).1, Nat.lt_of_lt_of_le (h.tb k t hk).2 hz⟩
/-- What is done elsewhere leaves connections as they are. -/
theorem DmAt.kept {S : Nat → Prop} {w w' : World} {D : Nat} {G : Gh} {d : Dm} (h : DmAt w D G d) (hk : Kpt S w w') (hs : ∀ k, S k → G.tag k = none) : DmAt w' D G d :=
  h.keptAll hk.size fun k t ht => hk.block k (h.tb k t ht).2 fun hS => by rw [hs k hS] at ht; cases ht
theorem DmAt.below {w w' : World} {D : Nat} {G : Gh} {d : Dm} (h : DmAt w D G d) (hb : Below w.heap.size w w') : DmAt w' D G d :=
  h.keptAll hb.size fun k t ht => hb.block k (h.tb k t ht).2

/-- A connection has turned. -/
theorem DmAt.put {w w' : World} {D : Nat} {G : Gh} {d : Dm} {i : Int} {B B' : CnB} {c' : Cn} (h : DmAt w D G d) (hi : G.cs i = some B)
    (hk : Kpt (fun k => G.tag k = some (.cn i) ∨ G.tag k = some (.ps i)) w w') (hcb : B'.cb = B.cb) (hpb : B'.pb = B.pb) (hc : CnAt w' B' c') (hok : CnOk c')
    (z : Nat) (hz : w.heap.size ≤ z) (ha : ∀ a v, B'.ans = some (a, v) → (G.tag a = some (.an i) ∨ (z ≤ a ∧ a < w'.heap.size)) ∧ ∀ g, blkOf v = some g → (G.tag g = some (.an i) ∨ (z ≤ g ∧ g < w'.heap.size))) :
    ∃ G', DmAt w' D G' (d.set i c') ∧ Grow w w' G G' 0 ∧ G'.cs i = some B' ∧ ∀ k, G'.tag k ≠ none → G.tag k ≠ none ∨ z ≤ k := by
  obtain ⟨tg, htg⟩ : ∃ tg : Nat → Option Tag, tg = fun k => if z ≤ k ∧ k < w'.heap.size then some (.an i) else G.tag k := ⟨_, rfl⟩
  have told : ∀ k t, G.tag k = some t → tg k = some t := fun k t hkt => by
    have := (h.tb k t hkt).2
    rw [htg]; simp only
    rw [if_neg (by omega)]; exact hkt
  have hblk : ∀ k t, G.tag k = some t → t ≠ .cn i → t ≠ .ps i → w'.heap[k]? = w.heap[k]? := fun k t hkt h1 h2 => hk.block k (h.tb k t hkt).2 fun hx => by
    rcases hx with hx | hx
    · rw [hx] at hkt; exact h1 (Option.some.inj hkt).symm
    · rw [hx] at hkt; exact h2 (Option.some.inj hkt).symm
  have han : ∀ k, (G.tag k = some (.an i) ∨ (z ≤ k ∧ k < w'.heap.size)) → tg k = some (.an i) := fun k hx => by
    rcases hx with hx | hx
    · exact told k _ hx
    · rw [htg]; simp only; rw [if_pos hx]
  refine ⟨{ G with cs := upd G.cs i (some B'), tag := tg }, ?_, ?_, upd_same _ _ _, ?_⟩
  · refine ⟨(hblk _ _ h.tD (by simp) (by simp)).trans h.cell, h.pos, ownsMap_block h.l (hblk _ _ h.tml (by simp) (by simp)), ownsMap_block h.s (hblk _ _ h.tms (by simp) (by simp)), ?_, ?_, ?_, ?_, h.sk, told _ _ h.tD, told _ _ h.tml, told _ _ h.tms, ?_, ?_⟩
    · intro j z
      simp only [upd]
      by_cases he : j = i
      · rw [if_pos he]
        subst he
        have h0 := h.lk j z
        rw [hi] at h0
        simp only at h0 ⊢
        rw [h0, hcb]
      · rw [if_neg he]; exact h.lk j z
    · intro j Bj hj
      simp only [upd] at hj
      split at hj
      · rename_i he; subst he; exact h.in64 _ _ hi
      · exact h.in64 _ _ hj
    · intro j Bj hj
      simp only [upd] at hj
      simp only [Dm.set, upd]
      split at hj
      · rename_i he
        rw [if_pos he]
        cases hj
        exact ⟨c', rfl, hc, hok⟩
      · rename_i he
        rw [if_neg he]
        obtain ⟨c, h1, h2, h3⟩ := h.some_ j Bj hj
        obtain ⟨t1, t2, t3⟩ := h.tcb j Bj hj
        exact ⟨c, h1, h2.kept (hblk _ _ t1 (by simpa using he) (by simp)) (hblk _ _ t2 (by simp) (by simpa using he))
          fun b v hv => ⟨hblk _ _ (t3 b v hv).1 (by simp) (by simp), fun g hg => hblk _ _ ((t3 b v hv).2 g hg) (by simp) (by simp)⟩, h3⟩
    · intro j hj
      simp only [upd] at hj
      simp only [Dm.set, upd]
      split at hj
      · cases hj
      · rename_i he
        rw [if_neg he]
        exact h.none_ j hj
    · intro j Bj hj
      simp only [upd] at hj
      split at hj
      · rename_i he
        subst he
        cases hj
        obtain ⟨t1, t2, _⟩ := h.tcb _ _ hi
        exact ⟨told _ _ (by rw [hcb]; exact t1), told _ _ (by rw [hpb]; exact t2), fun a v hv => ⟨han _ (ha a v hv).1, fun g hg => han _ ((ha a v hv).2 g hg)⟩⟩
      · obtain ⟨t1, t2, t3⟩ := h.tcb j Bj hj
        exact ⟨told _ _ t1, told _ _ t2, fun a v hv => ⟨told _ _ (t3 a v hv).1, fun g hg => told _ _ ((t3 a v hv).2 g hg)⟩⟩
    · intro k t hkt
      simp only [htg] at hkt
      split at hkt
      · rename_i he
        have := (h.tb _ _ h.tD)
        exact ⟨by omega, he.2⟩
      · have := h.tb k t hkt
        have := hk.size
        exact ⟨by omega, by omega⟩
  · refine ⟨hk.mono fun k _ hx => by rcases hx with hx | hx <;> rw [hx] <;> simp, ?_, Nat.le_refl _⟩
    intro k hkt
    simp only [htg] at hkt
    split at hkt
    · rename_i he; exact .inr (Nat.le_trans hz he.1)
    · exact .inl hkt
  · intro k hkt
    simp only [htg] at hkt
    split at hkt
    · rename_i he; exact .inr he.1
    · exact .inl hkt

end Go.Proofs.YtacdkcapejijdaaGreatDoor
