/- package demux: Pick. -/
import Derived.Test.YtacdkcapejijdaaGreatDoorDemux10
namespace Go.Proofs.YtacdkcapejijdaaGreatDoor
open Go.RowKit Go.Maps Go.WideMaps Clo

theorem results_cell_row2 {P : Program} {fn : Func} {p u : Tmp} {ty : TypeId} (h : fn.results = #[.cell p ty, .tmp u]) (tmps : Array Value) (w : World) (g : Nat) (t : TypeId) (cs : Array Value) (fr : Nat × Nat) (d : TypeDesc)
    (hp : tmps.getD p undef = .pointer (some ⟨g, 0, none⟩)) (hg : w.heap[g]? = some (.cells cs t fr))
    (hu : P.underlying ty = some d) (hd : (match d with | .struct _ | .array _ _ => true | _ => false) = true) (hi : (P.info? ty).map (·.size) = some cs.size) :
    (results fn tmps).run P w = .ok (.tuple #[.agg cs, tmps.getD u undef]) w := by
  have hp' : tmps[p]?.getD undef = .pointer (some ⟨g, 0, none⟩) := by simpa using hp
  simp [results, h, hp', asAddr, Result.andThen, run_loadVar_row w g t ty cs fr d hg hu hd hi]

def PickPost (D : Nat) (G : Gh) (r : Dm × Clo.Act × Int) (w : World) (e : Ending) (w' : World) : Prop :=
  ∃ v q, e = .returned (.tuple #[actV r.2.1 v q, .int .i64 r.2.2]) ∧ (∃ G', DmAt w' D G' r.1 ∧ Grow w w' G G' 0) ∧ PairsAt w' v r.2.1.request.head.fields ∧ PairsAt w' q r.2.1.request.query
theorem PickPost.zero {D : Nat} {G : Gh} {r : Dm × Clo.Act × Int} {d : Dm} {n : Int} {w w' : World} (hr : r = (d, Clo.Act.zero, n)) (h : DmAt w D G d) (hb : Below w.heap.size w w') :
    PickPost D G r w (.returned (.tuple #[actV Clo.Act.zero (.slice none 0 0) (.slice none 0 0), .int .i64 n])) w' := by
  subst hr
  exact ⟨_, _, rfl, ⟨G, h.below hb, Grow.of _ _ hb⟩, PairsAt.nil _, PairsAt.nil _⟩
theorem cnEmits_same (c : Cn) (r : Rs) : (cnEmits c r).1.ps = c.ps ∧ (cnEmits c r).1.answer = c.answer := ⟨rfl, rfl⟩
theorem cnLogin_same (c : Cn) (r : Rq) : (cnLogin c r).1.ps = c.ps ∧ (cnLogin c r).1.answer = c.answer := by
  unfold cnLogin
  split
  · split
    · exact cnEmits_same _ _
    · split
      · exact cnEmits_same _ _
      · exact ⟨rfl, rfl⟩
  · exact cnEmits_same _ _
theorem dmRequest_same (d : Dm) (c : Cn) (r : Rq) : (dmRequest d c r).1.ps = c.ps ∧ (dmRequest d c r).1.answer = c.answer := by
  unfold dmRequest
  split
  · exact cnLogin_same c r
  · split
    · exact cnEmits_same _ _
    · split
      · exact cnEmits_same _ _
      · split
        · exact cnEmits_same _ _
        · simp only
          split
          · exact ⟨rfl, rfl⟩
          · split
            · exact cnEmits_same _ _
            · exact ⟨rfl, rfl⟩
theorem cnPick_none (d : Dm) (i : Int) (c : Cn) (h : c.answer = none) : cnPick d i c =
    if c.waits then (c, Clo.Act.zero)
    else if c.lost then cnEmits c (plainR 413 true)
    else if (next c.ps).2.2.2 ≠ 0 then cnEmits { c with ps := (next c.ps).1 } (plainR (next c.ps).2.2.2 true)
    else if (next c.ps).2.2.1 = false then ({ c with ps := (next c.ps).1 }, Clo.Act.zero)
    else dmRequest (d.set i { c with ps := (next c.ps).1 }) { c with ps := (next c.ps).1 } (next c.ps).2.1 := by
  unfold cnPick
  cases hc : c.answer with
  | none => rfl
  | some r => rw [hc] at h; cases h
theorem AnsAt.none_of {w : World} {a : Option (Nat × Value)} (h : AnsAt w a none) : a = none := by
  cases a with
  | none => rfl
  | some x => exact h.elim
theorem AnsAt.some_of {w : World} {a : Option (Nat × Value)} {r : Rs} (h : AnsAt w a (some r)) : ∃ b v, a = some (b, v) ∧ w.heap[b]? = some (rsObj v r) ∧ PairsAt w v r.fields := by
  cases a with
  | none => exact h.elim
  | some x => exact ⟨x.1, x.2, rfl, h.1, h.2⟩
theorem DmAt.emit {w w' : World} {D : Nat} {G : Gh} {d : Dm} {i : Int} {B B' : CnB} {c c' : Cn} (h : DmAt w D G d) (hi : G.cs i = some B) (hat : CnAt w B c) (hok : CnOk c)
    (hk : Kpt (fun k => k = B.cb) w w') (hb : w'.heap[B.cb]? = some (cnObj B' c')) (hcb : B'.cb = B.cb) (hpb : B'.pb = B.pb) (hans : B'.ans = none) (hps : c'.ps = c.ps) (han : c'.answer = none) : ∃ G', DmAt w' D G' (d.set i c') ∧ Grow w w' G G' 0 := by
  obtain ⟨t1, t2, t3⟩ := h.tcb i B hi
  have hne : B.pb ≠ B.cb := fun e => by rw [e, t1] at t2; cases t2
  have hp : w'.heap[B'.pb]? = some (parserObj ⟨c'.ps.s.toArray⟩ c'.ps.status) := by rw [hps, hpb]; exact (hk.block _ (h.tb _ _ t2).2 hne).trans hat.ps
  obtain ⟨G', g1, g2, _⟩ := h.put (c' := c') (B' := B') hi (hk.mono fun k _ e => .inl (by rw [e]; exact t1)) hcb hpb ⟨by rw [hcb]; exact hb, hp, by rw [hans, han]; trivial⟩ ⟨by rw [hps]; exact hok.s, by rw [han]; intro r hr; cases hr⟩ _ (Nat.le_refl _) fun a v hv => by rw [hans] at hv; cases hv
  exact ⟨G', g1, g2⟩
/-- A connection has turned, its parser too; no answer waits. -/
theorem DmAt.turn {w w' : World} {D : Nat} {G : Gh} {d : Dm} {i : Int} {B : CnB} {c' : Cn} (h : DmAt w D G d) (hi : G.cs i = some B)
    (hk : Kpt (fun k => k = B.cb ∨ k = B.pb) w w') (hb : w'.heap[B.cb]? = some (cnObj B c')) (hp : w'.heap[B.pb]? = some (parserObj ⟨c'.ps.s.toArray⟩ c'.ps.status)) (hl : c'.ps.s.length ≤ 65536) (hans : B.ans = none) (han : c'.answer = none) :
    ∃ G', DmAt w' D G' (d.set i c') ∧ Grow w w' G G' 0 ∧ G'.cs i = some B ∧ ∀ k, G'.tag k ≠ none → G.tag k ≠ none ∨ w'.heap.size ≤ k := by
  obtain ⟨t1, t2, t3⟩ := h.tcb i B hi
  exact h.put (c' := c') (B' := B) hi (hk.mono fun k _ e => by rcases e with e | e; exact .inl (by rw [e]; exact t1); exact .inr (by rw [e]; exact t2)) rfl rfl ⟨hb, hp, by rw [hans, han]; trivial⟩ ⟨hl, by rw [han]; intro r hr; cases hr⟩ w'.heap.size hk.size fun a v hv => by rw [hans] at hv; cases hv
theorem Grow.late {w w1 w2 : World} {G G' : Gh} {m : Nat} (h : Grow w w1 G G' m) (hk : Kpt (fun k => w.heap.size ≤ k) w1 w2) : Grow w w2 G G' m :=
  ⟨⟨hk.os.trans h.kpt.os, hk.tape.trans h.kpt.tape, hk.output.trans h.kpt.output, Nat.le_trans h.kpt.size hk.size, fun k hlt hn => (hk.block k (Nat.lt_of_lt_of_le hlt h.kpt.size) (by omega)).trans (h.kpt.block k hlt hn)⟩, h.tags, h.n⟩
theorem next_len {p : Ps} (h : p.s.length ≤ 65536) : (next p).1.s.length ≤ 65536 := by
  unfold next
  split
  · exact h
  · split
    · split
      · simp [breaks]
      · exact h
    · simp only
      split
      · simp [breaks]
      · split
        · simp [breaks]
        · split
          · simp [breaks]
          · split
            · exact h
            · simp only [List.length_drop]; omega
theorem next_good (p : Ps) : HdGood (next p).2.1.head := by
  unfold next
  split
  · exact HdGood.zero
  · split
    · split
      · exact HdGood.zero
      · exact HdGood.zero
    · simp only
      split
      · exact HdGood.zero
      · split
        · exact HdGood.zero
        · split
          · exact HdGood.zero
          · split
            · exact HdGood.zero
            · exact headParse_good _
theorem chunks_len (fuel : Nat) : ∀ (body : Str) (k : Nat) (s : Str), body.length ≤ 16384 → (chunksLoop fuel body k s).1.length ≤ 16384 := by
  induction fuel with
  | zero => intro body k s _; simp [chunksLoop]
  | succ fuel ih =>
    intro body k s hb
    rw [chunksLoop_succ]
    cases chunkSize 0 0 k (s.drop k) with
    | more => simp [chunkGo]
    | bad st => simp [chunkGo]
    | size n at1 =>
      simp only [chunkGo]
      generalize (if s.getD at1 0 = 59 then chunkExt k (at1 + 1) (s.drop (at1 + 1)) else some (some at1)) = e
      cases e with
      | none => simp [chunkAfter]
      | some e =>
        cases e with
        | none => simp [chunkAfter]
        | some at2 =>
          show (chunkEnd fuel body s n at2).1.length ≤ 16384
          unfold chunkEnd
          repeat' split
          all_goals first
            | (simp; done)
            | (refine ih _ _ _ ?_; simp only [List.length_append, List.length_take]; omega)
            | (simp only [List.length_append, List.length_take]; omega)
theorem next_body (p : Ps) (h : p.s.length ≤ 65536) : (next p).2.1.body.length ≤ 65536 := by
  unfold next
  split
  · simp [Rq.zero]
  · split
    · split
      · simp [breaks, Rq.zero]
      · simp [Rq.zero]
    · simp only
      split
      · simp [breaks, Rq.zero]
      · split
        · simp [breaks, Rq.zero]
        · split
          · simp [breaks, Rq.zero]
          · split
            · simp [Rq.zero]
            · simp only
              unfold bodyAt
              split
              · split
                · simp
                · simp only [List.length_take, List.length_drop]; omega
              · split
                · have := chunks_len (p.s.length + 1) [] ((Lib.index p.s endOfHead).toNat + 4) p.s (by simp)
                  unfold chunks
                  simp only
                  omega
                · simp
end Go.Proofs.YtacdkcapejijdaaGreatDoor
