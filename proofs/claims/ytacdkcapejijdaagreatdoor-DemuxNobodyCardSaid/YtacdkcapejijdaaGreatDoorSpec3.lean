/- What a parsed head is bounded by (no program here). -/
import Derived.Test.YtacdkcapejijdaaGreatDoorHead7
namespace Go.Proofs.YtacdkcapejijdaaGreatDoor
open Go.RowKit Clo

def HdGood (h : Hd) : Prop := h.fields.length ≤ 32 ∧ (∀ p ∈ h.fields, p.1.length ≤ 1024 ∧ p.2.length ≤ 1024) ∧ h.target.length ≤ 1024
theorem HdGood.zero : HdGood Hd.zero := ⟨by decide, by intro p hp; exact absurd hp (by simp [Hd.zero]), by decide⟩
theorem HdGood.sizes {h : Hd} (g : HdGood h) : SizesLe h.fields 1073741824 := by
  intro k hk
  have := g.2.1 (h.fields.getD k ([], [])) (by simp [List.getD, hk])
  omega
theorem reqLine_target (l : Str) : (reqLine l).2.2.1.length ≤ l.length := by
  have h1 := cut_len l sp
  have h2 := cut_len (Lib.cut l sp).2.1 sp
  unfold reqLine
  simp only
  split
  · simp
  · split
    · simp
    · split
      · simp
      · show (Lib.cut (Lib.cut l sp).2.1 sp).1.length ≤ _
        omega
theorem small_len (l : Str) : (small l).length = l.length := by simp [small]
theorem fieldLine_len (n : Nat) (l : Str) : (fieldLine n l).2.1.length ≤ l.length ∧ (fieldLine n l).2.2.length ≤ l.length := by
  have h1 := cut_len l colon
  have h2 := trim_len (Lib.cut l colon).2.1
  unfold fieldLine
  split
  · simp
  · split
    · simp
    · simp only [small_len]
      omega
theorem headEnd_good {h : Hd} (g : HdGood h) : HdGood (headEnd h).1 := by
  unfold headEnd
  split
  · exact HdGood.zero
  · exact g
theorem headLoop_good : ∀ (fuel : Nat) (first : Bool) (h : Hd) (all at_ : Nat) (s : Str), HdGood h → HdGood (headLoop fuel first h all at_ s).1
  | 0, _, _, _, _, _, _ => HdGood.zero
  | fuel + 1, first, h, all, at_, s, g => by
    unfold headLoop
    simp only
    split
    · exact HdGood.zero
    · rename_i hlen
      split
      · exact HdGood.zero
      · split
        · split
          · exact HdGood.zero
          · exact headEnd_good g
        · split
          · split
            · exact HdGood.zero
            · refine headLoop_good fuel _ _ _ _ _ ⟨g.1, g.2.1, ?_⟩
              have := reqLine_target (Lib.cut s crlf).1
              show (reqLine (Lib.cut s crlf).1).2.2.1.length ≤ 1024
              omega
          · split
            · exact HdGood.zero
            · rename_i hf
              have hf0 : (fieldLine h.fields.length (Lib.cut s crlf).1).1 = 0 := by
                apply Classical.byContradiction; exact hf
              have hn := field_len hf0
              have hl := fieldLine_len h.fields.length (Lib.cut s crlf).1
              refine headLoop_good fuel _ _ _ _ _ ⟨?_, ?_, g.2.2⟩
              · have := g.1; simp; omega
              · intro p hp
                rcases List.mem_append.1 hp with hp | hp
                · exact g.2.1 p hp
                · rw [List.mem_singleton] at hp
                  subst hp
                  simp only
                  omega
theorem headParse_good (s : Str) : HdGood (headParse s).1 := by
  unfold headParse
  split
  · exact HdGood.zero
  · exact headLoop_good _ _ _ _ _ _ HdGood.zero
end Go.Proofs.YtacdkcapejijdaaGreatDoor
