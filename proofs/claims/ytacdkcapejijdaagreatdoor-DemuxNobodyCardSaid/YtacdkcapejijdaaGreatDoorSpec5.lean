/- What a cookie tells stands in the text (no program here). -/
import Derived.Test.YtacdkcapejijdaaGreatDoorSpec4
import Derived.Test.YtacdkcapejijdaaGreatDoorSpec3
namespace Go.Proofs.YtacdkcapejijdaaGreatDoor
open Go.RowKit Clo

theorem splitOn_infix (c : UInt8) : ∀ (l : Str), ∀ x ∈ splitOn c l, x <:+: l ∧ (∀ y ys, splitOn c l = y :: ys → y <+: l)
  | [], x, hx => by
    simp [splitOn] at hx
    subst hx
    refine ⟨List.infix_refl _, fun y ys h => ?_⟩
    simp [splitOn] at h
    rw [← h.1]
    exact List.prefix_refl _
  | a :: r, x, hx => by
    have hne : splitOn c r ≠ [] := by
      cases r with
      | nil => simp [splitOn]
      | cons b r => unfold splitOn; split; simp; split <;> simp
    unfold splitOn at hx ⊢
    by_cases ha : a = c
    · rw [if_pos ha] at hx ⊢
      refine ⟨?_, fun y ys h => ?_⟩
      · rcases List.mem_cons.1 hx with rfl | hx
        · exact List.nil_infix
        · exact (splitOn_infix c r x hx).1.trans (List.suffix_cons a r).isInfix
      · injection h with h1 _
        rw [← h1]; exact List.nil_prefix
    · rw [if_neg ha] at hx ⊢
      cases hs : splitOn c r with
      | nil => exact absurd hs hne
      | cons y ys =>
        rw [hs] at hx
        simp only at hx ⊢
        have hy := (splitOn_infix c r y (by rw [hs]; exact List.mem_cons_self ..)).2 y ys hs
        refine ⟨?_, fun z zs h => ?_⟩
        · rcases List.mem_cons.1 hx with rfl | hx
          · exact (List.cons_prefix_cons.2 ⟨rfl, hy⟩).isInfix
          · exact (splitOn_infix c r x (by rw [hs]; exact List.mem_cons_of_mem _ hx)).1.trans (List.suffix_cons a r).isInfix
        · injection h with h1 _
          rw [← h1]
          exact List.cons_prefix_cons.2 ⟨rfl, hy⟩
theorem trim_infix (l : Str) : trim l <:+: l := by
  unfold trim trimL trimR
  refine (List.dropWhile_suffix _).isInfix.trans ?_
  have h := List.dropWhile_suffix isBlank (l := l.reverse)
  obtain ⟨t, ht⟩ := h
  have : l = (l.reverse.dropWhile isBlank).reverse ++ t.reverse := by
    rw [← List.reverse_append, ht, List.reverse_reverse]
  exact ⟨[], t.reverse, by simpa using this.symm⟩
theorem cut_infix (s sep : Str) : (Lib.cut s sep).2.1 <:+: s := by
  unfold Lib.cut
  split
  · exact (List.drop_suffix _ _).isInfix
  · exact List.nil_infix
theorem foldParts_inv {σ : Type} (P : σ → Prop) (upd : σ → Str → Nat → σ × Bool) : ∀ (ps : List Str) (st : σ) (a : Nat), P st → (∀ st p a, p ∈ ps → P st → P (upd st p a).1) → P (foldParts upd st a ps)
  | [], _, _, h, _ => h
  | p :: r, st, a, h, hs => by
    have h1 := hs st p a (List.mem_cons_self ..) h
    unfold foldParts
    split
    · exact foldParts_inv P upd r _ _ h1 fun st q a hq => hs st q a (List.mem_cons_of_mem _ hq)
    · exact h1
theorem cookies_infix (s : Str) : ∀ p ∈ cookies s, p.2 <:+: s := by
  unfold cookies
  refine foldParts_inv (fun st => ∀ p ∈ st, p.2 <:+: s) cookieStep (splitOn 59 s) [] 0 (by intro p hp; cases hp) fun st q a hq hst => ?_
  unfold cookieStep
  split
  · intro p hp
    rcases List.mem_append.1 hp with hp | hp
    · exact hst p hp
    · rw [List.mem_singleton] at hp
      subst hp
      exact (cut_infix _ _).trans ((trim_infix q).trans (splitOn_infix 59 s q hq).1)
  · exact hst
theorem getP_mem {n t : Str} : ∀ {l : List (Str × Str)}, getP l n = some t → ∃ p ∈ l, p.2 = t
  | [], h => by cases h
  | p :: r, h => by
    unfold getP at h
    split at h
    · cases h; exact ⟨p, List.mem_cons_self .., rfl⟩
    · obtain ⟨q, hq, e⟩ := getP_mem h
      exact ⟨q, List.mem_cons_of_mem _ hq, e⟩
theorem tokenIn_infix : ∀ vs : List Str, tokenIn vs = [] ∨ ∃ v ∈ vs, tokenIn vs <:+: v
  | [] => .inl rfl
  | v :: r => by
    unfold tokenIn
    split
    · rename_i t ht
      obtain ⟨p, hp, rfl⟩ := getP_mem ht
      exact .inr ⟨v, List.mem_cons_self .., cookies_infix v p hp⟩
    · rcases tokenIn_infix r with h | ⟨u, hu, h⟩
      · exact .inl h
      · exact .inr ⟨u, List.mem_cons_of_mem _ hu, h⟩
theorem tokenOf_infix (r : Rq) : tokenOf r = [] ∨ ∃ p ∈ r.head.fields, tokenOf r <:+: p.2 := by
  unfold tokenOf
  rcases tokenIn_infix (values r.head.fields cookieName) with h | ⟨v, hv, h⟩
  · exact .inl h
  · unfold values at hv
    obtain ⟨p, hp, rfl⟩ := List.mem_map.1 hv
    exact .inr ⟨p, (List.mem_filter.1 hp).1, h⟩
theorem tokenOf_len (r : Rq) (hg : HdGood r.head) : (tokenOf r).length ≤ 1024 := by
  rcases tokenOf_infix r with h | ⟨p, hp, h⟩
  · rw [h]; simp
  · exact Nat.le_trans h.length_le (hg.2.1 p hp).2
end Go.Proofs.YtacdkcapejijdaaGreatDoor
