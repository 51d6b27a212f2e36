/- package parse: hex, newline, Chunks. -/
import Derived.Test.YtacdkcapejijdaaGreatDoorHead7
import Derived.WalkMore
import Derived.ScopeJumps
import Derived.LoopN
import Derived.Deep.DeepCutAuto
namespace Go.Proofs.YtacdkcapejijdaaGreatDoor
open Go.RowKit Clo

set_option maxHeartbeats 2000000 in
theorem hex_any (c : UInt8) (w : World) : Calls Tryz.prog 80 #[.int .u8 c.toNat] w fun e w' => e = .returned (.int .i64 (hexVal c)) ∧ w' = w := by
  have hc := c.toNat_lt
  obtain ⟨R, hR⟩ : ∃ R, R = hexVal c := ⟨_, rfl⟩
  rw [← hR]
  unfold hexVal at hR
  have HR := Lib.hid hR; clear hR
  go_enter Tryz.func80, Tryz.ntmps80
  go_wp2
  all_goals
    go_ret
    refine ⟨ret_int ?_, rfl⟩
    rw [HR.out]
    first
      | (rw [if_pos (by omega)]; try go_num)
      | (rw [if_neg (by omega), if_pos (by omega)]; try go_num)
      | (rw [if_neg (by omega), if_neg (by omega), if_pos (by omega)]; try go_num)
      | (rw [if_neg (by omega), if_neg (by omega), if_neg (by omega)]; try go_num)

set_option maxHeartbeats 2000000 in
theorem newline_any (s : ByteArray) (k : Nat) (w : World) (hk : k ≤ s.size) :
    Calls Tryz.prog 81 #[.string s, .int .i64 k] w fun e w' => e = .returned (.int .i64 (newline ((bl s).drop k))) ∧ w' = w := by
  obtain ⟨R, hR⟩ : ∃ R, R = newline ((bl s).drop k) := ⟨_, rfl⟩
  rw [← hR]
  unfold newline at hR
  have h1 := fun W => hasPrefix_any (s.extract k s.size) ⟨#[13, 10]⟩ W
  have h2 := fun W => hasPrefix_any ⟨#[13, 10]⟩ (s.extract k s.size) W
  have ec : bl ⟨#[13, 10]⟩ = crlf := rfl
  rw [bl_drop, ec] at h1 h2
  generalize Lib.hasPrefix ((bl s).drop k) crlf = p1 at hR h1
  generalize Lib.hasPrefix crlf ((bl s).drop k) = p2 at hR h2
  have HR := Lib.hid hR; have H1 := Lib.hid h1; have H2 := Lib.hid h2; clear hR h1 h2 ec
  cases p1 <;> cases p2
  all_goals
    go_enter Tryz.func81, Tryz.ntmps81
    go_wp2_with (first | ((with_reducible refine (H1.out _).mono ?_); rintro e w' ⟨rfl, rfl⟩) | ((with_reducible refine (H2.out _).mono ?_); rintro e w' ⟨rfl, rfl⟩))
    go_ret
    exact ⟨ret_int (by rw [HR.out]; rfl), rfl⟩

/-! ### a scope with two labels -/
/-- As Q; by a goto to l0: A; to l1: B. -/
def exTwo (l0 : Nat) (A : Act → World → Prop) (l1 : Nat) (B : Act → World → Prop) (Q : Exit → Act → World → Prop) : Exit → Act → World → Prop
  | .goto l, a, w => (l = l0 ∧ A a w) ∨ (l = l1 ∧ B a w)
  | e, a, w => Q e a w

theorem wp_scope_two {P : Program} {a0 : Act} {w0 : World} {Q : Exit → Act → World → Prop} {c D E : Code} (l0 l1 : Nat) (A B : Act → World → Prop) (μ : Act → World → Nat) (h0 : findLabel c l0 = some E) (h1 : findLabel c l1 = some (.seq .skip D))
    (digit : ∀ n a w, B a w → μ a w = n → D.wp P (exTwo l0 (fun a w => A a w ∧ μ a w < n) l1 (fun a w => B a w ∧ μ a w < n) Q) a w)
    (chunk : ∀ n a w, A a w → μ a w = n → (∀ a w, B a w → μ a w = n → D.wp P (exTwo l0 (fun a w => A a w ∧ μ a w < n) l1 (fun a w => B a w ∧ μ a w < n) Q) a w) → E.wp P (exTwo l0 (fun a w => A a w ∧ μ a w < n) l1 (fun a w => B a w ∧ μ a w < n) Q) a w)
    (first : (∀ a w, B a w → D.wp P (exTwo l0 A l1 B Q) a w) → c.wp P (exTwo l0 A l1 B Q) a0 w0) : (Code.scope c).wp P Q a0 w0 := by
  intro b k cs
  have g0 : gotoIn l0 (.inScope c :: k) = some (.code E :: .inScope c :: k) := by simp [gotoIn, h0]
  have g1 : gotoIn l1 (.inScope c :: k) = some (.code (.seq .skip D) :: .inScope c :: k) := by simp [gotoIn, h1]
  have weak : ∀ a w, B a w → D.wp P (exTwo l0 A l1 B Q) a w := fun a w h => by
    refine Code.wp_mono ?_ (digit _ a w h rfl)
    intro e a w h
    cases e <;> first | exact h | exact h.imp (fun x => ⟨x.1, x.2.1⟩) (fun x => ⟨x.1, x.2.1⟩)
  -- from either label on, the scope comes to its end
  have ends : ∀ n, (∀ a w, A a w → μ a w = n → ∃ e a' w', Q e a' w' ∧ Arrives P (lone (b.at a (.code E :: .inScope c :: k)) cs w) b k cs e a' w') ∧
      (∀ a w, B a w → μ a w = n → ∃ e a' w', Q e a' w' ∧ Arrives P (lone (b.at a (.code (.seq .skip D) :: .inScope c :: k)) cs w) b k cs e a' w') := by
    intro n
    induction n using Nat.strongRecOn with
    | _ n ih =>
      have go : ∀ (X : Code) a w, X.wp P (exTwo l0 (fun a w => A a w ∧ μ a w < n) l1 (fun a w => B a w ∧ μ a w < n) Q) a w → ∃ e a' w', Q e a' w' ∧ Arrives P (lone (b.at a (.code X :: .inScope c :: k)) cs w) b k cs e a' w' := by
        intro X a w hX
        obtain ⟨e, a₁, w₁, hq, harr⟩ := hX b (.inScope c :: k) cs
        cases e with
        | normal => exact ⟨.normal, a₁, w₁, hq, Steps.trans harr (.one step_inScope)⟩
        | exit id => exact ⟨.exit id, a₁, w₁, hq, fun k' hk => harr k' (by simp [exitTo, hk])⟩
        | goto l' =>
          rcases hq with ⟨rfl, hJ, hlt⟩ | ⟨rfl, hJ, hlt⟩
          · obtain ⟨e₂, a₂, w₂, hq₂, harr₂⟩ := (ih _ hlt).1 a₁ w₁ hJ rfl
            exact ⟨e₂, a₂, w₂, hq₂, .of_steps (harr _ g0) harr₂⟩
          · obtain ⟨e₂, a₂, w₂, hq₂, harr₂⟩ := (ih _ hlt).2 a₁ w₁ hJ rfl
            exact ⟨e₂, a₂, w₂, hq₂, .of_steps (harr _ g1) harr₂⟩
        | ret => exact ⟨_, a₁, w₁, hq, harr⟩
        | panic ch => exact ⟨_, a₁, w₁, hq, harr⟩
        | outgrown => exact ⟨_, a₁, w₁, hq, harr⟩
      exact ⟨fun a w hA hn => go E a w (chunk n a w hA hn fun a w hB hn => digit n a w hB hn), fun a w hB hn => go (.seq .skip D) a w (wp_seq (wp_skip (digit n a w hB hn)))⟩
  obtain ⟨e, a₁, w₁, hq, harr⟩ := first weak b (.inScope c :: k) cs
  cases e with
  | normal => exact ⟨.normal, a₁, w₁, hq, .head step_scope (Steps.trans harr (.one step_inScope))⟩
  | exit id => exact ⟨.exit id, a₁, w₁, hq, fun k' hk => .head step_scope (harr k' (by simp [exitTo, hk]))⟩
  | goto l' =>
    rcases hq with ⟨rfl, hJ⟩ | ⟨rfl, hJ⟩
    · obtain ⟨e₂, a₂, w₂, hq₂, harr₂⟩ := (ends _).1 a₁ w₁ hJ rfl
      exact ⟨e₂, a₂, w₂, hq₂, .of_steps (.head step_scope (harr _ g0)) harr₂⟩
    · obtain ⟨e₂, a₂, w₂, hq₂, harr₂⟩ := (ends _).2 a₁ w₁ hJ rfl
      exact ⟨e₂, a₂, w₂, hq₂, .of_steps (.head step_scope (harr _ g1)) harr₂⟩
  | ret => exact ⟨_, a₁, w₁, hq, .of_steps (.one step_scope) harr⟩
  | panic ch => exact ⟨_, a₁, w₁, hq, .of_steps (.one step_scope) harr⟩
  | outgrown => exact ⟨_, a₁, w₁, hq, .of_steps (.one step_scope) harr⟩
theorem wp_scope_one {P : Program} {a0 : Act} {w0 : World} {Q : Exit → Act → World → Prop} {c D : Code} (l : Nat) (J : Act → World → Prop) (μ : Act → World → Nat) (hf : findLabel c l = some D)
    (pass : ∀ a w, J a w → D.wp P (Exit.jump l (fun a' w' => J a' w' ∧ μ a' w' < μ a w) Q) a w)
    (first : (∀ a w, J a w → D.wp P (Exit.jump l J Q) a w) → c.wp P (Exit.jump l J Q) a0 w0) : (Code.scope c).wp P Q a0 w0 :=
  wp_scope_jumps l J μ hf (first fun a w h => Code.wp_mono (by
    intro e a w h
    cases e <;> first | exact h | exact ⟨h.1, h.2.1⟩) (pass a w h)) pass
theorem exTwo_ret {l0 l1 : Nat} {A B : Act → World → Prop} {Q : Exit → Act → World → Prop} {a : Act} {w : World} : exTwo l0 A l1 B Q .ret a w = Q .ret a w := rfl

/-! ### the plain steps of Chunks -/
def chunkEnd (fuel : Nat) (body s : Str) (n at2 : Nat) : Str × Int × Bool × Int :=
  if newline (s.drop at2) = 2 then ([], 0, false, 400)
  else if newline (s.drop at2) = 1 then ([], 0, true, 0)
  else if 16384 < body.length + n then ([], 0, false, 413)
  else if s.length < at2 + 2 + n then ([], 0, true, 0)
  else if newline (s.drop (at2 + 2 + n)) = 2 then ([], 0, false, 400)
  else if newline (s.drop (at2 + 2 + n)) = 1 then ([], 0, true, 0)
  else if 0 < n then chunksLoop fuel (body ++ (s.drop (at2 + 2)).take n) (at2 + 2 + n + 2) s
  else (body ++ (s.drop (at2 + 2)).take n, ((at2 + 2 + n + 2 : Nat) : Int), false, 0)
def chunkAfter (fuel : Nat) (body s : Str) (n : Nat) : Option (Option Nat) → Str × Int × Bool × Int
  | none => ([], 0, false, 400)
  | some none => ([], 0, true, 0)
  | some (some at2) => chunkEnd fuel body s n at2
def chunkGo (fuel : Nat) (body : Str) (line : Nat) (s : Str) : ChunkR → Str × Int × Bool × Int
  | .more => ([], 0, true, 0)
  | .bad st => ([], 0, false, st)
  | .size n at1 => chunkAfter fuel body s n (if s.getD at1 0 = 59 then chunkExt line (at1 + 1) (s.drop (at1 + 1)) else some (some at1))
theorem chunksLoop_succ (fuel : Nat) (body : Str) (k : Nat) (s : Str) : chunksLoop (fuel + 1) body k s = chunkGo fuel body k s (chunkSize 0 0 k (s.drop k)) := by
  rw [chunksLoop]
  cases chunkSize 0 0 k (s.drop k) with
  | more => rfl
  | bad st => rfl
  | size n at1 =>
    simp only [chunkGo]
    generalize (if s.getD at1 0 = 59 then chunkExt k (at1 + 1) (s.drop (at1 + 1)) else some (some at1)) = e
    cases e with
    | none => rfl
    | some e => cases e <;> rfl

def ChunkPost (r : Str × Int × Bool × Int) (w : World) (e : Ending) (w' : World) : Prop :=
  e = .returned (.tuple #[.string ⟨r.1.toArray⟩, .int .i64 r.2.1, .bool r.2.2.1, .int .i64 r.2.2.2]) ∧ Below w.heap.size w w'

theorem results_tmp4 {fn : Func} {t u v x : Tmp} (h : fn.results = #[.tmp t, .tmp u, .tmp v, .tmp x]) (tmps : Array Value) (P : Program) (w : World) :
    (results fn tmps).run P w = .ok (.tuple #[tmps.getD t undef, tmps.getD u undef, tmps.getD v undef, tmps.getD x undef]) w := by
  simp [results, h]
theorem drop_at (s : ByteArray) (k : Nat) (h : k < s.size) : (bl s).drop k = s[k] :: (bl s).drop (k + 1) := by
  rw [List.drop_eq_getElem_cons (by rw [bl_length]; exact h), bl_get s k h]
theorem hexVal_range (c : UInt8) : -1 ≤ hexVal c ∧ hexVal c ≤ 15 := by
  unfold hexVal
  split
  · omega
  · split
    · omega
    · split <;> omega
theorem pow_next {n d dg : Nat} (h : n < 16 ^ dg) (hd : d < 16) : n * 16 + d < 16 ^ (dg + 1) := by
  rw [Nat.pow_succ]
  generalize 16 ^ dg = x at h
  omega
theorem pow_lt8 {n dg : Nat} (h : n < 16 ^ dg) (hd : dg ≤ 8) : n < 4294967296 :=
  Nat.lt_of_lt_of_le h (Nat.le_trans (Nat.pow_le_pow_right (by omega) hd) (by simp))
theorem or16 (n d : Nat) (hn : n < 4294967296) (hd : d < 16) : bits BinOp.or .i64 ((n : Int) * 16) (d : Int) = ((n * 16 + d : Nat) : Int) := by
  have e1 : (n : Int) * 16 = ((n * 16 : Nat) : Int) := by omega
  rw [e1]
  have h1 : (BitVec.ofInt 64 ((n * 16 : Nat) : Int)).toNat = n * 16 := by
    rw [BitVec.ofInt_natCast, BitVec.toNat_ofNat]; exact Nat.mod_eq_of_lt (by omega)
  have h2 : (BitVec.ofInt 64 (d : Int)).toNat = d := by
    rw [BitVec.ofInt_natCast, BitVec.toNat_ofNat]; exact Nat.mod_eq_of_lt (by omega)
  have h3 : n * 16 ||| d = n * 16 + d := by
    have := Nat.two_pow_add_eq_or_of_lt (i := 4) (b := d) (by omega) n
    have e : 2 ^ 4 * n = n * 16 := by omega
    rw [e] at this; exact this.symm
  show IntKind.i64.wrap ((BitVec.ofInt 64 ((n * 16 : Nat) : Int) ||| BitVec.ofInt 64 (d : Int)).toNat : Int) = _
  rw [BitVec.toNat_or, h1, h2, h3]
  exact IntWalk.i64_in _ (by omega)
theorem newline_cases (l : Str) : newline l = 0 ∨ newline l = 1 ∨ newline l = 2 := by
  unfold newline
  split
  · exact .inl rfl
  · split
    · exact .inr (.inl rfl)
    · exact .inr (.inr rfl)
theorem newline_two (l : Str) (h : newline l = 0) : 2 ≤ l.length := by
  unfold newline at h
  by_cases hp : Lib.hasPrefix l crlf = true
  · rcases l with _ | ⟨a, _ | ⟨b, l⟩⟩
    · exact absurd hp (by decide)
    · exfalso; simp [Lib.hasPrefix, crlf, List.isPrefixOf] at hp
    · simp
  · rw [if_neg hp] at h
    split at h <;> exact absurd h (by decide)
theorem byteCells_len (l : Str) : (Lib.byteCells l).length = l.length := by simp [Lib.byteCells]
theorem tmps_lit (t : Array Value) (n : Nat) (h : t.size = n) : t = ((List.range n).map fun i => t.getD i undef).toArray := by
  apply Array.ext
  · simp [h]
  · intro i h1 h2
    simp [h1]
/-- The frame's slots that live at the labels. -/
def Slots (s : ByteArray) (w : World) (a : Act) (k : Nat) : Prop :=
  a.defers = [] ∧ a.tmps.size = 116 ∧ a.tmps.getD 0 undef = .string s ∧ a.tmps.getD 1 undef = .int .i64 k ∧ a.tmps.getD 8 undef = .pointer (some ⟨w.heap.size, 0, none⟩)
theorem Slots.lit {s : ByteArray} {w : World} {a : Act} {k : Nat} (h : Slots s w a k) : ∃ f : Nat → Value, a = { tmps := #[.string s, .int .i64 k, f 2, f 3, f 4, f 5, f 6, f 7, .pointer (some ⟨w.heap.size, 0, none⟩), f 9, f 10, f 11, f 12, f 13, f 14, f 15, f 16, f 17, f 18, f 19, f 20, f 21, f 22, f 23, f 24, f 25, f 26, f 27, f 28, f 29, f 30, f 31, f 32, f 33, f 34, f 35, f 36, f 37, f 38, f 39, f 40, f 41, f 42, f 43, f 44, f 45, f 46, f 47, f 48, f 49, f 50, f 51, f 52, f 53, f 54, f 55, f 56, f 57, f 58, f 59, f 60, f 61, f 62, f 63, f 64, f 65, f 66, f 67, f 68, f 69, f 70, f 71, f 72, f 73, f 74, f 75, f 76, f 77, f 78, f 79, f 80, f 81, f 82, f 83, f 84, f 85, f 86, f 87, f 88, f 89, f 90, f 91, f 92, f 93, f 94, f 95, f 96, f 97, f 98, f 99, f 100, f 101, f 102, f 103, f 104, f 105, f 106, f 107, f 108, f 109, f 110, f 111, f 112, f 113, f 114, f 115], defers := [] } ∧ ∀ i, a.tmps.getD i undef = f i := by
  obtain ⟨t, d⟩ := a
  obtain ⟨h1, h2, h3, h4, h5⟩ := h
  simp only at h1 h2 h3 h4 h5
  have e := tmps_lit t 116 h2
  refine ⟨fun i => t.getD i undef, ?_, fun i => rfl⟩
  subst h1
  rw [← h3, ← h4, ← h5]
  exact congrArg (fun x => ({ tmps := x, defers := [] } : Act)) e
/-- At the label chunk. -/
def AtChunk (R : Str × Int × Bool × Int) (s : ByteArray) (w : World) (a : Act) (wx : World) : Prop :=
  ∃ (k fuel : Nat) (body : Str), Slots s w a k ∧ k ≤ s.size ∧ s.size < fuel + k ∧ body.length ≤ 16384 ∧ R = chunksLoop fuel body k (bl s) ∧ Lib.IsBuilder 128 5 w.heap.size w.heap.size (Lib.byteCells body) wx ∧ Below w.heap.size w wx
/-- At the label digit. -/
def AtDigit (R : Str × Int × Bool × Int) (s : ByteArray) (w : World) (a : Act) (wx : World) : Prop :=
  ∃ (k n dg line fuel : Nat) (body : Str), Slots s w a k ∧ a.tmps.getD 9 undef = .int .i64 n ∧ a.tmps.getD 10 undef = .int .i64 dg ∧ a.tmps.getD 11 undef = .int .i64 line ∧ k ≤ s.size ∧ line ≤ k ∧ dg ≤ 8 ∧ n < 16 ^ dg ∧ s.size ≤ fuel + line ∧ body.length ≤ 16384 ∧ R = chunkGo fuel body line (bl s) (chunkSize n dg k ((bl s).drop k)) ∧ Lib.IsBuilder 128 5 w.heap.size w.heap.size (Lib.byteCells body) wx ∧ Below w.heap.size w wx
/-- At the label rest. -/
def AtRest (R : Str × Int × Bool × Int) (s : ByteArray) (w : World) (n line fuel : Nat) (body : Str) (wx0 : World) (a : Act) (wx : World) : Prop :=
  ∃ (k : Nat), Slots s w a k ∧ a.tmps.getD 9 undef = .int .i64 n ∧ a.tmps.getD 11 undef = .int .i64 line ∧ k ≤ s.size ∧ line ≤ k ∧ R = chunkAfter fuel body (bl s) n (chunkExt line k ((bl s).drop k)) ∧ wx = wx0

set_option maxHeartbeats 4000000 in
set_option maxRecDepth 100000 in
theorem chunks_any (s : ByteArray) (k : Nat) (w : World) (hk : k ≤ s.size) (hs : s.size ≤ 1073741824) : Calls Tryz.prog 47 #[.string s, .int .i64 k] w (ChunkPost (chunks (bl s) k) w) := by
  obtain ⟨R, hR⟩ : ∃ R, R = chunks (bl s) k := ⟨_, rfl⟩
  rw [← hR]
  unfold chunks at hR
  rw [bl_length] at hR
  have HR := Lib.hid hR; clear hR
  go_enter Tryz.func47, Tryz.ntmps47
  go_wp2
  refine wp_scope_two 0 1 (AtChunk R s w) (AtDigit R s w) (fun a _ => s.size - (intOf (a.tmps.getD 1 undef)).toNat) rfl rfl ?_ ?_ ?_
  · intro N a wx hB hN
    obtain ⟨k, n, dg, line, fuel, body, hsl, q9, q10, q11, hk, hlk, hdg, hn, hfl, hbd, hRR, hbld, hbw⟩ := hB
    obtain ⟨f, ha, hf⟩ := hsl.lit
    rw [hf] at q9 q10 q11
    rw [q9, q10, q11] at ha
    have hN2 : N = s.size - k := by rw [← hN, hsl.2.2.2.1]; rfl
    clear hN hf hsl q9 q10 q11
    subst ha
    have hn32 := pow_lt8 hn hdg
    have HN := Lib.hid hN2; have HBLD := Lib.hid hbld; have HN16 := Lib.hid hn
    clear hN2 hbld hn
    by_cases hke : k = s.size
    · subst hke
      have hx : R = ([], 0, true, 0) := by
        rw [hRR, List.drop_eq_nil_of_le (by rw [bl_length]; exact Nat.le_refl _)]; rfl
      have HX := Lib.hid hx; clear hx hRR
      go_wp2
      rw [exTwo_ret]
      refine bodyPost_ret (results_tmp4 rfl _ _ _) rfl ?_
      exact ⟨by rw [HX.out]; rfl, hbw⟩
    · have hlt : k < s.size := by omega
      have t0 : ((k : Int) == (s.size : Int)) = false := by rw [beq_eq_false_iff_ne]; omega
      rw [drop_at s k hlt] at hRR
      have hh := fun W => hex_any (s[k]'hlt) W
      have hhr := hexVal_range (s[k]'hlt)
      rw [chunkSize] at hRR
      generalize hv : hexVal (s[k]'hlt) = d at hh hhr hRR
      have HH := Lib.hid hh; clear hh hv
      by_cases hd : 0 ≤ d
      · rw [if_pos hd] at hRR
        by_cases h8 : dg = 8
        · rw [if_pos h8] at hRR
          have hx : R = ([], 0, false, 400) := hRR
          have HX := Lib.hid hx; clear hx hRR
          subst h8
          go_wp2_with (go_at_call 80; refine (HH.out _).mono ?_; rintro e w' ⟨rfl, rfl⟩)
          rw [exTwo_ret]
          refine bodyPost_ret (results_tmp4 rfl _ _ _) rfl ?_
          exact ⟨by rw [HX.out]; rfl, hbw⟩
        · rw [if_neg h8] at hRR
          have t1 : ((dg : Int) == 8) = false := by rw [beq_eq_false_iff_ne]; omega
          have HRR := Lib.hid hRR; clear hRR
          go_wp2_with (go_at_call 80; refine (HH.out _).mono ?_; rintro e w' ⟨rfl, rfl⟩)
          have hd16 : d.toNat < 16 := by omega
          have hor : bits BinOp.or .i64 ((n : Int) * 16) d = ((n * 16 + d.toNat : Nat) : Int) := by
            have := or16 n d.toNat hn32 hd16
            rw [← this, Int.toNat_of_nonneg hd]
          rw [hor]
          clear hor
          go_step3
          refine .inr ⟨rfl, ⟨k + 1, n * 16 + d.toNat, dg + 1, line, fuel, body, ⟨rfl, rfl, rfl, by go_num, rfl⟩, rfl, by go_num, rfl, by omega, by omega, by omega, ?_, hfl, hbd, HRR.out, HBLD.out, hbw⟩, ?_⟩
          · exact pow_next HN16.out hd16
          · rw [HN.out]; show s.size - (intOf (.int .i64 ((k : Int) + 1))).toNat < _; simp only [intOf]; omega
      · rw [if_neg hd] at hRR
        by_cases h0 : dg = 0
        · rw [if_pos h0] at hRR
          have hx : R = ([], 0, false, 400) := hRR
          have HX := Lib.hid hx; clear hx hRR
          subst h0
          go_wp2_with (go_at_call 80; refine (HH.out _).mono ?_; rintro e w' ⟨rfl, rfl⟩)
          rw [exTwo_ret]
          refine bodyPost_ret (results_tmp4 rfl _ _ _) rfl ?_
          exact ⟨by rw [HX.out]; rfl, hbw⟩
        · rw [if_neg h0] at hRR
          have t1 : ((dg : Int) == 0) = false := by rw [beq_eq_false_iff_ne]; omega
          have hRR2 : R = chunkAfter fuel body (bl s) n (if (bl s).getD k 0 = 59 then chunkExt line (k + 1) ((bl s).drop (k + 1)) else some (some k)) := hRR
          rw [bl_getD s k hlt] at hRR2
          have HRR := Lib.hid hRR2; clear hRR hRR2
          go_upto_if 48 with (go_at_call 80; refine (HH.out _).mono ?_; rintro e wx ⟨rfl, rfl⟩)
          go_cut [1, 2, 3, 4, 5, 6, 7, 10, 12, 13] from 14 to 115 (fun at2 _ _ _ _ _ _ _ _ _ wy => ∃ k2 : Nat, at2 = .int .i64 k2 ∧ k ≤ k2 ∧ k2 ≤ s.size ∧ R = chunkEnd fuel body (bl s) n k2 ∧ wy = wx)
          case first =>
            by_cases h59 : s[k]'hlt = 59
            · have t2 : (((s[k]'hlt).toNat : Int) == 59) = true := u8_yes (d := 59) h59
              have hR2 : R = chunkAfter fuel body (bl s) n (chunkExt line (k + 1) ((bl s).drop (k + 1))) := by rw [HRR.out, if_pos h59]
              have HR2 := Lib.hid hR2; clear hR2
              rw [t2]
              go_wp2
              refine wp_scope_one 2 (fun a wy => AtRest R s w n line fuel body wx a wy ∧ k ≤ (intOf (a.tmps.getD 1 undef)).toNat) (fun a _ => s.size - (intOf (a.tmps.getD 1 undef)).toNat) rfl ?_ ?_
              · intro a wy hJ
                obtain ⟨⟨kk, hsl, q9, q11, hkk, hlkk, hkr, rfl⟩, hkkk⟩ := hJ
                rw [hsl.2.2.2.1] at hkkk
                have hkkk : k ≤ kk := by simpa [intOf] using hkkk
                obtain ⟨f, ha, hf⟩ := hsl.lit
                rw [hf] at q9 q11
                rw [q9, q11] at ha
                clear hf hsl q9 q11
                subst ha
                have HKR := Lib.hid hkr; clear hkr
                by_cases hke2 : kk = s.size
                · have t3 : ((kk : Int) == (s.size : Int)) = true := by rw [hke2]; simp
                  have hx : R = ([], 0, true, 0) := by
                    rw [HKR.out, hke2, List.drop_eq_nil_of_le (by rw [bl_length]; exact Nat.le_refl _)]; rfl
                  have HX := Lib.hid hx; clear hx
                  go_wp2
                  try simp only [Exit.jump]
                  try rw [exTwo_ret]
                  refine bodyPost_ret (results_tmp4 rfl _ _ _) rfl ?_
                  exact ⟨by rw [HX.out]; rfl, hbw⟩
                · have hlt2 : kk < s.size := by omega
                  have t3 : ((kk : Int) == (s.size : Int)) = false := by rw [beq_eq_false_iff_ne]; omega
                  have hkr := HKR.out
                  rw [drop_at s kk hlt2, chunkExt] at hkr
                  by_cases hpr : (32 ≤ (s[kk]'hlt2).toNat ∧ (s[kk]'hlt2).toNat ≤ 126) ∨ (s[kk]'hlt2).toNat = 9
                  · rw [if_pos hpr] at hkr
                    have hpr3 : (32 ≤ (s[kk]'hlt2).toNat ∧ (s[kk]'hlt2).toNat ≤ 126) ∨ ((s[kk]'hlt2).toNat < 32 ∧ (((s[kk]'hlt2).toNat : Int) == 9) = true) := by
                      rcases hpr with h | h
                      · exact .inl h
                      · exact .inr ⟨by omega, by rw [h]; rfl⟩
                    clear hpr
                    by_cases h1k : 1024 ≤ kk - line
                    · rw [if_pos h1k] at hkr
                      have hx : R = ([], 0, false, 400) := hkr
                      have HX := Lib.hid hx; clear hx hkr
                      rcases hpr3 with ⟨p1, p2⟩ | ⟨p1, p2⟩
                      all_goals
                        go_wp2
                        try simp only [Exit.jump]
                        try rw [exTwo_ret]
                        refine bodyPost_ret (results_tmp4 rfl _ _ _) rfl ?_
                        exact ⟨by rw [HX.out]; rfl, hbw⟩
                    · rw [if_neg h1k] at hkr
                      have HX := Lib.hid hkr; clear hkr
                      rcases hpr3 with ⟨p1, p2⟩ | ⟨p1, p2⟩
                      all_goals
                        go_wp2
                        go_step3
                        refine ⟨rfl, ⟨⟨kk + 1, ⟨rfl, rfl, rfl, by go_num, rfl⟩, rfl, rfl, by omega, by omega, HX.out, rfl⟩, by show k ≤ (intOf (.int .i64 ((kk : Int) + 1))).toNat; simp only [intOf]; omega⟩, ?_⟩
                        show s.size - (intOf (.int .i64 ((kk : Int) + 1))).toNat < s.size - (intOf (.int .i64 (kk : Int))).toNat
                        simp only [intOf]; omega
                  · rw [if_neg hpr] at hkr
                    have hx : R = chunkEnd fuel body (bl s) n kk := hkr
                    have HX := Lib.hid hx; clear hx hkr
                    have p2 : (((s[kk]'hlt2).toNat : Int) == 9) = false := by rw [beq_eq_false_iff_ne]; omega
                    have hpr3 : (s[kk]'hlt2).toNat < 32 ∨ (32 ≤ (s[kk]'hlt2).toNat ∧ 126 < (s[kk]'hlt2).toNat) := by omega
                    clear hpr
                    rcases hpr3 with p1 | ⟨p1, p3⟩
                    all_goals
                      go_wp2
                      try simp only [Exit.jump]
                      go_wp2
                      go_meet
                      exact ⟨kk, rfl, by omega, by omega, HX.out, rfl⟩
              · intro _
                obtain ⟨kk, hkk0⟩ : ∃ kk, kk = k + 1 := ⟨_, rfl⟩
                have ekk : (k : Int) + 1 = ((kk : Nat) : Int) := by omega
                have hkr : R = chunkAfter fuel body (bl s) n (chunkExt line kk ((bl s).drop kk)) := by rw [HR2.out, hkk0]
                have HKR := Lib.hid hkr; have EKK := Lib.hid ekk; have HKK0 := Lib.hid hkk0; clear hkr ekk hkk0
                go_wp2
                go_step3
                rw [EKK.out]
                have hk1 : k < kk ∧ kk ≤ s.size := by have := HKK0.out; omega
                clear EKK HKK0
                obtain ⟨hk1, hkk⟩ := hk1
                by_cases hke2 : kk = s.size
                · have t3 : ((kk : Int) == (s.size : Int)) = true := by rw [hke2]; simp
                  have hx : R = ([], 0, true, 0) := by
                    rw [HKR.out, hke2, List.drop_eq_nil_of_le (by rw [bl_length]; exact Nat.le_refl _)]; rfl
                  have HX := Lib.hid hx; clear hx
                  go_wp2
                  try simp only [Exit.jump]
                  try rw [exTwo_ret]
                  refine bodyPost_ret (results_tmp4 rfl _ _ _) rfl ?_
                  exact ⟨by rw [HX.out]; rfl, hbw⟩
                · have hlt2 : kk < s.size := by omega
                  have t3 : ((kk : Int) == (s.size : Int)) = false := by rw [beq_eq_false_iff_ne]; omega
                  have hkr := HKR.out
                  rw [drop_at s kk hlt2, chunkExt] at hkr
                  by_cases hpr : (32 ≤ (s[kk]'hlt2).toNat ∧ (s[kk]'hlt2).toNat ≤ 126) ∨ (s[kk]'hlt2).toNat = 9
                  · rw [if_pos hpr] at hkr
                    have hpr3 : (32 ≤ (s[kk]'hlt2).toNat ∧ (s[kk]'hlt2).toNat ≤ 126) ∨ ((s[kk]'hlt2).toNat < 32 ∧ (((s[kk]'hlt2).toNat : Int) == 9) = true) := by
                      rcases hpr with h | h
                      · exact .inl h
                      · exact .inr ⟨by omega, by rw [h]; rfl⟩
                    clear hpr
                    by_cases h1k : 1024 ≤ kk - line
                    · rw [if_pos h1k] at hkr
                      have hx : R = ([], 0, false, 400) := hkr
                      have HX := Lib.hid hx; clear hx hkr
                      rcases hpr3 with ⟨p1, p2⟩ | ⟨p1, p2⟩
                      all_goals
                        go_wp2
                        try simp only [Exit.jump]
                        try rw [exTwo_ret]
                        refine bodyPost_ret (results_tmp4 rfl _ _ _) rfl ?_
                        exact ⟨by rw [HX.out]; rfl, hbw⟩
                    · rw [if_neg h1k] at hkr
                      have HX := Lib.hid hkr; clear hkr
                      rcases hpr3 with ⟨p1, p2⟩ | ⟨p1, p2⟩
                      all_goals
                        go_wp2
                        go_step3
                        exact ⟨rfl, ⟨⟨kk + 1, ⟨rfl, rfl, rfl, by go_num, rfl⟩, rfl, rfl, by omega, by omega, HX.out, rfl⟩, by show k ≤ (intOf (.int .i64 ((kk : Int) + 1))).toNat; simp only [intOf]; omega⟩⟩
                  · rw [if_neg hpr] at hkr
                    have hx : R = chunkEnd fuel body (bl s) n kk := hkr
                    have HX := Lib.hid hx; clear hx hkr
                    have p2 : (((s[kk]'hlt2).toNat : Int) == 9) = false := by rw [beq_eq_false_iff_ne]; omega
                    have hpr3 : (s[kk]'hlt2).toNat < 32 ∨ (32 ≤ (s[kk]'hlt2).toNat ∧ 126 < (s[kk]'hlt2).toNat) := by omega
                    clear hpr
                    rcases hpr3 with p1 | ⟨p1, p3⟩
                    all_goals
                      go_wp2
                      try simp only [Exit.jump]
                      go_wp2
                      go_meet
                      exact ⟨kk, rfl, by omega, by omega, HX.out, rfl⟩
            · have t2 : (((s[k]'hlt).toNat : Int) == 59) = false := u8_no (d := 59) h59
              have hR2 : R = chunkEnd fuel body (bl s) n k := by rw [HRR.out, if_neg h59]; rfl
              have HR2 := Lib.hid hR2; clear hR2
              rw [t2]
              go_wp2
              go_meet
              exact ⟨k, rfl, Nat.le_refl _, hk, HR2.out, rfl⟩
          case rest =>
            obtain ⟨k2, rfl, hk2, hk2s, hR2, rfl⟩ := hcut
            clear HRR HH
            unfold chunkEnd at hR2
            have hnl := fun W => newline_any s k2 W hk2s
            have hn3 := newline_cases ((bl s).drop k2)
            have hn0 := newline_two ((bl s).drop k2)
            rw [List.length_drop, bl_length] at hn0
            rw [bl_length] at hR2
            generalize newline ((bl s).drop k2) = nl at hnl hn3 hn0 hR2
            have HNL := Lib.hid hnl; have HR2 := Lib.hid hR2; clear hnl hR2
            rcases hn3 with rfl | rfl | rfl
            · have hn0 := hn0 rfl
              have hx := HR2.out
              rw [if_neg (by decide), if_neg (by decide)] at hx
              have HX := Lib.hid hx; clear hx HR2
              by_cases hbig : 16384 < body.length + n
              · have hx : R = ([], 0, false, 413) := by rw [HX.out, if_pos hbig]
                have HX2 := Lib.hid hx; clear hx
                go_wp2_with (first | (go_at_call 81; refine (HNL.out _).mono ?_; rintro e wc ⟨rfl, rfl⟩) | (go_at_call 82; refine (Tryz.Builder_Len _ _ _ _ HBLD.out).mono ?_; rw [byteCells_len]; rintro e wc ⟨rfl, rfl⟩))
                rw [exTwo_ret]
                refine bodyPost_ret (results_tmp4 rfl _ _ _) rfl ?_
                exact ⟨by rw [HX2.out]; rfl, hbw⟩
              · have hx := HX.out
                rw [if_neg hbig] at hx
                have HX1 := Lib.hid hx; clear hx HX
                by_cases hsh : s.size < k2 + 2 + n
                · have hx : R = ([], 0, true, 0) := by rw [HX1.out, if_pos hsh]
                  have HX2 := Lib.hid hx; clear hx
                  go_wp2_with (first | (go_at_call 81; refine (HNL.out _).mono ?_; rintro e wc ⟨rfl, rfl⟩) | (go_at_call 82; refine (Tryz.Builder_Len _ _ _ _ HBLD.out).mono ?_; rw [byteCells_len]; rintro e wc ⟨rfl, rfl⟩))
                  rw [exTwo_ret]
                  refine bodyPost_ret (results_tmp4 rfl _ _ _) rfl ?_
                  exact ⟨by rw [HX2.out]; rfl, hbw⟩
                · have hx := HX1.out
                  rw [if_neg hsh] at hx
                  go_wp2_with (first | (go_at_call 81; refine (HNL.out _).mono ?_; rintro e wc ⟨rfl, rfl⟩) | (go_at_call 82; refine (Tryz.Builder_Len _ _ _ _ HBLD.out).mono ?_; rw [byteCells_len]; rintro e wc ⟨rfl, rfl⟩))
                  go_at_call 65
                  have hzw := hbw.size
                  have hes : (s.extract (k2 + 2) (k2 + 2 + n)).size = n := by rw [size_extract]; omega
                  have heb : bl (s.extract (k2 + 2) (k2 + 2 + n)) = ((bl s).drop (k2 + 2)).take n := by rw [bl_extract]; congr 1; omega
                  refine (writeString_any w.heap.size w.heap.size (Lib.byteCells body) _ wc HBLD.out (by rw [byteCells_len, hes]; omega) hzw).mono ?_
                  rintro e w3 ⟨rfl, hb3, hbl3⟩
                  have hbw3 : Below w.heap.size w w3 := hbw.trans hbl3
                  have hcs : Lib.byteCells body ++ Lib.strCells (s.extract (k2 + 2) (k2 + 2 + n)) = Lib.byteCells (body ++ ((bl s).drop (k2 + 2)).take n) := by
                    rw [← heb]; simp [Lib.byteCells, Lib.strCells, bl]
                  rw [hcs] at hb3
                  rw [hes]
                  have hbl : (body ++ ((bl s).drop (k2 + 2)).take n).length ≤ 16384 := by
                    rw [List.length_append, List.length_take]; omega
                  have hnlB := fun W => newline_any s (k2 + 2 + n) W (by omega)
                  have hn3B := newline_cases ((bl s).drop (k2 + 2 + n))
                  have hn0B := newline_two ((bl s).drop (k2 + 2 + n))
                  rw [List.length_drop, bl_length] at hn0B
                  generalize newline ((bl s).drop (k2 + 2 + n)) = nm at hnlB hn3B hn0B hx
                  generalize body ++ ((bl s).drop (k2 + 2)).take n = bod at hb3 hbl hx
                  obtain ⟨k3, hk3⟩ : ∃ k3, k3 = k2 + 2 + n := ⟨_, rfl⟩
                  rw [← hk3] at hnlB hn0B hx
                  have ek3 : (k2 : Int) + 2 + (n : Int) = ((k3 : Nat) : Int) := by omega
                  have HNLB := Lib.hid hnlB; have HB3 := Lib.hid hb3; have EK3 := Lib.hid ek3; have HK3 := Lib.hid hk3
                  clear hnlB hb3 hcs heb hes ek3 hk3
                  rcases hn3B with rfl | rfl | rfl
                  · have hn0B := hn0B rfl
                    rw [if_neg (by decide), if_neg (by decide)] at hx
                    by_cases hnp : 0 < n
                    · rw [if_pos hnp] at hx
                      have HX2 := Lib.hid hx; clear hx
                      go_wp2_with fail
                      go_at_call 81
                      rw [EK3.out]
                      refine (HNLB.out _).mono ?_
                      rintro e wc ⟨rfl, rfl⟩
                      have hk3b : k2 + 2 ≤ k3 ∧ k3 + 2 ≤ s.size := by have := HK3.out; omega
                      obtain ⟨hk3b, hk3c⟩ := hk3b
                      go_wp2_with fail
                      go_step3
                      refine .inl ⟨rfl, ⟨k3 + 2, fuel, _, ⟨rfl, rfl, rfl, by go_num, rfl⟩, by omega, by omega, hbl, HX2.out, .inr HB3.out, hbw3⟩, ?_⟩
                      rw [HN.out]
                      show s.size - (intOf (.int .i64 ((k3 : Int) + 2))).toNat < _
                      simp only [intOf]; omega
                    · rw [if_neg hnp] at hx
                      have HX2 := Lib.hid hx; clear hx
                      go_wp2_with fail
                      go_at_call 81
                      rw [EK3.out]
                      refine (HNLB.out _).mono ?_
                      rintro e wc ⟨rfl, rfl⟩
                      have hk3b : k2 + 2 ≤ k3 ∧ k3 + 2 ≤ s.size := by have := HK3.out; omega
                      obtain ⟨hk3b, hk3c⟩ := hk3b
                      go_wp2_with fail
                      refine (Tryz.Builder_String_any w.heap.size w.heap.size _ _ (.inr HB3.out) hbw3.size).mono ?_
                      rintro e w4 ⟨rfl, hb4⟩
                      go_wp2
                      rw [exTwo_ret]
                      refine bodyPost_ret (results_tmp4 rfl _ _ _) rfl ?_
                      refine ⟨?_, hbw3.trans hb4⟩
                      rw [HX2.out]
                      show Ending.returned (.tuple #[.string _, .int .i64 ((k3 : Int) + 2), _, _]) = _
                      rw [show ((k3 : Int) + 2) = ((k3 + 2 : Nat) : Int) by omega]; rfl
                  · have hx2 : R = ([], 0, true, 0) := by rw [hx]; rfl
                    have HX2 := Lib.hid hx2; clear hx hx2 hn0B
                    go_wp2_with fail
                    go_at_call 81
                    rw [EK3.out]
                    refine (HNLB.out _).mono ?_
                    rintro e wc ⟨rfl, rfl⟩
                    go_wp2
                    rw [exTwo_ret]
                    refine bodyPost_ret (results_tmp4 rfl _ _ _) rfl ?_
                    exact ⟨by rw [HX2.out]; rfl, hbw3⟩
                  · have hx2 : R = ([], 0, false, 400) := by rw [hx]; rfl
                    have HX2 := Lib.hid hx2; clear hx hx2 hn0B
                    go_wp2_with fail
                    go_at_call 81
                    rw [EK3.out]
                    refine (HNLB.out _).mono ?_
                    rintro e wc ⟨rfl, rfl⟩
                    go_wp2
                    rw [exTwo_ret]
                    refine bodyPost_ret (results_tmp4 rfl _ _ _) rfl ?_
                    exact ⟨by rw [HX2.out]; rfl, hbw3⟩
            · have hx : R = ([], 0, true, 0) := by rw [HR2.out]; rfl
              have HX := Lib.hid hx; clear hx HR2 hn0
              go_wp2_with (go_at_call 81; refine (HNL.out _).mono ?_; rintro e wc ⟨rfl, rfl⟩)
              rw [exTwo_ret]
              refine bodyPost_ret (results_tmp4 rfl _ _ _) rfl ?_
              exact ⟨by rw [HX.out]; rfl, hbw⟩
            · have hx : R = ([], 0, false, 400) := by rw [HR2.out]; rfl
              have HX := Lib.hid hx; clear hx HR2 hn0
              go_wp2_with (go_at_call 81; refine (HNL.out _).mono ?_; rintro e wc ⟨rfl, rfl⟩)
              rw [exTwo_ret]
              refine bodyPost_ret (results_tmp4 rfl _ _ _) rfl ?_
              exact ⟨by rw [HX.out]; rfl, hbw⟩
  · intro N a wx hA hN hD
    obtain ⟨k, fuel, body, hsl, hk, hfl, hbd, hRR, hbld, hbw⟩ := hA
    obtain ⟨f, ha, hf⟩ := hsl.lit
    have hN2 : N = s.size - k := by rw [← hN, hsl.2.2.2.1]; rfl
    clear hN hf hsl
    subst ha
    obtain ⟨fuel, rfl⟩ : ∃ q, fuel = q + 1 := ⟨fuel - 1, by omega⟩
    rw [chunksLoop_succ] at hRR
    have HD := Lib.hid hD; have HRR := Lib.hid hRR; have HBLD := Lib.hid hbld; have HN := Lib.hid hN2
    clear hD hRR hbld hN2
    go_wp2_with fail
    go_step3
    rename_i hK
    refine hK _ _ ?_
    refine HD.out _ _ ?_ ?_
    · exact ⟨k, 0, 0, k, fuel, body, ⟨rfl, rfl, rfl, rfl, rfl⟩, rfl, rfl, rfl, hk, Nat.le_refl _, by omega, by simp, by omega, hbd, HRR.out, HBLD.out, hbw⟩
    · rw [HN.out]; rfl
  · intro hD
    have HD := Lib.hid hD; clear hD
    have t1 : (k : Int) ≤ (s.size : Int) := by omega
    go_wp2
    go_step3
    rename_i hK
    refine hK _ _ ?_
    go_wp2
    go_step3
    rename_i hK2
    refine hK2 _ _ ?_
    refine HD.out _ _ ?_
    exact ⟨k, 0, 0, k, s.size, [], ⟨rfl, rfl, rfl, rfl, rfl⟩, rfl, rfl, rfl, hk, Nat.le_refl _, by omega, by simp, by omega, by simp, by rw [HR.out, chunksLoop_succ], Lib.fresh_isBuilder _ _ _, (Below.refl _ _).alloc (Nat.le_refl _) _⟩
end Go.Proofs.YtacdkcapejijdaaGreatDoor
