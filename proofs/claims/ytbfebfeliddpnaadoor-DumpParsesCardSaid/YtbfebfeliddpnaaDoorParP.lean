/- The dump's text as tokens, and what they make: the plain side. -/
import Derived.Test.YtbfebfeliddpnaaDoorHp
namespace Go.Proofs.YtbfebfeliddpnaaDoor
set_option linter.unusedVariables false
set_option linter.unusedSimpArgs false
def byteAt (s : ByteArray) (i : Nat) : Nat := if h : i < s.size then (s[i]'h).toNat else 0
theorem byteAt_in (s : ByteArray) (i : Nat) (h : i < s.size) : byteAt s i = (s[i]'h).toNat := by unfold byteAt; rw [dif_pos h]
theorem byteAt_lt (s : ByteArray) (i : Nat) : byteAt s i < 256 := by
  unfold byteAt
  split
  · exact UInt8.toNat_lt _
  · omega
def digB (c : Nat) : Bool := decide (48 ≤ c) && decide (c ≤ 57)
def lowB (c : Nat) : Bool := decide (97 ≤ c) && decide (c ≤ 122)
def wordyB (c : Nat) : Bool := lowB c || digB c || decide (c = 45)
def blankB (c : Nat) : Bool := decide (c = 32) || decide (c = 9) || decide (c = 10) || decide (c = 13)
/-- The place of the next byte that is neither a blank nor in a comment. -/
def skip (s : ByteArray) (cm : Bool) (i : Nat) : Nat :=
  if i < s.size then
    if cm then skip s (decide (byteAt s i ≠ 10)) (i + 1)
    else if byteAt s i = 35 then skip s true (i + 1)
    else if blankB (byteAt s i) then skip s false (i + 1)
    else i
  else s.size
termination_by s.size - i
theorem skip_end (s : ByteArray) (cm : Bool) (i : Nat) (h : s.size ≤ i) : skip s cm i = s.size := by
  rw [skip, if_neg (by omega)]
theorem skip_cm (s : ByteArray) (i : Nat) (h : i < s.size) : skip s true i = skip s (decide (byteAt s i ≠ 10)) (i + 1) := by
  rw [skip, if_pos h, if_pos rfl]
theorem skip_hash (s : ByteArray) (i : Nat) (h : i < s.size) (hc : byteAt s i = 35) : skip s false i = skip s true (i + 1) := by
  rw [skip, if_pos h, if_neg (by decide), if_pos hc]
theorem skip_blank (s : ByteArray) (i : Nat) (h : i < s.size) (hc : blankB (byteAt s i) = true) : skip s false i = skip s false (i + 1) := by
  rw [skip, if_pos h, if_neg (by decide), if_neg (by intro e; rw [e] at hc; exact absurd hc (by decide)), if_pos hc]
theorem skip_stop (s : ByteArray) (i : Nat) (h : i < s.size) (h1 : byteAt s i ≠ 35) (hc : blankB (byteAt s i) = false) : skip s false i = i := by
  rw [skip, if_pos h, if_neg (by decide), if_neg h1, if_neg (by rw [hc]; decide)]
theorem skip_spec (s : ByteArray) : ∀ (n : Nat) (cm : Bool) (i : Nat), s.size - i = n → i ≤ s.size → i ≤ skip s cm i ∧ skip s cm i ≤ s.size ∧ (skip s cm i < s.size → byteAt s (skip s cm i) ≠ 35 ∧ blankB (byteAt s (skip s cm i)) = false)
  | 0, cm, i, hn, hi => by
    rw [skip_end s cm i (by omega)]
    exact ⟨hi, Nat.le_refl _, fun h => absurd h (by omega)⟩
  | n + 1, cm, i, hn, hi => by
    have ih := fun c => skip_spec s n c (i + 1) (by omega) (by omega)
    have hlt : i < s.size := by omega
    cases cm
    · by_cases h1 : byteAt s i = 35
      · rw [skip_hash s i hlt h1]; exact ⟨by have := (ih true).1; omega, (ih true).2⟩
      · cases h2 : blankB (byteAt s i)
        · rw [skip_stop s i hlt h1 h2]; exact ⟨Nat.le_refl _, hi, fun _ => ⟨h1, h2⟩⟩
        · rw [skip_blank s i hlt h2]; exact ⟨by have := (ih false).1; omega, (ih false).2⟩
    · rw [skip_cm s i hlt]; exact ⟨by have := (ih (decide (byteAt s i ≠ 10))).1; omega, (ih _).2⟩
theorem skip_ge (s : ByteArray) (cm : Bool) (i : Nat) (h : i ≤ s.size) : i ≤ skip s cm i := (skip_spec s _ cm i rfl h).1
theorem skip_le (s : ByteArray) (cm : Bool) (i : Nat) (h : i ≤ s.size) : skip s cm i ≤ s.size := (skip_spec s _ cm i rfl h).2.1
theorem skip_idem (s : ByteArray) (cm : Bool) (i : Nat) (h : i ≤ s.size) : skip s false (skip s cm i) = skip s cm i := by
  by_cases hl : skip s cm i < s.size
  · obtain ⟨h1, h2⟩ := (skip_spec s _ cm i rfl h).2.2 hl
    exact skip_stop s _ hl h1 h2
  · have := skip_le s cm i h
    rw [skip_end s false _ (by omega)]; omega
/-- The end of the word that stands there. -/
def wend (s : ByteArray) (i : Nat) : Nat :=
  if i < s.size then if wordyB (byteAt s i) then wend s (i + 1) else i else s.size
termination_by s.size - i
theorem wend_end (s : ByteArray) (i : Nat) (h : s.size ≤ i) : wend s i = s.size := by rw [wend, if_neg (by omega)]
theorem wend_on (s : ByteArray) (i : Nat) (h : i < s.size) (hc : wordyB (byteAt s i) = true) : wend s i = wend s (i + 1) := by rw [wend, if_pos h, if_pos hc]
theorem wend_stop (s : ByteArray) (i : Nat) (h : i < s.size) (hc : wordyB (byteAt s i) = false) : wend s i = i := by rw [wend, if_pos h, if_neg (by rw [hc]; decide)]
theorem wend_spec (s : ByteArray) : ∀ (n : Nat) (i : Nat), s.size - i = n → i ≤ s.size → i ≤ wend s i ∧ wend s i ≤ s.size ∧ (∀ k, i ≤ k → k < wend s i → wordyB (byteAt s k) = true)
  | 0, i, hn, hi => by
    rw [wend_end s i (by omega)]
    exact ⟨hi, Nat.le_refl _, fun k h1 h2 => absurd h2 (by omega)⟩
  | n + 1, i, hn, hi => by
    have ih := wend_spec s n (i + 1) (by omega) (by omega)
    have hlt : i < s.size := by omega
    cases h2 : wordyB (byteAt s i)
    · rw [wend_stop s i hlt h2]; exact ⟨Nat.le_refl _, hi, fun k h1 h2 => absurd h2 (by omega)⟩
    · rw [wend_on s i hlt h2]
      refine ⟨by omega, ih.2.1, fun k h3 h4 => ?_⟩
      by_cases e : k = i
      · rw [e]; exact h2
      · exact ih.2.2 k (by omega) h4
theorem wend_gt (s : ByteArray) (i : Nat) (h : i < s.size) (hc : wordyB (byteAt s i) = true) : i < wend s i := by
  rw [wend_on s i h hc]; have := (wend_spec s _ (i + 1) rfl (by omega)).1; omega
theorem wend_le (s : ByteArray) (i : Nat) (h : i ≤ s.size) : wend s i ≤ s.size := (wend_spec s _ i rfl h).2.1
/-- A token: a word from a up to b, the mark, a byte that begins none, the end. -/
inductive Tk where
  | word (a b : Nat)
  | semi (a : Nat)
  | bad (a : Nat)
  | fin (a : Nat)
def Tk.pl : Tk → Nat
  | .word a _ => a
  | .semi a => a
  | .bad a => a
  | .fin a => a
def bSemi : ByteArray := ⟨#[59]⟩
def bBad : ByteArray := ⟨#[63]⟩
def Tk.tx (s : ByteArray) : Tk → ByteArray
  | .word a b => s.extract a b
  | .semi _ => bSemi
  | .bad _ => bBad
  | .fin _ => ByteArray.empty
/-- The token that begins at j (a place that skip gives). -/
def tkAt (s : ByteArray) (j : Nat) : Tk :=
  if j < s.size then if byteAt s j = 59 then .semi j else if wordyB (byteAt s j) then .word j (wend s j) else .bad j else .fin s.size
def Tk.en : Tk → Nat
  | .word _ b => b
  | .semi a => a + 1
  | .bad a => a
  | .fin a => a
def Tk.goes : Tk → Bool
  | .word _ _ => true
  | .semi _ => true
  | .bad _ => false
  | .fin _ => false
/-- The next token. -/
def tkOf (s : ByteArray) (i : Nat) : Tk := tkAt s (skip s false i)
theorem tkOf_cases (s : ByteArray) (i : Nat) (h : i ≤ s.size) :
    (∃ j, i ≤ j ∧ j < s.size ∧ skip s false i = j ∧ byteAt s j = 59 ∧ tkOf s i = .semi j) ∨ (∃ j, i ≤ j ∧ j < s.size ∧ skip s false i = j ∧ byteAt s j ≠ 59 ∧ wordyB (byteAt s j) = true ∧ tkOf s i = .word j (wend s j) ∧ j < wend s j ∧ wend s j ≤ s.size) ∨
    (∃ j, i ≤ j ∧ j < s.size ∧ skip s false i = j ∧ byteAt s j ≠ 59 ∧ wordyB (byteAt s j) = false ∧ tkOf s i = .bad j) ∨ (skip s false i = s.size ∧ tkOf s i = .fin s.size) := by
  have h1 := skip_ge s false i h
  have h2 := skip_le s false i h
  unfold tkOf tkAt
  by_cases hl : skip s false i < s.size
  · rw [if_pos hl]
    by_cases hc : byteAt s (skip s false i) = 59
    · rw [if_pos hc]; exact .inl ⟨_, h1, hl, rfl, hc, rfl⟩
    · rw [if_neg hc]
      cases hw : wordyB (byteAt s (skip s false i))
      · rw [if_neg (by decide)]; exact .inr (.inr (.inl ⟨_, h1, hl, rfl, hc, hw, rfl⟩))
      · rw [if_pos rfl]; exact .inr (.inl ⟨_, h1, hl, rfl, hc, hw, rfl, wend_gt s _ hl hw, wend_le s _ h2⟩)
  · rw [if_neg hl]; exact .inr (.inr (.inr ⟨by omega, rfl⟩))
/-- The tokens from there on. -/
def toks (s : ByteArray) (i : Nat) : List Tk :=
  if h : (tkOf s i).goes = true ∧ i < (tkOf s i).en ∧ i ≤ s.size then tkOf s i :: toks s (tkOf s i).en else [tkOf s i]
termination_by s.size + 1 - i
decreasing_by omega
theorem toks_go (s : ByteArray) (i : Nat) (h : i ≤ s.size) (hg : (tkOf s i).goes = true) : toks s i = tkOf s i :: toks s (tkOf s i).en := by
  have : i < (tkOf s i).en := by
    rcases tkOf_cases s i h with ⟨j, h1, h2, _, _, e⟩ | ⟨j, h1, h2, _, _, _, e, h3, _⟩ | ⟨j, _, _, _, _, _, e⟩ | ⟨_, e⟩
    · rw [e]; show i < j + 1; omega
    · rw [e]; show i < wend s j; omega
    · rw [e] at hg; simp [Tk.goes] at hg
    · rw [e] at hg; simp [Tk.goes] at hg
  rw [toks, dif_pos ⟨hg, this, h⟩]
theorem toks_halt (s : ByteArray) (i : Nat) (hg : (tkOf s i).goes = false) : toks s i = [tkOf s i] := by
  rw [toks, dif_neg (fun h => by rw [hg] at h; exact absurd h.1 (by decide))]
theorem tkOf_en_le (s : ByteArray) (i : Nat) (h : i ≤ s.size) : (tkOf s i).en ≤ s.size := by
  rcases tkOf_cases s i h with ⟨j, h1, h2, _, _, e⟩ | ⟨j, h1, h2, _, _, _, e, h3, h4⟩ | ⟨j, h1, h2, _, _, _, e⟩ | ⟨_, e⟩
  · rw [e]; show j + 1 ≤ _; omega
  · rw [e]; exact h4
  · rw [e]; show j ≤ _; omega
  · rw [e]; exact Nat.le_refl _
/-- A token as the text has it. -/
def TkOk (s : ByteArray) : Tk → Prop
  | .word a b => a < b ∧ b ≤ s.size ∧ ∀ k, a ≤ k → k < b → wordyB (byteAt s k) = true
  | _ => True
theorem tkOf_ok (s : ByteArray) (i : Nat) (h : i ≤ s.size) : TkOk s (tkOf s i) := by
  rcases tkOf_cases s i h with ⟨j, h1, h2, _, _, e⟩ | ⟨j, h1, h2, _, _, _, e, h3, h4⟩ | ⟨j, h1, h2, _, _, _, e⟩ | ⟨_, e⟩
  · rw [e]; trivial
  · rw [e]; exact ⟨h3, h4, (wend_spec s _ j rfl (by omega)).2.2⟩
  · rw [e]; trivial
  · rw [e]; trivial
theorem toks_ok (s : ByteArray) : ∀ (n i : Nat), s.size - i ≤ n → i ≤ s.size → ∀ t ∈ toks s i, TkOk s t
  | n, i, hn, h, t, ht => by
    cases hg : (tkOf s i).goes
    · rw [toks_halt s i hg, List.mem_singleton] at ht
      rw [ht]; exact tkOf_ok s i h
    · rw [toks_go s i h hg, List.mem_cons] at ht
      rcases ht with rfl | ht
      · exact tkOf_ok s i h
      · have h2 := tkOf_en_le s i h
        have h3 : i < (tkOf s i).en := by
          rcases tkOf_cases s i h with ⟨j, h1, h2, _, _, e⟩ | ⟨j, h1, h2, _, _, _, e, h3, _⟩ | ⟨j, _, _, _, _, _, e⟩ | ⟨_, e⟩
          · rw [e]; show i < j + 1; omega
          · rw [e]; show i < wend s j; omega
          · rw [e] at hg; simp [Tk.goes] at hg
          · rw [e] at hg; simp [Tk.goes] at hg
        match n with
        | 0 => omega
        | n + 1 => exact toks_ok s n _ (by omega) h2 t ht
/-- The tokens end with one that begins none, or with the end. -/
def Ends : List Tk → Prop
  | [] => False
  | [t] => t.goes = false
  | t :: l => t.goes = true ∧ Ends l
def digits (t : ByteArray) : Nat → Bool
  | 0 => true
  | k + 1 => digits t k && digB (byteAt t k)
def decV (t : ByteArray) : Nat → Nat
  | 0 => 0
  | k + 1 => 10 * decV t k + (byteAt t k - 48)
theorem decV_lt (t : ByteArray) : ∀ k, digits t k = true → decV t k < 10 ^ k
  | 0, _ => by simp [decV]
  | k + 1, h => by
    simp only [digits, Bool.and_eq_true] at h
    have ih := decV_lt t k h.1
    have h2 := h.2
    simp only [digB, Bool.and_eq_true, decide_eq_true_eq] at h2
    rw [decV, Nat.pow_succ]
    omega
/-- The value of a number. -/
def numOf (t : ByteArray) : Option Nat :=
  if 1 ≤ t.size ∧ t.size ≤ 19 ∧ ¬ (1 < t.size ∧ byteAt t 0 = 48) ∧ digits t t.size = true ∧ decV t t.size ≤ 4611686018427387904 then some (decV t t.size) else none
def hexB (c : Nat) : Bool := digB c || (decide (97 ≤ c) && decide (c ≤ 102))
def hexD (c : Nat) : Nat := if digB c then c - 48 else c - 87
def hexs (t : ByteArray) : Nat → Bool
  | 0 => true
  | k + 1 => hexs t k && hexB (byteAt t k)
def hexV (t : ByteArray) : Nat → Nat
  | 0 => 0
  | k + 1 => 16 * hexV t k + hexD (byteAt t k)
theorem hexD_lt (c : Nat) (h : hexB c = true) : hexD c < 16 := by
  unfold hexD
  simp only [hexB, digB, Bool.or_eq_true, Bool.and_eq_true, decide_eq_true_eq] at h ⊢
  split <;> omega
theorem hexV_lt (t : ByteArray) : ∀ k, hexs t k = true → hexV t k < 16 ^ k
  | 0, _ => by simp [hexV]
  | k + 1, h => by
    simp only [hexs, Bool.and_eq_true] at h
    have ih := hexV_lt t k h.1
    have h2 := hexD_lt _ h.2
    rw [hexV, Nat.pow_succ]
    omega
/-- The value of an identifier. -/
def idOf (t : ByteArray) : Option Nat := if t.size = 16 ∧ hexs t 16 = true then some (hexV t 16) else none
/-- The place of the first hyphen from i on. -/
def dash (t : ByteArray) (i : Nat) : Option Nat := if i < t.size then if byteAt t i = 45 then some i else dash t (i + 1) else none
termination_by t.size - i
/-- A run's first and last bit. -/
def runOf (t : ByteArray) : Option (Nat × Nat) :=
  match dash t 0 with
  | none => match numOf t with
    | some a => some (a, a)
    | none => none
  | some k => match numOf (t.extract 0 k), numOf (t.extract (k + 1) t.size) with
    | some a, some b => if a < b then some (a, b) else none
    | _, _ => none
end Go.Proofs.YtbfebfeliddpnaaDoor
