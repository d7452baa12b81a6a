/- The reader's words: want, decimal. -/
import Derived.Test.YtbfebfeliddpnaaDoorPrB
import Derived.Test.YtbfebfeliddpnaaDoorParQ
import Derived.Outline
namespace Go.Proofs.YtbfebfeliddpnaaDoor
open Go.RowKit
set_option linter.unusedVariables false
set_option linter.unusedSimpArgs false
/-- What a reading call has done: it gave up at a place, or gave a value and goes on with these tokens. -/
def ReadQ {α : Type} (w : World) (r : Nat) (s : ByteArray) (x : Except Nat (α × List Tk)) (val : α → Value) (e : Ending) (w' : World) : Prop :=
  OnlyP (fun b => b = r) w w' ∧ match x with
    | .error p => e = faultE p
    | .ok (v, l) => e = .returned (val v) ∧ ∃ i, i ≤ s.size ∧ RdB w' r s i ∧ toks s i = l
theorem str_eq (x y : ByteArray) : (x.toList == y.toList) = decide (x = y) := by
  rw [Bool.eq_iff_iff, beq_iff_eq, decide_eq_true_iff]
  constructor
  · intro h
    rw [ByteArray.toList_eq, ByteArray.toList_eq] at h
    exact Go.WideShapes.bytes_inj h
  · rintro rfl; rfl
theorem extract_size (s : ByteArray) (a b : Nat) (h : b ≤ s.size) : (s.extract a b).size = b - a := by rw [ByteArray.size_extract]; omega
theorem byteAt_extract (s : ByteArray) (a b k : Nat) (hb : b ≤ s.size) (hk : a + k < b) : byteAt (s.extract a b) k = byteAt s (a + k) := by
  rw [byteAt_in _ _ (by rw [extract_size s a b hb]; omega), byteAt_in s (a + k) (by omega)]
  rw [ByteArray.getElem_extract]
theorem word_ne (s : ByteArray) (a b : Nat) (h : TkOk s (.word a b)) : s.extract a b ≠ bSemi := by
  obtain ⟨h1, h2, h3⟩ := h
  intro e
  have h4 := h3 a (Nat.le_refl _) h1
  have h5 := byteAt_extract s a b 0 h2 (by omega)
  rw [e, Nat.add_zero] at h5
  rw [← h5] at h4
  exact absurd h4 (by decide)
/-- A token has been read, or the reader gave up. -/
def GotQ {α : Type} (w : World) (r : Nat) (s : ByteArray) (f : ByteArray → Option α) (l : List Tk) (e : Ending) (w' : World) : Prop :=
  OnlyP (fun b => b = r) w w' ∧ ((∃ x a en, e = .returned (.tuple #[.string x, .int .i64 (a : Nat)]) ∧ en ≤ s.size ∧ a ≤ s.size ∧ x.size ≤ s.size ∧ RdB w' r s en ∧ readF s f l = (match f x with | some v => .ok (v, toks s en) | none => .error a)) ∨ (∃ p, e = faultE p ∧ readF s f l = .error p))
theorem got_ok {α : Type} (f : ByteArray → Option α) (hf : f bSemi = none) (w : World) (r : Nat) (s : ByteArray) (i : Nat) (h : RdB w r s i) (hi : i ≤ s.size) (hs : s.size ≤ 65536) :
    Calls Tryd.prog 72 #[.pointer (some ⟨r, 0, none⟩)] w (GotQ w r s f (toks s i)) := by
  refine (token_ok w r s i h hi hs).mono ?_
  rintro e w' ⟨ho, hq⟩
  refine ⟨ho, ?_⟩
  rcases tkOf_cases s i hi with ⟨j, h1, h2, _, h4, et⟩ | ⟨j, h1, h2, _, _, _, et, h3, h4⟩ | ⟨j, _, _, _, _, _, et⟩ | ⟨_, et⟩
  · have hg : (tkOf s i).goes = true := by rw [et]; rfl
    rw [toks_go s i hi hg]
    rw [et] at hq ⊢
    simp only [Tk.goes, if_true] at hq
    obtain ⟨rfl, hr⟩ := hq
    exact .inl ⟨bSemi, j, j + 1, rfl, by omega, by omega, (by show 1 ≤ s.size; omega), hr, by rw [hf]; rfl⟩
  · have hg : (tkOf s i).goes = true := by rw [et]; rfl
    rw [toks_go s i hi hg]
    rw [et] at hq ⊢
    simp only [Tk.goes, if_true] at hq
    obtain ⟨rfl, hr⟩ := hq
    exact .inl ⟨s.extract j (wend s j), j, wend s j, rfl, h4, by omega, by rw [extract_size s j _ h4]; omega, hr, rfl⟩
  · have hg : (tkOf s i).goes = false := by rw [et]; rfl
    rw [toks_halt s i hg]
    rw [et] at hq ⊢
    simp only [Tk.goes] at hq
    exact .inr ⟨j, by simpa [Tk.pl] using hq, rfl⟩
  · have hg : (tkOf s i).goes = false := by rw [et]; rfl
    rw [toks_halt s i hg]
    rw [et] at hq ⊢
    simp only [Tk.goes] at hq
    exact .inr ⟨s.size, by simpa [Tk.pl] using hq, rfl⟩
set_option maxHeartbeats 1000000 in
set_option maxRecDepth 100000 in
theorem want_word (x0 : ByteArray) (hx : x0 ≠ bSemi) (w : World) (r : Nat) (s : ByteArray) (i : Nat) (h : RdB w r s i) (hi : i ≤ s.size) (hs : s.size ≤ 65536) :
    Calls Tryd.prog 41 #[.pointer (some ⟨r, 0, none⟩), .string x0] w (ReadQ w r s (readF s (isW x0) (toks s i)) fun _ => .tuple #[]) := by
  obtain ⟨Q, eQ⟩ : ∃ Q, Q = ReadQ w r s (readF s (isW x0) (toks s i)) (fun _ => Value.tuple #[]) := ⟨_, rfl⟩
  rw [← eQ]
  have EQ := Lib.hid eQ
  have HG := Lib.hid (got_ok (isW x0) (by unfold isW; rw [if_neg (fun e => hx e.symm)]) w r s i h hi hs)
  clear eQ h hx
  go_enter Tryd.func41, Tryd.ntmps41
  go_wp2_with fail
  refine HG.out.mono ?_
  rintro e w1 ⟨ho, ⟨x, a, en, rfl, h1, h2, h3, hr, hv⟩ | ⟨p, rfl, hv⟩⟩
  · by_cases hxx : x = x0
    · have HF := Lib.hid (show Q (.returned (.tuple #[])) w1 by
        rw [EQ.out]
        refine ⟨ho, ?_⟩
        rw [hv, isW, if_pos hxx]
        exact ⟨rfl, en, h1, hr, rfl⟩)
      clear ho hr hv
      subst hxx
      go_wp2_with fail
      first | exact HF.out | (go_end0; exact HF.out)
    · have HF := Lib.hid (show Q (faultE a) w1 by
        rw [EQ.out]
        refine ⟨ho, ?_⟩
        rw [hv, isW, if_neg hxx])
      have hne : (x.toList == x0.toList) = false := by rw [str_eq, decide_eq_false hxx]
      clear ho hr hv hxx
      go_wp2_with fail
      first | exact HF.out | exact ⟨rfl, HF.out⟩
  · have HF := Lib.hid (show Q (faultE p) w1 by
      rw [EQ.out]
      refine ⟨ho, ?_⟩
      rw [hv])
    clear ho hv
    unfold faultE at HF ⊢
    go_wp2_with fail
    first | exact HF.out | exact ⟨rfl, HF.out⟩
/-- The mark has been read, or the reader gave up. -/
def MarkQ (w : World) (r : Nat) (s : ByteArray) (l : List Tk) (e : Ending) (w' : World) : Prop :=
  OnlyP (fun b => b = r) w w' ∧ ((∃ x a en, e = .returned (.tuple #[.string x, .int .i64 (a : Nat)]) ∧ en ≤ s.size ∧ a ≤ s.size ∧ x.size ≤ s.size ∧ RdB w' r s en ∧ ((x = bSemi ∧ l = .semi a :: toks s en) ∨ (x ≠ bSemi ∧ ∃ b, x = s.extract a b ∧ l = .word a b :: toks s en))) ∨ (∃ t, t.goes = false ∧ e = faultE t.pl ∧ l = [t]))
theorem mark_ok (w : World) (r : Nat) (s : ByteArray) (i : Nat) (h : RdB w r s i) (hi : i ≤ s.size) (hs : s.size ≤ 65536) :
    Calls Tryd.prog 72 #[.pointer (some ⟨r, 0, none⟩)] w (MarkQ w r s (toks s i)) := by
  refine (token_ok w r s i h hi hs).mono ?_
  rintro e w' ⟨ho, hq⟩
  refine ⟨ho, ?_⟩
  have hok := tkOf_ok s i hi
  rcases tkOf_cases s i hi with ⟨j, h1, h2, _, h4, et⟩ | ⟨j, h1, h2, _, _, _, et, h3, h4⟩ | ⟨j, _, _, _, _, _, et⟩ | ⟨_, et⟩
  · have hg : (tkOf s i).goes = true := by rw [et]; rfl
    rw [toks_go s i hi hg]
    rw [et] at hq ⊢
    simp only [Tk.goes, if_true] at hq
    obtain ⟨rfl, hr⟩ := hq
    exact .inl ⟨bSemi, j, j + 1, rfl, by omega, by omega, (by show 1 ≤ s.size; omega), hr, .inl ⟨rfl, rfl⟩⟩
  · have hg : (tkOf s i).goes = true := by rw [et]; rfl
    rw [toks_go s i hi hg]
    rw [et] at hq hok ⊢
    simp only [Tk.goes, if_true] at hq
    obtain ⟨rfl, hr⟩ := hq
    exact .inl ⟨s.extract j (wend s j), j, wend s j, rfl, h4, by omega, by rw [extract_size s j _ h4]; omega, hr, .inr ⟨word_ne s j _ hok, _, rfl, rfl⟩⟩
  · have hg : (tkOf s i).goes = false := by rw [et]; rfl
    rw [toks_halt s i hg]
    rw [et] at hq ⊢
    simp only [Tk.goes] at hq
    exact .inr ⟨.bad j, rfl, by simpa using hq, rfl⟩
  · have hg : (tkOf s i).goes = false := by rw [et]; rfl
    rw [toks_halt s i hg]
    rw [et] at hq ⊢
    simp only [Tk.goes] at hq
    exact .inr ⟨.fin s.size, rfl, by simpa using hq, rfl⟩
set_option maxHeartbeats 1000000 in
set_option maxRecDepth 100000 in
theorem want_mark (w : World) (r : Nat) (s : ByteArray) (i : Nat) (h : RdB w r s i) (hi : i ≤ s.size) (hs : s.size ≤ 65536) :
    Calls Tryd.prog 41 #[.pointer (some ⟨r, 0, none⟩), .string bSemi] w (ReadQ w r s (semiF (toks s i)) fun _ => .tuple #[]) := by
  obtain ⟨Q, eQ⟩ : ∃ Q, Q = ReadQ w r s (semiF (toks s i)) (fun _ => Value.tuple #[]) := ⟨_, rfl⟩
  rw [← eQ]
  have EQ := Lib.hid eQ
  have HG := Lib.hid (mark_ok w r s i h hi hs)
  obtain ⟨x0, ex0⟩ : ∃ x, x = bSemi := ⟨_, rfl⟩
  rw [← ex0]
  have EX := Lib.hid ex0
  clear eQ h ex0
  go_enter Tryd.func41, Tryd.ntmps41
  go_wp2_with fail
  refine HG.out.mono ?_
  rintro e w1 ⟨ho, ⟨x, a, en, rfl, h1, h2, h3, hr, ⟨hx, hv⟩ | ⟨hx, b, hxe, hv⟩⟩ | ⟨t, hg, rfl, hv⟩⟩
  · have HF := Lib.hid (show Q (.returned (.tuple #[])) w1 by
      rw [EQ.out]
      refine ⟨ho, ?_⟩
      rw [hv]
      exact ⟨rfl, en, h1, hr, rfl⟩)
    have hxx : x = x0 := by rw [hx, EX.out]
    clear ho hr hv hx
    subst hxx
    go_wp2_with fail
    first | exact HF.out | (go_end0; exact HF.out)
  · have HF := Lib.hid (show Q (faultE a) w1 by
      rw [EQ.out]
      refine ⟨ho, ?_⟩
      rw [hv]
      rfl)
    have hne : (x.toList == x0.toList) = false := by rw [str_eq, decide_eq_false (by rw [EX.out]; exact hx)]
    clear ho hr hv hx hxe
    go_wp2_with fail
    first | exact HF.out | exact ⟨rfl, HF.out⟩
  · have HF := Lib.hid (show Q (faultE t.pl) w1 by
      rw [EQ.out]
      refine ⟨ho, ?_⟩
      rw [hv]
      cases t with
      | word a b => simp [Tk.goes] at hg
      | semi a => simp [Tk.goes] at hg
      | bad a => rfl
      | fin a => rfl)
    clear ho hv hg
    obtain ⟨p, ep⟩ : ∃ p, p = t.pl := ⟨_, rfl⟩
    rw [← ep] at HF ⊢
    clear ep
    unfold faultE at HF ⊢
    go_wp2_with fail
    first | exact HF.out | exact ⟨rfl, HF.out⟩
end Go.Proofs.YtbfebfeliddpnaaDoor
