/- The reference's reader: what fits, joined; where a part can end; the tokens' list. -/
import Derived.Test.YtbfebfeliddpnaaDoorRnJ
import Derived.Outline
import Derived.Deep.CutRange
namespace Go.Proofs.YtbfebfeliddpnaaDoor
open Go.RowKit
set_option linter.unusedVariables false
set_option linter.unusedSimpArgs false
theorem Ends.cons {t : Tk} {l : List Tk} (hg : t.goes = true) (h : Ends l) : Ends (t :: l) := by
  cases l with
  | nil => exact absurd h (by simp [Ends])
  | cons u l => exact ⟨hg, h⟩
theorem toks_ends (s : ByteArray) : ∀ (n i : Nat), s.size - i ≤ n → i ≤ s.size → Ends (toks s i) ∧ (toks s i).length ≤ s.size - i + 1
  | n, i, hn, h => by
    cases hg : (tkOf s i).goes
    · rw [toks_halt s i hg]
      exact ⟨hg, by simp⟩
    · rw [toks_go s i h hg]
      have h2 := tkOf_en_le s i h
      have h3 : i < (tkOf s i).en := by
        rcases tkOf_cases s i h with ⟨j, h1, h2, _, _, e⟩ | ⟨j, h1, h2, _, _, _, e, h3, _⟩ | ⟨j, _, _, _, _, _, e⟩ | ⟨_, e⟩
        · rw [e]; show i < j + 1; omega
        · rw [e]; show i < wend s j; omega
        · rw [e] at hg; simp [Tk.goes] at hg
        · rw [e] at hg; simp [Tk.goes] at hg
      match n with
      | 0 => omega
      | n + 1 =>
        obtain ⟨h4, h5⟩ := toks_ends s n _ (by omega) h2
        exact ⟨h4.cons hg, by rw [List.length_cons]; omega⟩
theorem ends_get : ∀ {l : List Tk}, Ends l → ∀ i t, l[i]? = some t → t.goes = true → i + 1 < l.length
  | [], h, _, _, _, _ => absurd h (by simp [Ends])
  | [t], h, 0, u, hu, hg => by
    simp only [List.getElem?_cons_zero, Option.some.injEq] at hu
    rw [← hu] at hg
    have h' : t.goes = false := h
    rw [h'] at hg; exact absurd hg (by decide)
  | [t], h, i + 1, u, hu, hg => by simp at hu
  | t :: v :: l, h, 0, u, hu, hg => by simp
  | t :: v :: l, h, i + 1, u, hu, hg => by
    have h9 := ends_get (l := v :: l) h.2 i u (by simpa using hu) hg
    simp only [List.length_cons] at h9 ⊢; omega
theorem drop_get {α : Type} {l : List α} {i : Nat} {t : α} (h : l[i]? = some t) : l.drop i = t :: l.drop (i + 1) := by
  obtain ⟨hi, rfl⟩ := List.getElem?_eq_some_iff.1 h
  exact List.drop_eq_getElem_cons hi
theorem word_first (s : ByteArray) (a b : Nat) (h : TkOk s (.word a b)) : 0 < (s.extract a b).size ∧ (s.extract a b).size ≤ s.size ∧ wordyB (byteAt (s.extract a b) 0) = true := by
  obtain ⟨h1, h2, h3⟩ := h
  have h4 := h3 a (Nat.le_refl _) h1
  have h5 := byteAt_extract s a b 0 h2 (by omega)
  rw [Nat.add_zero] at h5
  rw [h5, extract_size s a b h2]
  exact ⟨by omega, by omega, h4⟩
theorem word_nb (s : ByteArray) (a b : Nat) (h : TkOk s (.word a b)) : s.extract a b ≠ bBad := by
  have h5 := (word_first s a b h).2.2
  intro e
  rw [e] at h5
  exact absurd h5 (by decide)
theorem word_n0 (s : ByteArray) (a b : Nat) (h : TkOk s (.word a b)) : s.extract a b ≠ ByteArray.empty := by
  have h5 := (word_first s a b h).1
  intro e
  rw [e] at h5
  exact absurd h5 (by decide)
theorem in_ge {lo hi v : Nat} {t : ByteArray} (h : inF lo hi t = some v) : lo ≤ v ∧ v ≤ hi := by
  unfold inF at h
  split at h
  · split at h
    · simp only [Option.some.injEq] at h; rename_i hc; rw [← h]; exact hc
    · exact absurd h (by simp)
  · exact absurd h (by simp)
theorem fits_inv (p k : Nat) (t : ByteArray) (r r1 : RSt) (hp : p < 8) (h : fitsF p k t r = some r1) : (r1.m.bl = r.m.bl ∨ (p = 2 ∧ k = 0 ∧ 1 ≤ r1.m.bl)) ∧ r1.m.slots.length ≤ r.m.slots.length + 1 ∧ (p < 7 → r1.m.bits = r.m.bits) := by
  rcases (by omega : p = 0 ∨ p = 1 ∨ p = 2 ∨ p = 3 ∨ p = 4 ∨ p = 5 ∨ p = 6 ∨ p = 7) with rfl | rfl | rfl | rfl | rfl | rfl | rfl | rfl
  · unfold fitsF at h; simp only at h
    split at h
    · obtain ⟨x, hx, rfl⟩ := Option.map_eq_some_iff.1 h; exact ⟨.inl rfl, Nat.le_succ _, fun _ => rfl⟩
    · exact absurd h (by simp)
  · unfold fitsF at h; simp only at h
    split at h
    · obtain ⟨x, hx, rfl⟩ := Option.map_eq_some_iff.1 h; exact ⟨.inl rfl, Nat.le_succ _, fun _ => rfl⟩
    · exact absurd h (by simp)
  · rcases (by omega : k = 0 ∨ k = 1 ∨ k = 2 ∨ 3 ≤ k) with rfl | rfl | rfl | h4
    · unfold fitsF at h; simp only at h
      obtain ⟨x, hx, rfl⟩ := Option.map_eq_some_iff.1 h; exact ⟨.inr ⟨rfl, rfl, (in_ge hx).1⟩, Nat.le_succ _, fun _ => rfl⟩
    · unfold fitsF at h; simp only at h
      obtain ⟨x, hx, rfl⟩ := Option.map_eq_some_iff.1 h; exact ⟨.inl rfl, Nat.le_succ _, fun _ => rfl⟩
    · unfold fitsF at h; simp only at h
      obtain ⟨x, hx, rfl⟩ := Option.map_eq_some_iff.1 h; exact ⟨.inl rfl, Nat.le_succ _, fun _ => rfl⟩
    · obtain ⟨k2, rfl⟩ : ∃ k2, k = k2 + 3 := ⟨k - 3, by omega⟩
      exact absurd h (by simp [fitsF])
  · rcases (by omega : k = 0 ∨ k = 1 ∨ k = 2 ∨ k = 3 ∨ 4 ≤ k) with rfl | rfl | rfl | rfl | h4
    · unfold fitsF at h; simp only at h
      obtain ⟨x, hx, rfl⟩ := Option.map_eq_some_iff.1 h; exact ⟨.inl rfl, Nat.le_succ _, fun _ => rfl⟩
    · unfold fitsF at h; simp only at h
      obtain ⟨x, hx, rfl⟩ := Option.map_eq_some_iff.1 h; exact ⟨.inl rfl, Nat.le_succ _, fun _ => rfl⟩
    · unfold fitsF at h; simp only at h
      obtain ⟨x, hx, rfl⟩ := Option.map_eq_some_iff.1 h; exact ⟨.inl rfl, Nat.le_succ _, fun _ => rfl⟩
    · unfold fitsF at h; simp only at h
      obtain ⟨x, hx, rfl⟩ := Option.map_eq_some_iff.1 h; exact ⟨.inl rfl, Nat.le_succ _, fun _ => rfl⟩
    · obtain ⟨k2, rfl⟩ : ∃ k2, k = k2 + 4 := ⟨k - 4, by omega⟩
      exact absurd h (by simp [fitsF])
  · unfold fitsF at h; simp only at h
    obtain ⟨x, hx, rfl⟩ := Option.map_eq_some_iff.1 h; exact ⟨.inl rfl, Nat.le_succ _, fun _ => rfl⟩
  · unfold fitsF at h; simp only at h
    split at h
    · obtain ⟨x, hx, rfl⟩ := Option.map_eq_some_iff.1 h; exact ⟨.inl rfl, Nat.le_succ _, fun _ => rfl⟩
    · exact absurd h (by simp)
  · unfold fitsF at h; simp only at h
    split at h
    · obtain ⟨x, hx, rfl⟩ := Option.map_eq_some_iff.1 h; exact ⟨.inl rfl, by simp, fun _ => rfl⟩
    · exact absurd h (by simp)
  · unfold fitsF at h; simp only at h
    obtain ⟨x, hx, rfl⟩ := Option.map_eq_some_iff.1 h; exact ⟨.inl rfl, Nat.le_succ _, fun h => absurd h (by omega)⟩
theorem fits_ok (B0 : Nat) (w : World) (q : Nat) (vL : Value) (ix p k : Nat) (t : ByteArray) (r : RSt) (vb vs : Value) (hp : p < 8) (hs : t.size ≤ 65536) (hk : k ≤ 1000000) (h1 : p = 7 → 1 ≤ r.m.bl) (hB0 : B0 ≤ w.heap.size) (hsl : r.m.slots.length ≤ 1000000) (h : RdS B0 w q vL ix r vb vs (decide (p = 7))) :
    Calls Tryd.prog 40 #[.pointer (some ⟨q, 0, none⟩), .int .i64 (p : Nat), .int .i64 (k : Nat), .string t] w (FQ B0 w q vL ix p k t r vs (decide (p = 7))) := by
  rcases (by omega : p = 0 ∨ p = 1 ∨ p = 2 ∨ p = 3 ∨ p = 4 ∨ p = 5 ∨ p = 6 ∨ p = 7) with rfl | rfl | rfl | rfl | rfl | rfl | rfl | rfl
  · exact fits_0 B0 w q vL ix k t r vb vs hs hk h
  · exact fits_1 B0 w q vL ix k t r vb vs hs hk h
  · exact fits_2 B0 w q vL ix k t r vb vs hs hk h
  · exact fits_3 B0 w q vL ix k t r vb vs hs hk h
  · exact fits_4 B0 w q vL ix k t r vb vs hs hk h
  · exact fits_5 B0 w q vL ix k t r vb vs hs hk h
  · exact fits_6 B0 w q vL ix k t r vb vs hs hk hB0 hsl h
  · exact fits_7 B0 w q vL ix k t r vb vs hs hk (h1 rfl) hB0 h
theorem FQ.below {B0 : Nat} {w : World} {q : Nat} {vL : Value} {ix p k : Nat} {t : ByteArray} {r : RSt} {vb vs : Value} {p7 p8 : Bool} {e : Ending} {w' : World} (h : FQ B0 w q vL ix p k t r vs p7 e w') (hr : RdS B0 w q vL ix r vb vs p8) (hB0 : B0 ≤ w.heap.size) : Below B0 w w' := by
  obtain ⟨ok, _, ho, _⟩ := h
  refine ho.below hB0 ?_
  rintro b (rfl | hb)
  · exact hr.hq
  · exact (hr.slots.lt b hb).1
theorem RdS.below {B0 : Nat} {w w1 : World} {q : Nat} {vL : Value} {ix : Nat} {r : RSt} {vb vs : Value} {p7 : Bool} (h : RdS B0 w q vL ix r vb vs p7) (hb : Below w.heap.size w w1) : RdS B0 w1 q vL ix r vb vs p7 := by
  refine ⟨h.blk.below hb h.blk.lt, h.hq, own_keep2 h.slots (fun g hg => hb.block g (h.slots.lt g hg).2), ?_, h.fl, h.flag, h.bl, h.sl, h.least⟩
  have hbt := h.bits
  cases p7
  · exact hbt
  · simp only [if_true] at hbt ⊢
    obtain ⟨B, e, hl, hr⟩ := hbt
    exact ⟨B, e, hl, hr.below hb hr.lt⟩
/-- Only the place moves. -/
theorem RdS.at {B0 : Nat} {w : World} {q : Nat} {vL : Value} {ix : Nat} {r : RSt} {vb vs : Value} {p7 : Bool} (h : RdS B0 w q vL ix r vb vs p7) (ix1 : Nat) : RdS B0 (w.setCell ⟨q, 1, none⟩ (.int .i64 (ix1 : Nat))) q vL ix1 r vb vs p7 :=
  h.keep (h.blk.set 1 _) ((OnlyP.refl (fun b => b = q) w).set (p := ⟨q, 1, none⟩) (.inl rfl) _) rfl (fun _ => ⟨rfl, rfl⟩) h.fl h.flag h.bl h.sl h.least
set_option maxHeartbeats 4000000 in
set_option maxRecDepth 100000 in
theorem ends_ok (w : World) (q p k L : Nat) (r : RSt) (hp : p < 8) (hk : k ≤ 1000000) (eL : L = r.m.sl) (hL : L ≤ 16) (hc : w.cell? ⟨q, 5, none⟩ = some (.int .i64 (L : Nat))) :
    Calls Tryd.prog 39 #[.pointer (some ⟨q, 0, none⟩), .int .i64 (p : Nat), .int .i64 (k : Nat)] w fun e w' => e = .returned (.bool (endsF p k r)) ∧ w' = w := by
  obtain ⟨Q, eQ⟩ : ∃ Q : Ending → World → Prop, Q = fun e w' => e = .returned (.bool (endsF p k r)) ∧ w' = w := ⟨_, rfl⟩
  rw [← eQ]
  have HF := Lib.hid (show ∀ b, b = endsF p k r → Q (.returned (.bool b)) w from fun b hb => by rw [eQ, hb]; exact ⟨rfl, rfl⟩)
  have heq : ∀ (n : Nat), ((k : Int) == (n : Nat)) = decide (k = n) := fun n => by
    by_cases h : k = n
    · rw [h]; simp
    · rw [decide_eq_false h, beq_eq_false_iff_ne]; omega
  have HEQ := Lib.hid heq
  have ELL := Lib.hid eL
  clear eQ eL heq
  rcases (by omega : p = 0 ∨ p = 1 ∨ p = 2 ∨ p = 3 ∨ p = 4 ∨ p = 5 ∨ p = 6 ∨ p = 7) with rfl | rfl | rfl | rfl | rfl | rfl | rfl | rfl
  · have HG := Lib.hid (HF.out ((k : Int) == 1) (by rw [show (1 : Int) = ((1 : Nat) : Int) from rfl, HEQ.out]; rfl))
    clear HF HEQ ELL
    go_enter Tryd.func39, Tryd.ntmps39
    go_wp2_with fail
    first | exact HG.out | (go_ret; exact HG.out)
  · have HG := Lib.hid (HF.out ((k : Int) == 1) (by rw [show (1 : Int) = ((1 : Nat) : Int) from rfl, HEQ.out]; rfl))
    clear HF HEQ ELL
    go_enter Tryd.func39, Tryd.ntmps39
    go_wp2_with fail
    first | exact HG.out | (go_ret; exact HG.out)
  · have HG := Lib.hid (HF.out ((k : Int) == 3) (by rw [show (3 : Int) = ((3 : Nat) : Int) from rfl, HEQ.out]; rfl))
    clear HF HEQ ELL
    go_enter Tryd.func39, Tryd.ntmps39
    go_wp2_with fail
    first | exact HG.out | (go_ret; exact HG.out)
  · have HG := Lib.hid (HF.out ((k : Int) == 4) (by rw [show (4 : Int) = ((4 : Nat) : Int) from rfl, HEQ.out]; rfl))
    clear HF HEQ ELL
    go_enter Tryd.func39, Tryd.ntmps39
    go_wp2_with fail
    first | exact HG.out | (go_ret; exact HG.out)
  · have HG := Lib.hid (HF.out true rfl)
    clear HF HEQ ELL
    go_enter Tryd.func39, Tryd.ntmps39
    go_wp2_with fail
    first | exact HG.out | (go_ret; exact HG.out)
  · have HG := Lib.hid (HF.out ((k : Int) == 1) (by rw [show (1 : Int) = ((1 : Nat) : Int) from rfl, HEQ.out]; rfl))
    clear HF HEQ ELL
    go_enter Tryd.func39, Tryd.ntmps39
    go_wp2_with fail
    first | exact HG.out | (go_ret; exact HG.out)
  · have HG := Lib.hid (HF.out ((k : Int) == (L : Nat)) (by rw [HEQ.out]; unfold endsF; simp only; rw [ELL.out]))
    clear HF HEQ ELL
    go_enter Tryd.func39, Tryd.ntmps39
    go_wp2_with fail
    first | exact HG.out | (go_ret; exact HG.out)
  · have HG := Lib.hid (HF.out true rfl)
    clear HF HEQ ELL
    go_enter Tryd.func39, Tryd.ntmps39
    go_wp2_with fail
    first | exact HG.out | (go_ret; exact HG.out)
end Go.Proofs.YtbfebfeliddpnaaDoor
