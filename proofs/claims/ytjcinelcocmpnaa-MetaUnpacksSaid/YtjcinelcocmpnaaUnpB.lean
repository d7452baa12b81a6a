/- Both Unpacks answer alike, whatever they are given. -/
import Derived.Test.YtjcinelcocmpnaaRunW1
import Derived.Test.YtjcinelcocmpnaaRunW2
import Derived.Test.YtjcinelcocmpnaaRunW3
import Derived.Test.YtjcinelcocmpnaaTouchW
namespace Go.Proofs.Ytjcinelcocmpnaa
open Go.RowKit
set_option linter.unusedVariables false
set_option linter.unusedSimpArgs false
theorem runpack_any (n b A W c off g : Nat) (bs : Nat → List Int) (w : World) (h1 : 1 ≤ n) (h2 : n ≤ 65536) (hb : okSz b) (hA : (n + 8 * b - 1) / (8 * b) = A) (hW : (n + 63) / 64 = W) (hg : g < w.heap.size)
    (hbs : ∀ i, i < A → ∃ x, w.cell? ⟨g, off + i, none⟩ = some x ∧ Rd .u8 w x (bs i)) (hlen : ∀ i, i < A → (bs i).length = 0 ∨ (bs i).length = b) (hu : ∀ i, i < A → ∀ x ∈ bs i, 0 ≤ x ∧ x < 256) :
    Calls Try.prog 15 #[.int .i64 n, .slice (some ⟨g, off, none⟩) A c, .int .i64 b] w fun e w' => e = .returned (.tuple #[.slice (some ⟨w.heap.size, 0, none⟩) W W, .bool (lostIn bs A), .int .i64 0]) ∧ UnA w.heap.size W w w' (wd (bitAt bs b) n) := by
  rcases hb with rfl | rfl | rfl | rfl
  · exact runpack_128 n A W c off g bs w h1 h2 hA hW hg hbs hlen hu
  · exact runpack_256 n A W c off g bs w h1 h2 hA hW hg hbs hlen hu
  · exact runpack_512 n A W c off g bs w h1 h2 hA hW hg hbs hlen hu
  · exact runpack_1024 n A W c off g bs w h1 h2 hA hW hg hbs hlen hu
/-- The slice of words that an Unpack gives. -/
def wordsV (B : Nat) (ws : List Int) : Value := match ws with | [] => .slice none 0 0 | _ :: _ => .slice (some ⟨B, 0, none⟩) ws.length ws.length
theorem wordsV_pos {B : Nat} {ws : List Int} (h : 0 < ws.length) : wordsV B ws = .slice (some ⟨B, 0, none⟩) ws.length ws.length := by
  cases ws with
  | nil => simp at h
  | cons x xs => rfl
def UnpRes (er : Int) (lost : Bool) (ws : List Int) (w : World) (e : Ending) (w' : World) : Prop :=
  e = .returned (.tuple #[wordsV w.heap.size ws, .bool lost, .int .i64 er]) ∧ Below w.heap.size w w' ∧ (0 < ws.length → RowA .u64 39 w' w.heap.size ws.length (fun i => ws.getD i 0))
theorem UnpRes.no {er : Int} {w : World} {e : Ending} {w' : World} (h : NoWords er w e w') : UnpRes er false [] w e w' := by
  obtain ⟨rfl, rfl⟩ := h
  exact ⟨rfl, Below.refl _ _, fun h => by simp at h⟩
theorem UnpRes.yes {lost : Bool} {W : Nat} {f : Nat → Nat} {w : World} {e : Ending} {w' : World} (hW : 0 < W) (h : e = .returned (.tuple #[.slice (some ⟨w.heap.size, 0, none⟩) W W, .bool lost, .int .i64 0]) ∧ UnA w.heap.size W w w' f) : UnpRes 0 lost (fl W fun k => (f k : Int)) w e w' := by
  obtain ⟨rfl, h1, h2, cur, h3, h4, h5⟩ := h
  refine ⟨by rw [wordsV_pos (by rw [fl_length]; exact hW), fl_length], h1, fun _ => ⟨cur, h3, by rw [fl_length]; exact h4, fun i hi => ?_⟩⟩
  rw [fl_length] at hi
  rw [h5 i hi]; dsimp only; rw [fl_get _ _ _ hi]
theorem first_bad (P : Nat → Prop) (A : Nat) (h : ¬ ∀ i, i < A → P i) : ∃ j, j < A ∧ ¬ P j ∧ ∀ i, i < j → P i := by
  induction A with
  | zero => exact absurd (fun i hi => by omega) h
  | succ A ih =>
    by_cases h1 : ∀ i, i < A → P i
    · refine ⟨A, by omega, fun h2 => h (fun i hi => ?_), h1⟩
      by_cases e : i = A
      · rw [e]; exact h2
      · exact h1 i (by omega)
    · obtain ⟨j, hj, h2, h3⟩ := ih h1
      exact ⟨j, by omega, h2, h3⟩
theorem BkIn.form {w : World} {v : Value} {n : Nat} {V : Nat → Value} {zs : Nat → List Int} (h : BkIn w v n V zs) (hn : 0 < n) : ∃ g off c, v = .slice (some ⟨g, off, none⟩) n c ∧ g < w.heap.size ∧ ∀ i, i < n → ∃ x, w.cell? ⟨g, off + i, none⟩ = some x ∧ Rd .u8 w x (zs i) := by
  rcases h with ⟨h0, _⟩ | ⟨g, off, c, e, h1, h2, h3, h4⟩
  · omega
  · exact ⟨g, off, c, e, h3, fun i hi => ⟨_, (h4 i hi).1, (h4 i hi).2⟩⟩
/-- What both tell of m blocks zs. -/
theorem unp_both (n b : Int) (m : Nat) (zs : Nat → List Int) (hu : ∀ i, i < m → ∀ x ∈ zs i, 0 ≤ x ∧ x < 256) :
    ∃ er lost ws, (er = 0 ∨ ws = []) ∧ ws.length ≤ 1024 ∧ (∀ w v V, BkIn w v m V zs → Calls Try.prog 14 #[.int .i64 n, v, .int .i64 b] w (UnpRes er lost ws w)) ∧ (∀ w v V, BkIn w v m V zs → Calls Try.prog 15 #[.int .i64 n, v, .int .i64 b] w (UnpRes er lost ws w)) := by
  by_cases hd : 1 ≤ n ∧ n ≤ 65536 ∧ okSize b
  · obtain ⟨h1, h2, hb⟩ := hd
    by_cases hA : (n + 8 * b - 1) / (8 * b) = (m : Int)
    · have hm1 : 1 ≤ m := by rcases hb with rfl | rfl | rfl | rfl <;> omega
      have hm2 : m ≤ 65536 := by rcases hb with rfl | rfl | rfl | rfl <;> omega
      by_cases hl : ∀ i, i < m → (zs i).length = 0 ∨ ((zs i).length : Int) = b
      · obtain ⟨n, rfl⟩ := Int.eq_ofNat_of_zero_le (show 0 ≤ n by omega)
        obtain ⟨b, rfl⟩ := Int.eq_ofNat_of_zero_le (show 0 ≤ b by unfold okSize at hb; omega)
        have hb' : okSz b := by have := okSz.of hb; simpa using this
        have hA' : (n + 8 * b - 1) / (8 * b) = m := by rcases hb' with rfl | rfl | rfl | rfl <;> omega
        refine ⟨0, lostIn zs m, fl ((n + 63) / 64) fun k => (wd (bitAt zs b) n k : Int), .inl rfl, by rw [fl_length]; omega, fun w v V hv => ?_, fun w v V hv => ?_⟩
        · obtain ⟨g, off, c, rfl, hg, hc⟩ := hv.form hm1
          exact (unpack_any n b m ((n + 63) / 64) c off g zs w (by omega) (by omega) hb' hA' rfl hg hc (fun i hi => by have := hl i hi; omega) hu).mono fun e w' h => UnpRes.yes (by omega) h
        · obtain ⟨g, off, c, rfl, hg, hc⟩ := hv.form hm1
          exact (runpack_any n b m ((n + 63) / 64) c off g zs w (by omega) (by omega) hb' hA' rfl hg hc (fun i hi => by have := hl i hi; omega) hu).mono fun e w' h => UnpRes.yes (by omega) h
      · obtain ⟨j, hj, hbad, hgood⟩ := first_bad _ m hl
        refine ⟨3, false, [], .inr rfl, by simp, fun w v V hv => ?_, fun w v V hv => ?_⟩
        · obtain ⟨g, off, c, rfl, hg, hc⟩ := hv.form hm1
          exact (unpack_bad n b m c off g j zs w h1 h2 hb hA hg hc hj hgood (by omega) hm2).mono fun e w' h => UnpRes.no h
        · obtain ⟨g, off, c, rfl, hg, hc⟩ := hv.form hm1
          exact (runpack_bad n b m c off g j zs w h1 h2 hb hA hg hc hj hgood (by omega) hm2).mono fun e w' h => UnpRes.no h
    · have hne : ((m : Int) != (n + 8 * b - 1) / (8 * b)) = true := by simp; exact fun e => hA e.symm
      refine ⟨3, false, [], .inr rfl, by simp, fun w v V hv => ?_, fun w v V hv => ?_⟩
      · obtain ⟨a, c, rfl⟩ := hv.slice
        exact (unpack_count n b a m c w h1 h2 hb hne).mono fun e w' h => UnpRes.no h
      · obtain ⟨a, c, rfl⟩ := hv.slice
        exact (runpack_count n b a m c w h1 h2 hb hne).mono fun e w' h => UnpRes.no h
  · refine ⟨1, false, [], .inr rfl, by simp, fun w v V hv => ?_, fun w v V hv => ?_⟩
    · exact (unpack_arg n b v w hd).mono fun e w' h => UnpRes.no h
    · exact (runpack_arg n b v w hd).mono fun e w' h => UnpRes.no h
end Go.Proofs.Ytjcinelcocmpnaa
