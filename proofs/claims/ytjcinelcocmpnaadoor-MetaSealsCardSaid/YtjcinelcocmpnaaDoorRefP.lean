/- The digest, chunk by chunk: the document's way and the program's tell the same. -/
import Derived.Test.YtjcinelcocmpnaaDoorRefC
import Derived.Test.YtjcinelcocmpnaaDoorShaI
namespace Go.Proofs.YtjcinelcocmpnaaDoor
open Go.RowKit
set_option linter.unusedVariables false
set_option linter.unusedSimpArgs false
/-- The chunk that begins at a byte. -/
def chunkAt (l : List Int) (p : Nat) : List Int := (l.drop p).take 64
theorem chunkAt_length (l : List Int) (p : Nat) (h : p + 64 ≤ l.length) : (chunkAt l p).length = 64 := by simp [chunkAt]; omega
theorem chunkAt_at (l : List Int) (p i : Nat) (h : i < 64) : (chunkAt l p).getD i 0 = l.getD (p + i) 0 := by
  simp only [chunkAt, List.getD_eq_getElem?_getD]
  rw [List.getElem?_take, if_pos h, List.getElem?_drop]
/-- The state behind m chunks. -/
def blkN (K : Nat → Int) (S : St) (l : List Int) : Nat → St
  | 0 => S
  | m + 1 => mixS K (blkN K S l m) (chunkAt l (64 * m))
theorem splice_whole (part c : List Int) (hp : part.length = 64) (hc : c.length = 64) : splice part 0 c = c := by
  unfold splice
  rw [List.take_zero, List.nil_append, List.drop_eq_nil_of_le (by omega), List.append_nil]
theorem feed_blk (K : Nat → Int) (S : St) (l : List Int) : ∀ m, 64 * m ≤ l.length → ∃ part, part.length = 64 ∧ feed K (S, zeroL, 0) (l.take (64 * m)) = (blkN K S l m, part, 0)
  | 0, _ => ⟨zeroL, by simp [zeroL], by simp [feed, blkN]⟩
  | m + 1, h => by
    obtain ⟨part, hp, hf⟩ := feed_blk K S l m (by omega)
    have e : l.take (64 * (m + 1)) = l.take (64 * m) ++ chunkAt l (64 * m) := by
      rw [show 64 * (m + 1) = 64 * m + 64 by omega, List.take_add]; rfl
    have hc := chunkAt_length l (64 * m) (by omega)
    refine ⟨chunkAt l (64 * m), hc, ?_⟩
    rw [e, feed_append, hf, feed_full K _ _ part 0 hp (by omega) (by omega), splice_whole part _ hp hc]
    rfl
theorem feed_held (K : Nat → Int) : ∀ (l : List Int) (s : St × List Int × Nat), s.2.2 < 64 → (feed K s l).2.2 = (s.2.2 + l.length) % 64
  | [], s, h => by simp [feed]; omega
  | x :: l, s, h => by
    show (feed K (feed1 K s x) l).2.2 = _
    have hh : (feed1 K s x).2.2 = (s.2.2 + 1) % 64 := by
      unfold feed1; split
      · rename_i h2; rw [h2]
      · show s.2.2 + 1 = _; omega
    rw [feed_held K l _ (by rw [hh]; omega), hh, List.length_cons]
    omega
theorem padF_length (xs : List Int) : (padF xs).length % 64 = 0 ∧ xs.length + 9 ≤ (padF xs).length ∧ (padF xs).length ≤ xs.length + 72 := by
  unfold padF
  rw [List.length_append, List.length_append, padL_length, tailL_length]
  omega
theorem shaF_blk (K : Nat → Int) (S : St) (xs : List Int) (h : xs.length < 1000000) : shaF K S xs = sumL (blkN K S (padF xs) ((padF xs).length / 64)) := by
  obtain ⟨part, hp, hf⟩ := feed_blk K S (padF xs) ((padF xs).length / 64) (by omega)
  have hl := padF_length xs
  rw [List.take_of_length_le (by omega)] at hf
  unfold shaF sumF
  have h1 : (feed K (S, zeroL, 0) xs).2.2 = xs.length % 64 := by rw [feed_held K xs _ (show (0 : Nat) < 64 by decide)]; simp
  have h2 : ((0 + (xs.length : Int)) % 18446744073709551616) * 8 % 18446744073709551616 = (xs.length : Int) * 8 := by omega
  rw [h1, h2, ← feed_append, ← feed_append, ← List.append_assoc]
  show sumL (feed K (S, zeroL, 0) (padF xs)).1 = _
  rw [hf]
end Go.Proofs.YtjcinelcocmpnaaDoor
