/- meta.Unpack: the words that it builds, bit by bit. -/
import Derived.Test.YtjcinelcocmpnaaHp
namespace Go.Proofs.Ytjcinelcocmpnaa
open Go.RowKit
set_option linter.unusedVariables false
set_option linter.unusedSimpArgs false
/-- Word k of the bits below t. -/
def wd (bit : Nat → Bool) : Nat → Nat → Nat
  | 0, _ => 0
  | t + 1, k => wd bit t k + (if t / 64 = k ∧ bit t = true then 2 ^ (t % 64) else 0)
theorem wd_zero (bit : Nat → Bool) (t k : Nat) (h : t ≤ 64 * k) : wd bit t k = 0 := by
  induction t with
  | zero => rfl
  | succ t ih => rw [wd, ih (by omega), if_neg (by omega)]
theorem wd_in (bit : Nat → Bool) (k r : Nat) (h : r ≤ 64) : wd bit (64 * k + r) k < 2 ^ r := by
  induction r with
  | zero => rw [Nat.add_zero, wd_zero bit _ k (by omega)]; simp
  | succ r ih =>
    have h1 := ih (by omega)
    rw [show 64 * k + (r + 1) = (64 * k + r) + 1 by omega, wd]
    have h2 : (if (64 * k + r) / 64 = k ∧ bit (64 * k + r) = true then 2 ^ ((64 * k + r) % 64) else 0) ≤ 2 ^ r := by
      split
      · rw [show (64 * k + r) % 64 = r by omega]; exact Nat.le_refl _
      · exact Nat.zero_le _
    rw [Nat.pow_succ]; omega
theorem wd_stay (bit : Nat → Bool) (t k d : Nat) (h : 64 * k + 64 ≤ t) : wd bit (t + d) k = wd bit t k := by
  induction d with
  | zero => rfl
  | succ d ih => rw [← Nat.add_assoc, wd, ih, if_neg (by omega), Nat.add_zero]
theorem wd_lt (bit : Nat → Bool) (t k : Nat) : wd bit t k < 2 ^ 64 := by
  by_cases h : t ≤ 64 * k
  · rw [wd_zero bit t k h]; exact Nat.two_pow_pos _
  · by_cases h2 : t ≤ 64 * k + 64
    · have := wd_in bit k (t - 64 * k) (by omega)
      rw [show 64 * k + (t - 64 * k) = t by omega] at this
      exact Nat.lt_of_lt_of_le this (Nat.pow_le_pow_right (by decide) (by omega))
    · have := wd_stay bit (64 * k + 64) k (t - (64 * k + 64)) (Nat.le_refl _)
      rw [show 64 * k + 64 + (t - (64 * k + 64)) = t by omega] at this
      rw [this]; exact wd_in bit k 64 (Nat.le_refl _)
theorem wd_yes (bit : Nat → Bool) (t : Nat) (h : bit t = true) : wd bit (t + 1) (t / 64) = wd bit t (t / 64) ||| 2 ^ (t % 64) := by
  rw [wd, if_pos ⟨rfl, h⟩]
  have h1 := wd_in bit (t / 64) (t % 64) (by omega)
  rw [show 64 * (t / 64) + t % 64 = t by omega] at h1
  have h2 := Nat.two_pow_add_eq_or_of_lt h1 1
  rw [Nat.mul_one] at h2
  rw [Nat.add_comm, h2, Nat.or_comm]
theorem wd_sum (bit : Nat → Bool) (t : Nat) (h : bit t = true) : wd bit (t + 1) (t / 64) = wd bit t (t / 64) + 2 ^ (t % 64) := by
  rw [wd, if_pos ⟨rfl, h⟩]
theorem wd_far (bit : Nat → Bool) (t k : Nat) (h : k ≠ t / 64) : wd bit (t + 1) k = wd bit t k := by
  rw [wd, if_neg (by omega), Nat.add_zero]
theorem wd_no (bit : Nat → Bool) (t k : Nat) (h : bit t = false) : wd bit (t + 1) k = wd bit t k := by
  rw [wd, if_neg (by simp [h]), Nat.add_zero]
/-- The bits of one number come back. -/
theorem wd_back (bit : Nat → Bool) (k x : Nat) (m : Nat) (hm : m ≤ 64) (h : ∀ r, r < m → bit (64 * k + r) = decide (x / 2 ^ r % 2 = 1)) (r : Nat) (hr : r ≤ m) : wd bit (64 * k + r) k = x % 2 ^ r := by
  induction r with
  | zero => rw [Nat.add_zero, wd_zero bit _ k (by omega), Nat.pow_zero, Nat.mod_one]
  | succ r ih =>
    rw [show 64 * k + (r + 1) = (64 * k + r) + 1 by omega, wd, ih (by omega), h r (by omega), show (64 * k + r) / 64 = k by omega, show (64 * k + r) % 64 = r by omega, Nat.mod_pow_succ]
    have h2 : x / 2 ^ r % 2 = 0 ∨ x / 2 ^ r % 2 = 1 := by omega
    rcases h2 with h2 | h2 <;> simp [h2]
theorem wd_congr (b1 b2 : Nat → Bool) (t k : Nat) (h : ∀ i, i < t → b1 i = b2 i) : wd b1 t k = wd b2 t k := by
  induction t with
  | zero => rfl
  | succ t ih => rw [wd, wd, ih (fun i hi => h i (by omega)), h t (by omega)]
/-- Bit i of blocks of sz bytes; in an empty block every bit counts as set. -/
def bitAt (bs : Nat → List Int) (sz i : Nat) : Bool := decide ((bs (i / (8 * sz))).length = 0) || decide ((bs (i / (8 * sz))).getD (i % (8 * sz) / 8) 0 / 2 ^ (i % 8) % 2 = 1)
/-- Block B holds the words f. -/
def UnA (B W : Nat) (w wr : World) (f : Nat → Nat) : Prop :=
  Below B w wr ∧ wr.heap.size = B + 1 ∧ ∃ cur, Blk wr B 39 cur ∧ cur.size = W ∧ ∀ k, k < W → cur[k]? = some (.int .u64 (f k))
theorem UnA.start (W : Nat) (w : World) : UnA w.heap.size W w (w.alloc (.cells (madeCells #[.int .u64 0] W) 39)) (fun _ => 0) :=
  ⟨(Below.refl _ _).alloc (Nat.le_refl _) _, by simp, _, Blk.new _ _ _, made_size _ _, fun i hi => by rw [made_at _ _ _ hi]; rfl⟩
theorem UnA.drew {B W : Nat} {w wr : World} {f : Nat → Nat} (h : UnA B W w wr f) : UnA B W w wr.drew f := ⟨h.1.drew, h.2.1, h.2.2⟩
theorem UnA.drewN {B W : Nat} {w wr : World} {f : Nat → Nat} (h : UnA B W w wr f) (n : Nat) : UnA B W w (wr.drewN n) f := ⟨⟨h.1.os, h.1.tape, h.1.output, h.1.size, h.1.block⟩, h.2.1, h.2.2⟩
theorem UnA.congr {B W : Nat} {w wr : World} {f g : Nat → Nat} (h : UnA B W w wr f) (hg : ∀ k, k < W → f k = g k) : UnA B W w wr g := by
  obtain ⟨h1, h2, cur, h3, h4, h5⟩ := h
  exact ⟨h1, h2, cur, h3, h4, fun k hk => by rw [h5 k hk, hg k hk]⟩
theorem UnA.word {B W : Nat} {w wr : World} {f : Nat → Nat} (h : UnA B W w wr f) (k : Nat) (hk : k < W) : wr.cell? ⟨B, k, none⟩ = some (.int .u64 (f k)) ∧ wr.frozen? ⟨B, k, none⟩ = false := by
  obtain ⟨h1, h2, cur, h3, h4, h5⟩ := h
  exact ⟨by rw [h3.cell, h5 k hk], h3.free k⟩
theorem UnA.put {B W : Nat} {w wr : World} {f : Nat → Nat} (h : UnA B W w wr f) (k : Nat) (x : Nat) : UnA B W w (wr.setCell ⟨B, k, none⟩ (.int .u64 x)) (fun k' => if k' = k then x else f k') := by
  obtain ⟨h1, h2, cur, h3, h4, h5⟩ := h
  refine ⟨h1.setCell (Nat.le_refl _) _, by rw [size_setCell]; exact h2, _, h3.set k _, by simp [h4], fun k' hk' => ?_⟩
  rw [Array.getElem?_setIfInBounds]
  by_cases e : k = k'
  · subst e; rw [if_pos rfl, if_pos (by omega)]; simp
  · rw [if_neg e, h5 k' hk']; dsimp only; rw [if_neg (by omega)]
/-- v reads as the blocks bs 0 .. bs (A - 1). -/
def RdL (w : World) (v : Value) (A : Nat) (bs : Nat → List Int) : Prop :=
  (A = 0 ∧ ∃ a c, v = .slice a 0 c) ∨ ∃ g off c, v = .slice (some ⟨g, off, none⟩) A c ∧ 0 < A ∧ A ≤ c ∧ g < w.heap.size ∧ ∀ i, i < A → ∃ x, w.cell? ⟨g, off + i, none⟩ = some x ∧ Rd .u8 w x (bs i)
theorem RdL.below {w w1 : World} {v : Value} {A : Nat} {bs : Nat → List Int} (h : RdL w v A bs) (hb : Below w.heap.size w w1) : RdL w1 v A bs := by
  rcases h with h | ⟨g, off, c, rfl, h1, h2, h3, h4⟩
  · exact .inl h
  · refine .inr ⟨g, off, c, rfl, h1, h2, Nat.lt_of_lt_of_le h3 hb.size, fun i hi => ?_⟩
    obtain ⟨x, hx, hr⟩ := h4 i hi
    exact ⟨x, (hb.cell h3).trans hx, hr.below hb⟩
/-- One of the first k blocks is empty. -/
def lostIn (bs : Nat → List Int) : Nat → Bool
  | 0 => false
  | k + 1 => lostIn bs k || decide ((bs k).length = 0)
theorem wraps64 (n : Int) (h0 : 0 ≤ n) (h1 : n < 2 ^ 64) : IntKind.u64.wrap n = n := by
  rw [IntKind.wrap_u64]; omega
theorem or_bit (x r : Nat) (hx : x < 2 ^ 64) (hr : r < 64) : bits .or .u64 (x : Int) (IntKind.u64.wrap (2 ^ r)) = ((x ||| 2 ^ r : Nat) : Int) := by
  have h1 : (2 : Nat) ^ r < 2 ^ 64 := Nat.pow_lt_pow_right (by decide) hr
  have h2 : IntKind.u64.wrap (2 ^ r) = ((2 ^ r : Nat) : Int) := by
    rw [wraps64 (2 ^ r) (by have := Int.pow_pos (n := 2) (m := r) (by decide); omega) (by exact_mod_cast h1)]
    simp
  rw [h2]
  exact (bits_nat .u64 64 (by decide) wraps64 x (2 ^ r) hx h1).2
theorem and_one (z : Int) (h0 : 0 ≤ z) (h1 : z < 256) : bits .and .u8 z 1 = z % 2 := by
  have := bits_mask .u8 8 (by decide) wraps_u8 1 (by decide) z h0 (by omega)
  simpa using this
theorem div_pow_byte (y : Int) (r : Nat) (h0 : 0 ≤ y) (h1 : y < 256) : 0 ≤ y / 2 ^ r ∧ y / 2 ^ r < 256 := by
  obtain ⟨m, rfl⟩ := Int.eq_ofNat_of_zero_le h0
  have h2 : m / 2 ^ r ≤ m := Nat.div_le_self _ _
  have h3 : (m : Int) / 2 ^ r = ((m / 2 ^ r : Nat) : Int) := by simp
  rw [h3]
  generalize m / 2 ^ r = q at h2 ⊢
  omega
theorem UnA.yes {B W : Nat} {w wr : World} {b : Nat → Bool} {t : Nat} (h : UnA B W w wr (wd b t)) (hb : b t = true) :
    UnA B W w (wr.setCell ⟨B, t / 64, none⟩ (.int .u64 (bits .or .u64 (wd b t (t / 64) : Int) (IntKind.u64.wrap (2 ^ (t % 64)))))) (wd b (t + 1)) := by
  rw [or_bit _ _ (wd_lt _ _ _) (by omega), ← wd_yes b t hb]
  refine (h.put _ _).congr (fun k hk => ?_)
  split
  · next e => subst e; rfl
  · next e => exact (wd_far b t k e).symm
theorem UnA.no {B W : Nat} {w wr : World} {b : Nat → Bool} {t : Nat} (h : UnA B W w wr (wd b t)) (hb : b t = false) : UnA B W w wr (wd b (t + 1)) :=
  h.congr (fun k _ => (wd_no b t k hb).symm)
end Go.Proofs.Ytjcinelcocmpnaa
