/- meta.Pack and meta.Unpack at each size; lists of words and bytes as functions. -/
import Derived.Test.YtjcinelcocmpnaaPackW
import Derived.Test.YtjcinelcocmpnaaPackW1
import Derived.Test.YtjcinelcocmpnaaPackW2
import Derived.Test.YtjcinelcocmpnaaPackW3
import Derived.Test.YtjcinelcocmpnaaUnpW1
import Derived.Test.YtjcinelcocmpnaaUnpW2
import Derived.Test.YtjcinelcocmpnaaUnpW3
namespace Go.Proofs.Ytjcinelcocmpnaa
open Go.RowKit
set_option linter.unusedVariables false
set_option linter.unusedSimpArgs false
def okSz (b : Nat) : Prop := b = 128 ∨ b = 256 ∨ b = 512 ∨ b = 1024
theorem okSz.int {b : Nat} (h : okSz b) : okSize (b : Int) := by unfold okSz at h; unfold okSize; omega
theorem okSz.of {b : Int} (h : okSize b) : okSz b.toNat := by unfold okSz; unfold okSize at h; omega
/-- The numbers f 0, f 1, .. as a list. -/
def fl (n : Nat) (f : Nat → Int) : List Int := (List.range n).map f
theorem fl_length (n : Nat) (f : Nat → Int) : (fl n f).length = n := by simp [fl]
theorem fl_get (n : Nat) (f : Nat → Int) (k : Nat) (h : k < n) : (fl n f).getD k 0 = f k := by simp [fl, List.getD_eq_getElem?_getD, h]
theorem fl_mem {n : Nat} {f : Nat → Int} {x : Int} (h : x ∈ fl n f) : ∃ k, k < n ∧ x = f k := by
  simp only [fl, List.mem_map, List.mem_range] at h
  obtain ⟨k, hk, rfl⟩ := h
  exact ⟨k, hk, rfl⟩
theorem fl_congr {n : Nat} {f g : Nat → Int} (h : ∀ k, k < n → f k = g k) : fl n f = fl n g := by
  simp only [fl]
  apply List.map_congr_left
  intro k hk
  exact h k (by simpa using hk)
theorem fl_ne {n : Nat} {f g : Nat → Int} (k : Nat) (hk : k < n) (h : f k ≠ g k) : fl n f ≠ fl n g := by
  intro e
  have := fl_get n f k hk
  rw [e, fl_get n g k hk] at this
  exact h this.symm
theorem pack_any (n b A W c off bw : Nat) (ws : List Int) (w : World) (h1 : 1 ≤ n) (h2 : n ≤ 65536) (hb : okSz b) (hA : (n + 8 * b - 1) / (8 * b) = A) (hW : (n + 63) / 64 = W) (hlen : ws.length = W) (hbw : bw < w.heap.size)
    (hws : ∀ i, i < W → w.cell? ⟨bw, off + i, none⟩ = some (.int .u64 (ws.getD i 0))) (hu : ∀ x ∈ ws, 0 ≤ x ∧ x < 18446744073709551616) (hlast : n % 64 = 0 ∨ ws.getD (W - 1) 0 / 2 ^ (n % 64) = 0) :
    Calls Try.prog 20 #[.int .i64 n, .slice (some ⟨bw, off, none⟩) W c, .int .i64 b] w fun e w' => e = .returned (.tuple #[.slice (some ⟨w.heap.size, 0, none⟩) A A, .int .i64 0]) ∧ PkB w.heap.size A b w w' (fun i p => pkByte n ws (8 * (b * i + p))) := by
  by_cases hm : n % 64 = 0
  · rcases hb with rfl | rfl | rfl | rfl
    · exact pack_128 n A W c off bw ws w h1 h2 hA hW hlen hbw hws hu hm
    · exact pack_256 n A W c off bw ws w h1 h2 hA hW hlen hbw hws hu hm
    · exact pack_512 n A W c off bw ws w h1 h2 hA hW hlen hbw hws hu hm
    · exact pack_1024 n A W c off bw ws w h1 h2 hA hW hlen hbw hws hu hm
  · have hl := hlast.resolve_left hm
    rcases hb with rfl | rfl | rfl | rfl
    · exact pack_128r n A W c off bw ws w h1 h2 hA hW hlen hbw hws hu hm hl
    · exact pack_256r n A W c off bw ws w h1 h2 hA hW hlen hbw hws hu hm hl
    · exact pack_512r n A W c off bw ws w h1 h2 hA hW hlen hbw hws hu hm hl
    · exact pack_1024r n A W c off bw ws w h1 h2 hA hW hlen hbw hws hu hm hl
theorem unpack_any (n b A W c off g : Nat) (bs : Nat → List Int) (w : World) (h1 : 1 ≤ n) (h2 : n ≤ 65536) (hb : okSz b) (hA : (n + 8 * b - 1) / (8 * b) = A) (hW : (n + 63) / 64 = W) (hg : g < w.heap.size)
    (hbs : ∀ i, i < A → ∃ x, w.cell? ⟨g, off + i, none⟩ = some x ∧ Rd .u8 w x (bs i)) (hlen : ∀ i, i < A → (bs i).length = 0 ∨ (bs i).length = b) (hu : ∀ i, i < A → ∀ x ∈ bs i, 0 ≤ x ∧ x < 256) :
    Calls Try.prog 14 #[.int .i64 n, .slice (some ⟨g, off, none⟩) A c, .int .i64 b] w fun e w' => e = .returned (.tuple #[.slice (some ⟨w.heap.size, 0, none⟩) W W, .bool (lostIn bs A), .int .i64 0]) ∧ UnA w.heap.size W w w' (wd (bitAt bs b) n) := by
  rcases hb with rfl | rfl | rfl | rfl
  · exact unpack_128 n A W c off g bs w h1 h2 hA hW hg hbs hlen hu
  · exact unpack_256 n A W c off g bs w h1 h2 hA hW hg hbs hlen hu
  · exact unpack_512 n A W c off g bs w h1 h2 hA hW hg hbs hlen hu
  · exact unpack_1024 n A W c off g bs w h1 h2 hA hW hg hbs hlen hu
theorem lostIn_none (bs : Nat → List Int) (k : Nat) (h : ∀ i, i < k → (bs i).length ≠ 0) : lostIn bs k = false := by
  induction k with
  | zero => rfl
  | succ k ih => rw [lostIn, ih (fun i hi => h i (by omega))]; simpa using h k (by omega)
theorem PkB.reads {B A sz : Nat} {w wr : World} {f : Nat → Nat → Int} (h : PkB B A sz w wr f) (hs : 0 < sz) (i : Nat) (hi : i < A) :
    ∃ x, wr.cell? ⟨B, 0 + i, none⟩ = some x ∧ Rd .u8 wr x (fl sz (f i)) := by
  refine ⟨_, by rw [Nat.zero_add]; exact h.row i hi, .inr ⟨B + 1 + i, 0, sz, by rw [fl_length], by rw [fl_length]; exact hs, by rw [fl_length]; exact Nat.le_refl _, by have := h.2.1; omega, fun p hp => ?_⟩⟩
  rw [fl_length] at hp
  rw [Nat.zero_add, fl_get _ _ _ hp]
  exact (h.byte i p hi hp).1
theorem UnA.reads {B W : Nat} {w wr : World} {f : Nat → Nat} (h : UnA B W w wr f) (hW : 0 < W) : Rd .u64 wr (.slice (some ⟨B, 0, none⟩) W W) (fl W fun k => (f k : Int)) := by
  refine .inr ⟨B, 0, W, by rw [fl_length], by rw [fl_length]; exact hW, by rw [fl_length]; exact Nat.le_refl _, by have := h.2.1; omega, fun p hp => ?_⟩
  rw [fl_length] at hp
  rw [Nat.zero_add, fl_get _ _ _ hp]
  exact (h.word p hp).1
theorem below_drewN {B : Nat} {w W : World} (h : Below B w W) (n : Nat) : Below B w (W.drewN n) := ⟨h.os, h.tape, h.output, h.size, h.block⟩
/-- Block B holds the words f. -/
def WdA (wr : World) (B W : Nat) (f : Nat → Nat) : Prop := ∃ cur, Blk wr B 39 cur ∧ cur.size = W ∧ ∀ k, k < W → cur[k]? = some (.int .u64 (f k))
theorem UnA.wdA {B W : Nat} {w wr : World} {f : Nat → Nat} (h : UnA B W w wr f) : WdA wr B W f := h.2.2
theorem WdA.keep {w wr : World} {B W : Nat} {f : Nat → Nat} (h : WdA w B W f) (hk : wr.heap[B]? = w.heap[B]?) : WdA wr B W f := by
  obtain ⟨cur, h3, h4, h5⟩ := h
  exact ⟨cur, hk.trans h3, h4, h5⟩
theorem WdA.word {wr : World} {B W : Nat} {f : Nat → Nat} (h : WdA wr B W f) (k : Nat) (hk : k < W) : wr.cell? ⟨B, k, none⟩ = some (.int .u64 (f k)) ∧ wr.frozen? ⟨B, k, none⟩ = false := by
  obtain ⟨cur, h3, h4, h5⟩ := h
  exact ⟨by rw [h3.cell, h5 k hk], h3.free k⟩
theorem WdA.put {wr : World} {B W : Nat} {f : Nat → Nat} (h : WdA wr B W f) (k : Nat) (x : Nat) : WdA (wr.setCell ⟨B, k, none⟩ (.int .u64 x)) B W (fun k' => if k' = k then x else f k') := by
  obtain ⟨cur, h3, h4, h5⟩ := h
  refine ⟨_, h3.set k _, by simp [h4], fun k' hk' => ?_⟩
  rw [Array.getElem?_setIfInBounds]
  by_cases e : k = k'
  · subst e; rw [if_pos rfl, if_pos (by omega)]; simp
  · rw [if_neg e, h5 k' hk']; dsimp only; rw [if_neg (by omega)]
theorem WdA.lt {wr : World} {B W : Nat} {f : Nat → Nat} (h : WdA wr B W f) : B < wr.heap.size := by
  obtain ⟨cur, h3, h4, h5⟩ := h
  exact h3.lt
/-- The blocks from B on hold the bytes f. -/
def PkR (wr : World) (B A sz : Nat) (f : Nat → Nat → Int) : Prop :=
  (∃ cur, Blk wr B 49 cur ∧ cur.size = A ∧ ∀ i, i < A → cur[i]? = some (.slice (some ⟨B + 1 + i, 0, none⟩) sz sz)) ∧
    ∀ i, i < A → ∃ cur, Blk wr (B + 1 + i) 5 cur ∧ cur.size = sz ∧ ∀ p, p < sz → cur[p]? = some (.int .u8 (f i p))
theorem PkB.r {B A sz : Nat} {w wr : World} {f : Nat → Nat → Int} (h : PkB B A sz w wr f) : PkR wr B A sz f := h.2.2
theorem PkR.keep {w wr : World} {B A sz : Nat} {f : Nat → Nat → Int} (h : PkR w B A sz f) (hk : ∀ g, B ≤ g → g < B + 1 + A → wr.heap[g]? = w.heap[g]?) : PkR wr B A sz f := by
  obtain ⟨⟨cur, h3, h4, h5⟩, h6⟩ := h
  refine ⟨⟨cur, (hk B (Nat.le_refl _) (by omega)).trans h3, h4, h5⟩, fun i hi => ?_⟩
  obtain ⟨cur, h7, h8⟩ := h6 i hi
  exact ⟨cur, (hk _ (by omega) (by omega)).trans h7, h8⟩
theorem PkR.reads {wr : World} {B A sz : Nat} {f : Nat → Nat → Int} (h : PkR wr B A sz f) (hs : 0 < sz) (i : Nat) (hi : i < A) :
    wr.cell? ⟨B, i, none⟩ = some (.slice (some ⟨B + 1 + i, 0, none⟩) sz sz) ∧ Rd .u8 wr (.slice (some ⟨B + 1 + i, 0, none⟩) sz sz) (fl sz (f i)) := by
  obtain ⟨⟨cur, h3, h4, h5⟩, h6⟩ := h
  obtain ⟨cur', h7, h8, h9⟩ := h6 i hi
  refine ⟨by rw [h3.cell, h5 i hi], .inr ⟨B + 1 + i, 0, sz, by rw [fl_length], by rw [fl_length]; exact hs, by rw [fl_length]; exact Nat.le_refl _, h7.lt, fun p hp => ?_⟩⟩
  rw [fl_length] at hp
  rw [Nat.zero_add, fl_get _ _ _ hp, h7.cell, h9 p hp]
/-! ### plain laws -/
theorem testBit_byte' (x k i : Nat) : (x / 2 ^ k % 256).testBit i = (decide (i < 8) && x.testBit (k + i)) := by
  rw [show 256 = 2 ^ 8 from rfl, Nat.testBit_mod_two_pow, Nat.testBit_div_two_pow, Nat.add_comm]
theorem xor_bit (x r : Nat) (hx : x < 2 ^ 64) (hr : r < 64) : bits .xor .u64 (x : Int) (IntKind.u64.wrap (2 ^ r)) = ((x ^^^ 2 ^ r : Nat) : Int) := by
  have h1 : (2 : Nat) ^ r < 2 ^ 64 := Nat.pow_lt_pow_right (by decide) hr
  have h2 : IntKind.u64.wrap (2 ^ r) = ((2 ^ r : Nat) : Int) := by
    rw [wraps64 (2 ^ r) (by have := Int.pow_pos (n := 2) (m := r) (by decide); omega) (by exact_mod_cast h1)]
    simp
  have e1 : x % 2 ^ IntKind.u64.bits = x := Nat.mod_eq_of_lt hx
  have e2 : 2 ^ r % 2 ^ IntKind.u64.bits = 2 ^ r := Nat.mod_eq_of_lt h1
  rw [h2]
  simp only [bits, BitVec.ofInt_natCast, BitVec.toNat_xor, BitVec.toNat_ofNat, e1, e2]
  exact wraps64 _ (Int.natCast_nonneg _) (by exact_mod_cast Nat.xor_lt_two_pow hx h1)
/-- A turned bit turns its byte alone. -/
theorem xor_byte (x r m : Nat) : (x ^^^ 2 ^ r) / 2 ^ (8 * m) % 256 = x / 2 ^ (8 * m) % 256 ↔ r / 8 ≠ m := by
  constructor
  · intro h e
    have h1 : ((x ^^^ 2 ^ r) / 2 ^ (8 * m) % 256).testBit (r % 8) = (x / 2 ^ (8 * m) % 256).testBit (r % 8) := by rw [h]
    rw [testBit_byte', testBit_byte', show 8 * m + r % 8 = r by omega, Nat.testBit_xor, Nat.testBit_two_pow_self] at h1
    have : decide (r % 8 < 8) = true := by simp; omega
    rw [this] at h1
    cases h2 : x.testBit r <;> simp [h2] at h1
  · intro h
    apply Nat.eq_of_testBit_eq
    intro i
    rw [testBit_byte', testBit_byte', Nat.testBit_xor]
    by_cases hi : i < 8
    · have : (2 ^ r).testBit (8 * m + i) = false := by
        rw [Nat.testBit_two_pow]; simp; omega
      rw [this]; simp
    · simp [hi]
theorem testBit_byte (x k i : Nat) : (x / 2 ^ k % 256).testBit i = (decide (i < 8) && x.testBit (k + i)) := by
  rw [show 256 = 2 ^ 8 from rfl, Nat.testBit_mod_two_pow, Nat.testBit_div_two_pow, Nat.add_comm]
theorem bit_of_byte (x r : Nat) (hr : r < 64) : (x / 2 ^ (8 * (r / 8)) % 256) / 2 ^ (r % 8) % 2 = x / 2 ^ r % 2 := by
  have h1 : ((x / 2 ^ (8 * (r / 8)) % 256).testBit (r % 8)) = x.testBit r := by
    rw [testBit_byte, show 8 * (r / 8) + r % 8 = r by omega]
    simp; omega
  rw [Nat.testBit_eq_decide_div_mod_eq, Nat.testBit_eq_decide_div_mod_eq] at h1
  have := decide_eq_decide.1 h1
  omega
/-- A bitmap that is packed comes back. -/
theorem pack_bit (n b A W : Nat) (f : Nat → Nat) (hb : okSz b) (hA : (n + 8 * b - 1) / (8 * b) = A) (hW : (n + 63) / 64 = W) (i : Nat) (hi : i < n) :
    bitAt (fun j => fl b fun p => pkByte n (fl W fun k => (f k : Int)) (8 * (b * j + p))) b i = decide (f (i / 64) / 2 ^ (i % 64) % 2 = 1) := by
  have hb0 : 0 < b := by rcases hb with h | h | h | h <;> omega
  have h1 : i % (8 * b) / 8 < b := Nat.div_lt_of_lt_mul (Nat.mod_lt _ (by omega))
  have h2 : 8 * (b * (i / (8 * b)) + i % (8 * b) / 8) = 8 * (i / 8) := by
    have := Nat.div_add_mod i (8 * b)
    have e : 8 * (b * (i / (8 * b))) = 8 * b * (i / (8 * b)) := by rw [Nat.mul_assoc]
    rw [Nat.mul_add, e]
    omega
  unfold bitAt
  dsimp only
  rw [fl_length, fl_get _ _ _ h1, h2]
  unfold pkByte
  rw [if_pos (by omega), show 8 * (i / 8) / 64 = i / 64 by omega, show 8 * (i / 8) % 64 = 8 * (i % 64 / 8) by omega, fl_get _ _ _ (by omega)]
  have e3 : ((f (i / 64) : Int) / 2 ^ (8 * (i % 64 / 8)) % 256 / 2 ^ (i % 8) % 2) = ((f (i / 64) / 2 ^ (8 * (i % 64 / 8)) % 256 / 2 ^ (i % 8) % 2 : Nat) : Int) := by simp
  rw [e3, show i % 8 = i % 64 % 8 by omega, bit_of_byte _ _ (by omega)]
  have : ¬ b = 0 := by omega
  simp only [this, decide_false, Bool.false_or]
  rw [decide_eq_decide]
  omega
theorem pack_back (n b A W : Nat) (f : Nat → Nat) (hb : okSz b) (hA : (n + 8 * b - 1) / (8 * b) = A) (hW : (n + 63) / 64 = W) (h64 : ∀ k, k < W → f k < 2 ^ 64) (hlast : n % 64 = 0 ∨ f (W - 1) < 2 ^ (n % 64)) (k : Nat) (hk : k < W) :
    wd (bitAt (fun j => fl b fun p => pkByte n (fl W fun k => (f k : Int)) (8 * (b * j + p))) b) n k = f k := by
  by_cases h : 64 * k + 64 ≤ n
  · have h1 := wd_back (bitAt (fun j => fl b fun p => pkByte n (fl W fun k => (f k : Int)) (8 * (b * j + p))) b) k (f k) 64 (Nat.le_refl _)
      (fun r hr => by rw [pack_bit n b A W f hb hA hW _ (by omega), show (64 * k + r) / 64 = k by omega, show (64 * k + r) % 64 = r by omega]) 64 (Nat.le_refl _)
    have h2 := wd_stay (bitAt (fun j => fl b fun p => pkByte n (fl W fun k => (f k : Int)) (8 * (b * j + p))) b) (64 * k + 64) k (n - (64 * k + 64)) (Nat.le_refl _)
    rw [show 64 * k + 64 + (n - (64 * k + 64)) = n by omega] at h2
    rw [h2, h1, Nat.mod_eq_of_lt (h64 k hk)]
  · have h1 := wd_back (bitAt (fun j => fl b fun p => pkByte n (fl W fun k => (f k : Int)) (8 * (b * j + p))) b) k (f k) (n - 64 * k) (by omega)
      (fun r hr => by rw [pack_bit n b A W f hb hA hW _ (by omega), show (64 * k + r) / 64 = k by omega, show (64 * k + r) % 64 = r by omega]) (n - 64 * k) (Nat.le_refl _)
    rw [show 64 * k + (n - 64 * k) = n by omega] at h1
    rw [h1]
    have hk2 : k = W - 1 := by omega
    rcases hlast with h0 | h0
    · omega
    · rw [← hk2] at h0
      rw [show n - 64 * k = n % 64 by omega, Nat.mod_eq_of_lt h0]
/-- Bit t of the bitmap turned: the words. -/
def turnF (f : Nat → Nat) (t : Nat) (k : Nat) : Nat := if k = t / 64 then f (t / 64) ^^^ 2 ^ (t % 64) else f k
/-- .. and the bytes: one alone is another. -/
theorem turn_byte (n W : Nat) (f : Nat → Nat) (t q : Nat) (hW : (n + 63) / 64 = W) (ht : t < n) :
    pkByte n (fl W fun k => (turnF f t k : Int)) (8 * q) = pkByte n (fl W fun k => (f k : Int)) (8 * q) ↔ t / 8 ≠ q := by
  unfold pkByte
  by_cases hq : 8 * q < n
  · rw [if_pos hq, if_pos hq, fl_get _ _ _ (by omega), fl_get _ _ _ (by omega)]
    have e1 : ∀ x : Nat, ((x : Int) / 2 ^ (8 * q % 64) % 256) = ((x / 2 ^ (8 * q % 64) % 256 : Nat) : Int) := fun x => by simp
    rw [e1, e1, Int.ofNat_inj]
    unfold turnF
    by_cases h : 8 * q / 64 = t / 64
    · rw [if_pos h, h, show 8 * q % 64 = 8 * (q % 8) by omega, xor_byte]
      omega
    · rw [if_neg h]; simp; omega
  · rw [if_neg hq, if_neg hq]; simp; omega
theorem turn_row (n b W : Nat) (f : Nat → Nat) (t i : Nat) (hb : okSz b) (hW : (n + 63) / 64 = W) (ht : t < n) :
    (fl b (fun p => pkByte n (fl W fun k => (turnF f t k : Int)) (8 * (b * i + p))) = fl b fun p => pkByte n (fl W fun k => (f k : Int)) (8 * (b * i + p))) ↔ i ≠ t / (8 * b) := by
  have hb0 : 0 < b := by rcases hb with h | h | h | h <;> omega
  have e : t / (8 * b) = t / 8 / b := by rw [Nat.div_div_eq_div_mul]
  have e2 := Nat.div_add_mod (t / 8) b
  have e3 := Nat.mod_lt (t / 8) hb0
  rw [e]
  constructor
  · intro h hi
    subst hi
    refine fl_ne (t / 8 % b) e3 ?_ h
    intro h2
    rw [turn_byte n W f t _ hW ht] at h2
    exact h2 e2.symm
  · intro h
    refine fl_congr (fun p hp => ?_)
    rw [turn_byte n W f t _ hW ht]
    intro h2
    have := div_add_of b i p hp
    rw [← h2] at this
    exact h this.1.symm
theorem turn_64 (f : Nat → Nat) (t k : Nat) (h : ∀ k, f k < 2 ^ 64) : turnF f t k < 2 ^ 64 := by
  unfold turnF
  split
  · exact Nat.xor_lt_two_pow (h _) (Nat.pow_lt_pow_right (by decide) (by omega))
  · exact h _
theorem turn_last (n W : Nat) (f : Nat → Nat) (t : Nat) (hW : (n + 63) / 64 = W) (ht : t < n) (h : n % 64 = 0 ∨ f (W - 1) < 2 ^ (n % 64)) : n % 64 = 0 ∨ turnF f t (W - 1) < 2 ^ (n % 64) := by
  rcases h with h | h
  · exact .inl h
  · by_cases hn : n % 64 = 0
    · exact .inl hn
    right
    unfold turnF
    split
    · next e => rw [← e]; exact Nat.xor_lt_two_pow h (Nat.pow_lt_pow_right (by decide) (by omega))
    · exact h
end Go.Proofs.Ytjcinelcocmpnaa
