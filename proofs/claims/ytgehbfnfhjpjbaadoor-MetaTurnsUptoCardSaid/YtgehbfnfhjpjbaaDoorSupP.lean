/- Superblocks as bytes: the plain side. -/
import Derived.Test.YtgehbfnfhjpjbaaDoorSupB
import Derived.Laws.Bits64b
namespace Go.Proofs.YtgehbfnfhjpjbaaDoor
open Go.RowKit
set_option linter.unusedVariables false
set_option linter.unusedSimpArgs false
/-- All are bytes. -/
def Bytes (l : List Int) : Prop := ∀ x ∈ l, 0 ≤ x ∧ x < 256
theorem Bytes.at {l : List Int} (h : Bytes l) (i : Nat) : 0 ≤ l.getD i 0 ∧ l.getD i 0 < 256 := by
  rw [List.getD_eq_getElem?_getD]
  by_cases hi : i < l.length
  · rw [List.getElem?_eq_getElem hi]; exact h _ (List.getElem_mem hi)
  · rw [List.getElem?_eq_none (by omega)]; simp
theorem Bytes.part {l : List Int} (h : Bytes l) (p n : Nat) : Bytes ((l.drop p).take n) := fun x hx => h x (List.mem_of_mem_drop (List.mem_of_mem_take hx))
theorem numS_eq (a : Int) (b : Int) (ha : 0 ≤ a) (ha2 : a < 72057594037927936) (hb : 0 ≤ b) (hb2 : b < 256) : numS a b = a * 256 + b := by
  obtain ⟨m, rfl⟩ := Int.eq_ofNat_of_zero_le ha
  obtain ⟨k, rfl⟩ := Int.eq_ofNat_of_zero_le hb
  have e1 : IntKind.u64.wrap ((m : Int) * 256) = ((2 ^ 8 * m : Nat) : Int) := by rw [IntKind.wrap_u64]; omega
  have e2 : IntKind.u64.wrap (k : Int) = (k : Int) := by rw [IntKind.wrap_u64]; omega
  unfold numS
  rw [e1, e2, bits_or_u64_nat _ _ (by omega) (by omega), ← Nat.two_pow_add_eq_or_of_lt (by omega)]
  omega
theorem pow_le7 (n : Nat) (h : n ≤ 7) : (256 : Int) ^ n ≤ 72057594037927936 := by
  have : n = 0 ∨ n = 1 ∨ n = 2 ∨ n = 3 ∨ n = 4 ∨ n = 5 ∨ n = 6 ∨ n = 7 := by omega
  rcases this with rfl | rfl | rfl | rfl | rfl | rfl | rfl | rfl <;> decide
theorem numF_snoc (l : List Int) (b : Int) : numF (l ++ [b]) = numS (numF l) b := by simp [numF]
theorem numF_bound : ∀ (n : Nat) (l : List Int), l.length = n → n ≤ 8 → Bytes l → 0 ≤ numF l ∧ numF l < 256 ^ n
  | 0, l, hl, _, _ => by rw [List.eq_nil_of_length_eq_zero hl]; simp [numF]
  | n + 1, l, hl, hn, hb => by
    obtain ⟨l', b, rfl⟩ : ∃ l' b, l = l' ++ [b] := ⟨l.dropLast, l.getLast (by intro e; rw [e] at hl; simp at hl), (List.dropLast_concat_getLast _).symm⟩
    have hl' : l'.length = n := by simpa using hl
    have h1 := numF_bound n l' hl' (by omega) (fun x hx => hb x (by simp [hx]))
    have h2 := hb b (by simp)
    have h3 := pow_le7 n (by omega)
    rw [numF_snoc, numS_eq _ _ h1.1 (by omega) h2.1 h2.2, Int.pow_succ]
    omega
theorem numF_be : ∀ (n : Nat) (x : Int), n ≤ 8 → 0 ≤ x → x < 256 ^ n → numF (be n x) = x
  | 0, x, _, h0, h1 => by simp [be, numF]; simp at h1; omega
  | n + 1, x, hn, h0, h1 => by
    have e : be (n + 1) x = be n (x / 256) ++ [x % 256] := by
      unfold be
      rw [List.range_succ, List.map_append, List.map_singleton, show 8 * (n + 1 - 1 - n) = 0 by omega]
      congr 1
      · apply List.map_congr_left
        intro i hi
        have hi' : i < n := by simpa using hi
        rw [show 8 * (n + 1 - 1 - i) = 8 * (n - 1 - i) + 8 by omega, Int.pow_add, Int.mul_comm, ← Int.ediv_ediv_of_nonneg (by omega)]
        rfl
      · simp
    have h2 : x / 256 < 256 ^ n := by rw [Int.pow_succ] at h1; omega
    have h3 := pow_le7 n (by omega)
    rw [e, numF_snoc, numF_be n (x / 256) (by omega) (by omega) h2, numS_eq _ _ (by omega) (by omega) (by omega) (by omega)]
    omega
theorem be_bytes (n : Nat) (x : Int) : Bytes (be n x) := by
  intro y hy
  simp only [be, List.mem_map] at hy
  obtain ⟨i, _, rfl⟩ := hy
  omega
/-- A superblock. -/
structure Sup where
  sq : Int
  bl : Int
  sz : Int
  sl : Int
  cu : Int
  bm : Int
  o1 : Int
  o2 : Int
  fl : Int
  mr : Int
def Sup.arr (s : Sup) : Array Value := #[.int .u64 s.sq, .int .i64 s.bl, .int .i64 s.sz, .int .i64 s.sl, .int .u64 s.cu, .int .u64 s.bm, .int .u64 s.o1, .int .u64 s.o2, .int .u32 s.fl, .int .i64 s.mr]
def sup0 : Sup := ⟨0, 0, 0, 0, 0, 0, 0, 0, 0, 0⟩
/-- The number of n bytes from place p on. -/
def fld (xs : List Int) (p n : Nat) : Int := numF ((xs.drop p).take n)
def supOf (xs : List Int) : Sup := ⟨fld xs 8 8, fld xs 16 4, fld xs 20 4, fld xs 24 4, fld xs 32 8, fld xs 40 8, fld xs 48 8, fld xs 56 8, fld xs 64 4, fld xs 28 4⟩
def okSize (b : Int) : Prop := b = 128 ∨ b = 256 ∨ b = 512 ∨ b = 1024
/-- Each field is in its domain. -/
def Fits (s : Sup) : Prop := 1 ≤ s.sq ∧ s.sq ≤ 4611686018427387904 ∧ 1 ≤ s.bl ∧ s.bl ≤ 4096 ∧ okSize s.sz ∧ 1 ≤ s.sl ∧ s.sl ≤ 16 ∧ 0 ≤ s.mr ∧ s.mr ≤ s.bl ∧ s.fl ≤ 15
/-- The fields can be so, the rest is zero. -/
def Good (xs : List Int) : Prop := Fits (supOf xs) ∧ (supOf xs).sz = xs.length ∧ ∀ i, 68 ≤ i → i < xs.length - 32 → xs.getD i 0 = 0
theorem fld_bound (xs : List Int) (p n : Nat) (hb : Bytes xs) (hn : n ≤ 8) (hp : p + n ≤ xs.length) : 0 ≤ fld xs p n ∧ fld xs p n < 256 ^ n :=
  numF_bound n _ (by rw [List.length_take, List.length_drop]; omega) hn (hb.part p n)
theorem fld_one (xs : List Int) (p : Nat) (hb : Bytes xs) (hp : p < xs.length) : fld xs p 1 = xs.getD p 0 := by
  have h := hb.at p
  unfold fld
  rw [show (xs.drop p).take 1 = [xs.getD p 0] by rw [show (1 : Nat) = 0 + 1 from rfl, take_next xs p 0 (by omega)]; simp]
  show numS 0 (xs.getD p 0) = _
  rw [numS_eq _ _ (by omega) (by omega) h.1 h.2]; omega
end Go.Proofs.YtgehbfnfhjpjbaaDoor
