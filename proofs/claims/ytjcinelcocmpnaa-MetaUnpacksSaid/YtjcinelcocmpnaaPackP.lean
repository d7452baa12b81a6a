/- meta.Pack: the state of its loops. -/
import Derived.Test.YtjcinelcocmpnaaHp
import Derived.Test.YtjcinelcocmpnaaPlanW
namespace Go.Proofs.Ytjcinelcocmpnaa
open Go.RowKit
set_option linter.unusedVariables false
set_option linter.unusedSimpArgs false
theorem pk_info5 : (Try.prog.info? 5).map (fun i => (i.zero, i.size, i.bytes)) = some (some (.int .u8 0), 1, 1) := by kernel_rfl
theorem pk_info49 : (Try.prog.info? 49).map (fun i => (i.zero, i.size, i.bytes)) = some (some (.slice none 0 0), 1, 24) := by kernel_rfl
set_option maxHeartbeats 400000 in
theorem bitmapped_ok (n b : Int) (w : World) (h1 : 1 ≤ n) (h2 : n ≤ 65536) (hb : okSize b) : Calls Try.prog 29 #[.int .i64 n, .int .i64 b] w fun e w' => e = .returned (.int .i64 0) ∧ w = w' := by
  go_enter Try.func29, Try.ntmps29
  go_wp2_with (go_at_call 23; refine (sized_yes _ _ hb).mono ?_; rintro e w' ⟨rfl, rfl⟩)
  go_ret
  exact ⟨rfl, rfl⟩
/-- The first k blocks of a bitmap's area are laid, all zero. -/
def PkA (B A sz k : Nat) (w wr : World) : Prop :=
  Below B w wr ∧ wr.heap.size = B + 1 + k ∧ (∃ cur, Blk wr B 49 cur ∧ cur.size = A ∧ ∀ i, i < A → cur[i]? = some (if i < k then .slice (some ⟨B + 1 + i, 0, none⟩) sz sz else .slice none 0 0)) ∧
    ∀ i, i < k → Blk wr (B + 1 + i) 5 (madeCells #[.int .u8 0] sz)
theorem PkA.start (A sz : Nat) (w : World) : PkA w.heap.size A sz 0 w (w.alloc (.cells (madeCells #[.slice none 0 0] A) 49)) :=
  ⟨(Below.refl _ _).alloc (Nat.le_refl _) _, by simp, ⟨_, Blk.new _ _ _, made_size _ _, fun i hi => by rw [made_at _ _ _ hi]; simp⟩, fun i hi => by omega⟩
theorem PkA.step {B A sz k : Nat} {w wr : World} (h : PkA B A sz k w wr) (hk : k < A) (hB : B = w.heap.size) :
    PkA B A sz (k + 1) w ((wr.setCell ⟨B, k, none⟩ (.slice (some ⟨wr.heap.size, 0, none⟩) sz sz)).alloc (.cells (madeCells #[.int .u8 0] sz) 5)) := by
  obtain ⟨h1, h2, ⟨cur, h3, h4, h5⟩, h6⟩ := h
  refine ⟨(h1.setCell (Nat.le_refl _) _).alloc (by rw [size_setCell]; omega) _, by rw [size_alloc, size_setCell]; omega, ⟨_, (h3.set k _).alloc _, by simp [h4], fun i hi => ?_⟩, fun i hi => ?_⟩
  · rw [Array.getElem?_setIfInBounds]
    by_cases e : k = i
    · subst e
      rw [if_pos rfl, if_pos (by omega), if_pos (by omega), h2]
    · rw [if_neg e, h5 i hi]
      by_cases e' : i < k
      · rw [if_pos e', if_pos (by omega)]
      · rw [if_neg e', if_neg (by omega)]
  · by_cases e : i < k
    · exact ((h6 i e).far (by simp; omega) _).alloc _
    · have : i = k := by omega
      subst this
      have e2 : B + 1 + i = (wr.setCell ⟨B, i, none⟩ (.slice (some ⟨wr.heap.size, 0, none⟩) sz sz)).heap.size := by rw [size_setCell]; omega
      rw [e2]; exact Blk.new _ _ _
/-- The byte at bit i0 of a bitmap of n bits. -/
def pkByte (n : Nat) (ws : List Int) (i0 : Nat) : Int := if i0 < n then ws.getD (i0 / 64) 0 / 2 ^ (i0 % 64) % 256 else 0
/-- .. where the bits below t are laid. -/
def stg (n : Nat) (ws : List Int) (sz t i p : Nat) : Int := if 8 * (sz * i + p) < t then pkByte n ws (8 * (sz * i + p)) else 0
/-- The blocks of a bitmap's area hold the bytes f. -/
def PkB (B A sz : Nat) (w wr : World) (f : Nat → Nat → Int) : Prop :=
  Below B w wr ∧ wr.heap.size = B + 1 + A ∧ (∃ cur, Blk wr B 49 cur ∧ cur.size = A ∧ ∀ i, i < A → cur[i]? = some (.slice (some ⟨B + 1 + i, 0, none⟩) sz sz)) ∧
    ∀ i, i < A → ∃ cur, Blk wr (B + 1 + i) 5 cur ∧ cur.size = sz ∧ ∀ p, p < sz → cur[p]? = some (.int .u8 (f i p))
theorem PkA.done {B A sz : Nat} {w wr : World} (h : PkA B A sz A w wr) (n : Nat) (ws : List Int) : PkB B A sz w wr (stg n ws sz 0) := by
  obtain ⟨h1, h2, ⟨cur, h3, h4, h5⟩, h6⟩ := h
  refine ⟨h1, h2, ⟨cur, h3, h4, fun i hi => by rw [h5 i hi, if_pos hi]⟩, fun i hi => ⟨_, h6 i hi, made_size _ _, fun p hp => by rw [made_at _ _ _ hp]; simp [stg]⟩⟩
theorem PkB.row {B A sz : Nat} {w wr : World} {f : Nat → Nat → Int} (h : PkB B A sz w wr f) (i : Nat) (hi : i < A) : wr.cell? ⟨B, i, none⟩ = some (.slice (some ⟨B + 1 + i, 0, none⟩) sz sz) := by
  obtain ⟨h1, h2, ⟨cur, h3, h4, h5⟩, h6⟩ := h
  rw [h3.cell, h5 i hi]
theorem PkB.byte {B A sz : Nat} {w wr : World} {f : Nat → Nat → Int} (h : PkB B A sz w wr f) (i p : Nat) (hi : i < A) (hp : p < sz) : wr.cell? ⟨B + 1 + i, p, none⟩ = some (.int .u8 (f i p)) ∧ wr.frozen? ⟨B + 1 + i, p, none⟩ = false := by
  obtain ⟨h1, h2, ⟨cur, h3, h4, h5⟩, h6⟩ := h
  obtain ⟨cur, h7, h8, h9⟩ := h6 i hi
  exact ⟨by rw [h7.cell, h9 p hp], h7.free p⟩
theorem PkB.drew {B A sz : Nat} {w wr : World} {f : Nat → Nat → Int} (h : PkB B A sz w wr f) : PkB B A sz w wr.drew f := ⟨h.1.drew, h.2.1, h.2.2.1, h.2.2.2⟩
theorem PkB.congr {B A sz : Nat} {w wr : World} {f g : Nat → Nat → Int} (h : PkB B A sz w wr f) (hg : ∀ i p, i < A → p < sz → f i p = g i p) : PkB B A sz w wr g := by
  obtain ⟨h1, h2, h3, h6⟩ := h
  refine ⟨h1, h2, h3, fun i hi => ?_⟩
  obtain ⟨cur, h7, h8, h9⟩ := h6 i hi
  exact ⟨cur, h7, h8, fun p hp => by rw [h9 p hp, hg i p hi hp]⟩
theorem PkB.put {B A sz : Nat} {w wr : World} {f : Nat → Nat → Int} (h : PkB B A sz w wr f) (i p : Nat) (x : Int) :
    PkB B A sz w (wr.setCell ⟨B + 1 + i, p, none⟩ (.int .u8 x)) (fun i' p' => if i' = i ∧ p' = p then x else f i' p') := by
  obtain ⟨h1, h2, ⟨cur, h3, h4, h5⟩, h6⟩ := h
  refine ⟨h1.setCell (by simp; omega) _, by rw [size_setCell]; exact h2, ⟨cur, h3.far (by simp; omega) _, h4, h5⟩, fun i' hi' => ?_⟩
  obtain ⟨cur, h7, h8, h9⟩ := h6 i' hi'
  by_cases e : i' = i
  · subst e
    refine ⟨_, h7.set p _, by simp [h8], fun p' hp' => ?_⟩
    rw [Array.getElem?_setIfInBounds]
    by_cases e' : p = p'
    · subst e'; rw [if_pos rfl, if_pos (by omega)]; simp
    · rw [if_neg e', h9 p' hp']; dsimp only; rw [if_neg (by omega)]
  · exact ⟨cur, h7.far (by simp; omega) _, h8, fun p' hp' => by rw [h9 p' hp']; dsimp only; rw [if_neg (by omega)]⟩
theorem div_add_of (sz i p : Nat) (h : p < sz) : (sz * i + p) / sz = i ∧ (sz * i + p) % sz = p := by
  constructor
  · rw [Nat.mul_add_div (by omega), Nat.div_eq_of_lt h, Nat.add_zero]
  · rw [Nat.mul_add_mod, Nat.mod_eq_of_lt h]
/-- A byte more. -/
theorem stg_step (n : Nat) (ws : List Int) (sz t i p : Nat) (hs : 0 < sz) (hp : p < sz) (ht : t % 8 = 0) :
    stg n ws sz (t + 8) i p = if i = t / (8 * sz) ∧ p = t % (8 * sz) / 8 then pkByte n ws t else stg n ws sz t i p := by
  obtain ⟨q, rfl⟩ : ∃ q, t = 8 * q := ⟨t / 8, by omega⟩
  have e1 : 8 * q / (8 * sz) = q / sz := Nat.mul_div_mul_left _ _ (by omega)
  have e2 : 8 * q % (8 * sz) = 8 * (q % sz) := Nat.mul_mod_mul_left _ _ _
  have e3 : 8 * (q % sz) / 8 = q % sz := by omega
  rw [e1, e2, e3]
  unfold stg
  by_cases e : sz * i + p = q
  · have := div_add_of sz i p hp
    rw [e] at this
    rw [if_pos (show 8 * (sz * i + p) < 8 * q + 8 by omega), if_pos ⟨this.1.symm, this.2.symm⟩, e]
  · have hne : ¬ (i = q / sz ∧ p = q % sz) := by
      rintro ⟨rfl, rfl⟩
      exact e (Nat.div_add_mod q sz)
    rw [if_neg hne]
    by_cases e4 : 8 * (sz * i + p) < 8 * q
    · rw [if_pos e4, if_pos (by omega)]
    · rw [if_neg e4, if_neg (by omega)]
theorem stg_skip (n : Nat) (ws : List Int) (sz t i p : Nat) (ht : t % 8 = 0) (hn : n ≤ t) : stg n ws sz (t + 8) i p = stg n ws sz t i p := by
  unfold stg
  by_cases e4 : 8 * (sz * i + p) < t
  · rw [if_pos e4, if_pos (by omega)]
  · rw [if_neg e4]
    split
    · unfold pkByte; rw [if_neg (by omega)]
    · rfl
theorem stg_end (n : Nat) (ws : List Int) (sz t i p : Nat) (hn : n ≤ t) : stg n ws sz t i p = pkByte n ws (8 * (sz * i + p)) := by
  unfold stg
  split
  · rfl
  · unfold pkByte; rw [if_neg (by omega)]
end Go.Proofs.Ytjcinelcocmpnaa
