/- The words of a chunk: schedule. -/
import Derived.Test.YtgehbfnfhjpjbaaDoorShaA
namespace Go.Proofs.YtgehbfnfhjpjbaaDoor
open Go.RowKit
set_option linter.unusedVariables false
set_option linter.unusedSimpArgs false
/-- Four bytes as a word, the highest first. -/
def word4 (a b c d : Int) : Int := bits .or .u32 (bits .or .u32 (bits .or .u32 (a % 4294967296 * 16777216 % 4294967296) (b % 4294967296 * 65536 % 4294967296)) (c % 4294967296 * 256 % 4294967296)) (d % 4294967296)
/-- A word out of four earlier ones: those 2, 7, 15, 16 places ahead. -/
def mixw (y b x d : Int) : Int := (bits .xor .u32 (bits .xor .u32 (rotF y 17) (rotF y 19)) (y / 1024) + b + bits .xor .u32 (bits .xor .u32 (rotF x 7) (rotF x 18)) (x / 8) + d) % 4294967296
/-- The next word of chunk c behind the words l. -/
def nextW (c l : List Int) : Int :=
  if l.length < 16 then word4 (c.getD (4 * l.length) 0) (c.getD (4 * l.length + 1) 0) (c.getD (4 * l.length + 2) 0) (c.getD (4 * l.length + 3) 0)
  else mixw (l.getD (l.length - 2) 0) (l.getD (l.length - 7) 0) (l.getD (l.length - 15) 0) (l.getD (l.length - 16) 0)
/-- The first t words of a chunk. -/
def schL (c : List Int) : Nat → List Int
  | 0 => []
  | t + 1 => schL c t ++ [nextW c (schL c t)]
theorem schL_length (c : List Int) (t : Nat) : (schL c t).length = t := by
  induction t with
  | zero => rfl
  | succ t ih => simp [schL, ih]
theorem schL_next (c : List Int) (t i : Nat) : (schL c (t + 1)).getD i 0 = if i = t then nextW c (schL c t) else (schL c t).getD i 0 := by
  have h := schL_length c t
  rw [schL, List.getD_eq_getElem?_getD, List.getD_eq_getElem?_getD, List.getElem?_append]
  by_cases e : i = t
  · subst e; rw [if_neg (by omega), if_pos rfl, h]; simp
  · rw [if_neg e]
    by_cases e2 : i < t
    · rw [if_pos (by omega)]
    · rw [if_neg (by omega), List.getElem?_eq_none (by simp; omega), List.getElem?_eq_none (by omega)]
/-- A row of numbers as a value. -/
def aggOf (k : IntKind) (l : List Int) : Value := .agg (l.map (Value.int k)).toArray
theorem aggOf_at (k : IntKind) (l : List Int) (i : Nat) (h : i < l.length) : (l.map (Value.int k)).toArray[i]? = some (.int k (l.getD i 0)) := by simp [h]
theorem row_of_list (k : IntKind) (t : TypeId) (w : World) (l : List Int) : RowA k t (w.alloc (.cells (l.map (Value.int k)).toArray t)) w.heap.size l.length (fun i => l.getD i 0) :=
  ⟨_, Blk.new _ _ _, by simp, fun i hi => aggOf_at k l i hi⟩
theorem RowA.arr {k : IntKind} {t : TypeId} {w : World} {B : Nat} {l : List Int} (h : RowA k t w B l.length (fun i => l.getD i 0)) : Blk w B t (l.map (Value.int k)).toArray := by
  obtain ⟨cur, h3, h4, h5⟩ := h
  have : cur = (l.map (Value.int k)).toArray := by
    apply Array.ext_getElem?
    intro i
    by_cases hi : i < l.length
    · rw [h5 i hi, aggOf_at k l i hi]
    · rw [Array.getElem?_eq_none (by omega), Array.getElem?_eq_none (by simp; omega)]
  rw [← this]; exact h3
theorem Blk.newAt (w : World) (g : Nat) (t : TypeId) (cs : Array Value) (h : g = w.heap.size) : Blk (w.alloc (.cells cs t)) g t cs := by rw [h]; exact Blk.new w t cs
theorem Blk.out {w : World} {g : Nat} {t : TypeId} {cs : Array Value} (h : Blk w g t cs) : w.heap[g]? = some (.cells cs t (0, 0)) := h
theorem Blk.setRow {w : World} {g : Nat} {t : TypeId} {cs : Array Value} (h : Blk w g t cs) (cs' : Array Value) : Blk (w.setRow g cs') g t cs' := by
  have h' := h.out
  show (w.setRow g cs').heap[g]? = _
  simp [World.setRow, Array.getElem?_modify, h']
theorem heap_setRow (w : World) (g k : Nat) (cs : Array Value) (h : k ≠ g) : (w.setRow g cs).heap[k]? = w.heap[k]? := by
  simp only [World.setRow, Array.getElem?_modify]
  rw [if_neg (by omega)]
theorem size_setRow (w : World) (g : Nat) (cs : Array Value) : (w.setRow g cs).heap.size = w.heap.size := by simp [World.setRow]
theorem below_setRow {B : Nat} {a w : World} (h : Below B a w) {g : Nat} (hg : B ≤ g) (cs : Array Value) : Below B a (w.setRow g cs) :=
  h.trans ⟨rfl, rfl, rfl, by rw [size_setRow]; exact Nat.le_refl _, fun k hk => heap_setRow _ _ _ _ (by omega)⟩
theorem zero_row {cs : Array Value} {n : Nat} {z : Value} (h : cs = Array.replicate n z) (i : Nat) (hi : i < n) : cs[i]? = some z := by rw [h]; simp [hi]
theorem sh_size : (Tryd.prog.info? 105).map (·.size) = some 64 := by kernel_rfl
theorem sh_one (k : IntKind) (l : List Int) : (l.map (Value.int k)).toArray.all (·.oneCell') = true := all_oneCell_toArray (fun v hv => by simp only [List.mem_map] at hv; obtain ⟨x, _, rfl⟩ := hv; rfl)
/-- The loops of schedule, behind t rounds. -/
def ScA (c : List Int) (t : Nat) (w wr : World) : Prop :=
  Below w.heap.size w wr ∧ wr.heap.size = w.heap.size + 1 + 1 + 1 ∧ RowA .u8 98 wr w.heap.size 64 (fun i => c.getD i 0) ∧ RowA .u32 105 wr (w.heap.size + 1) 64 (fun _ => 0) ∧ RowA .u32 105 wr (w.heap.size + 1 + 1) 64 (fun i => (schL c t).getD i 0)
theorem ScA.step {c : List Int} {t : Nat} {w wr : World} (h : ScA c t w wr) : ScA c (t + 1) w (wr.setCell ⟨w.heap.size + 1 + 1, t, none⟩ (.int .u32 (nextW c (schL c t)))).drew := by
  obtain ⟨h1, h2, h3, h4, h5⟩ := h
  refine ⟨(h1.setCell (by simp; omega) _).drew, (by simpa [World.setCell] using h2), (h3.far (by simp; omega) _).drewN 1, (h4.far (by simp) _).drewN 1, ?_⟩
  refine RowA.drewN ((h5.put t _).congr (fun i hi => ?_)) 1
  rw [schL_next]
theorem ScA.step0 {c : List Int} {t : Nat} {w wr : World} (h : ScA c t w wr) : ScA c (t + 1) w (wr.setCell ⟨w.heap.size + 1 + 1, t, none⟩ (.int .u32 (nextW c (schL c t)))) := by
  obtain ⟨h1, h2, h3, h4, h5⟩ := h
  refine ⟨(h1.setCell (by simp; omega) _), (by simpa [World.setCell] using h2), (h3.far (by simp; omega) _), (h4.far (by simp) _), ?_⟩
  refine ((h5.put t _).congr (fun i hi => ?_))
  rw [schL_next]
theorem ScA.drewN {c : List Int} {t : Nat} {w wr : World} (h : ScA c t w wr) (n : Nat) : ScA c t w (wr.drewN n) :=
  ⟨⟨h.1.os, h.1.tape, h.1.output, h.1.size, h.1.block⟩, h.2.1, h.2.2.1, h.2.2.2.1, h.2.2.2.2⟩
set_option maxHeartbeats 1000000 in
set_option maxRecDepth 100000 in
theorem schedule_ok (c : List Int) (w : World) (hc : c.length = 64) : Calls Tryd.prog 34 #[.agg (c.map (Value.int .u8)).toArray] w fun e w' => e = .returned (aggOf .u32 (schL c 64)) ∧ Below w.heap.size w w' := by
  obtain ⟨arr, ea⟩ : ∃ arr, arr = (c.map (Value.int .u8)).toArray := ⟨_, rfl⟩
  rw [← ea]
  have Hea := Lib.hid ea
  have Hc := Lib.hid hc
  clear ea hc
  go_enter Tryd.func34, Tryd.ntmps34
  go_wp2_with fail
  go_loopw [4, 10] (fun _ i wr => ∃ t : Nat, t ≤ 16 ∧ i = .int .i64 t ∧ ScA c t w wr) (fun _ i _ => 16 - (intOf i).toNat)
  case atStart =>
    refine ⟨0, by omega, rfl, (((Below.refl _ _).alloc (Nat.le_refl _) _).alloc (by simp) _).alloc (by simp; omega) _, by simp, ?_, ?_, ?_⟩
    · rw [Hea.out]
      have := row_of_list .u8 98 w c
      rw [Hc.out] at this
      exact (this.alloc _).alloc _
    · refine RowA.alloc ?_ _
      refine ⟨_, Blk.newAt _ _ _ _ (by simp), ?_, fun i hi => ?_⟩
      · rfl
      · exact zero_row (n := 64) rfl i hi
    · refine ⟨_, Blk.newAt _ _ _ _ (by simp), ?_, fun i hi => ?_⟩
      · rfl
      · exact zero_row (n := 64) rfl i hi
  case round =>
    obtain ⟨t, ht, rfl, hP⟩ := hrel
    have HP := Lib.hid hP
    by_cases hlt : t < 16
    · have c0 := hP.2.2.1.cell (4 * t) (by omega)
      have c1 := hP.2.2.1.cell (4 * t + 1) (by omega)
      have c2 := hP.2.2.1.cell (4 * t + 2) (by omega)
      have c3 := hP.2.2.1.cell (4 * t + 3) (by omega)
      have d0 := hP.2.2.2.2.cell t (by omega)
      have f0 := hP.2.2.2.2.free t
      have hn : nextW c (schL c t) = word4 (c.getD (4 * t) 0) (c.getD (4 * t + 1) 0) (c.getD (4 * t + 2) 0) (c.getD (4 * t + 3) 0) := by
        unfold nextW; rw [schL_length, if_pos hlt]
      have Hn := Lib.hid hn
      obtain ⟨a, ea⟩ : ∃ a, a = c.getD (4 * t) 0 := ⟨_, rfl⟩
      obtain ⟨b, eb⟩ : ∃ a, a = c.getD (4 * t + 1) 0 := ⟨_, rfl⟩
      obtain ⟨x, ex⟩ : ∃ a, a = c.getD (4 * t + 2) 0 := ⟨_, rfl⟩
      obtain ⟨y, ey⟩ : ∃ a, a = c.getD (4 * t + 3) 0 := ⟨_, rfl⟩
      rw [← ea] at c0
      rw [← eb] at c1
      rw [← ex] at c2
      rw [← ey] at c3
      have E0 := Lib.hid ea
      have E1 := Lib.hid eb
      have E2 := Lib.hid ex
      have E3 := Lib.hid ey
      clear hn hP ea eb ex ey
      go_wp2_with fail
      go_region
      go_wp2
      go_roundw
      case rel =>
        refine ⟨t + 1, by omega, by go_num, ?_⟩
        have := HP.out.step
        rw [Hn.out, ← E0.out, ← E1.out, ← E2.out, ← E3.out] at this
        exact this
      case measure => simp [intOf] <;> omega
    · clear hP
      obtain ⟨t0, rfl⟩ : ∃ t0, t0 = t := ⟨_, rfl⟩
      go_wp2_with fail
      go_loopw [5, 6, 7, 8, 9] (fun i _ _ _ _ wr => ∃ t : Nat, 16 ≤ t ∧ t ≤ 64 ∧ i = .int .i64 t ∧ ScA c t w wr) (fun i _ _ _ _ _ => 64 - (intOf i).toNat)
      case atStart => exact ⟨16, by omega, by omega, rfl, (show t0 = 16 by omega) ▸ HP.out⟩
      case round =>
        obtain ⟨t, ht0, ht, rfl, hP⟩ := hrel
        clear HP
        have HP := Lib.hid hP
        by_cases hlt : t < 64
        · have c2 := hP.2.2.2.2.cell (t - 2) (by omega)
          have c7 := hP.2.2.2.2.cell (t - 7) (by omega)
          have c15 := hP.2.2.2.2.cell (t - 15) (by omega)
          have c16 := hP.2.2.2.2.cell (t - 16) (by omega)
          have d0 := hP.2.2.2.2.cell t (by omega)
          have f0 := hP.2.2.2.2.free t
          have hn : nextW c (schL c t) = mixw ((schL c t).getD (t - 2) 0) ((schL c t).getD (t - 7) 0) ((schL c t).getD (t - 15) 0) ((schL c t).getD (t - 16) 0) := by
            unfold nextW; rw [schL_length, if_neg (by omega)]
          have Hn := Lib.hid hn
          obtain ⟨y, ey⟩ : ∃ a, a = (schL c t).getD (t - 2) 0 := ⟨_, rfl⟩
          obtain ⟨b, eb⟩ : ∃ a, a = (schL c t).getD (t - 7) 0 := ⟨_, rfl⟩
          obtain ⟨x, ex⟩ : ∃ a, a = (schL c t).getD (t - 15) 0 := ⟨_, rfl⟩
          obtain ⟨d, ed⟩ : ∃ a, a = (schL c t).getD (t - 16) 0 := ⟨_, rfl⟩
          rw [← ey] at c2
          rw [← eb] at c7
          rw [← ex] at c15
          rw [← ed] at c16
          have E0 := Lib.hid ey
          have E1 := Lib.hid eb
          have E2 := Lib.hid ex
          have E3 := Lib.hid ed
          clear hn hP ey eb ex ed
          go_wp2_with fail
          go_quiet (fail)
          go_wp2_with fail
          refine (rotr_7 _ _).mono ?_
          rintro e w' ⟨rfl, rfl⟩
          go_wp2_with fail
          refine (rotr_18 _ _).mono ?_
          rintro e w' ⟨rfl, rfl⟩
          go_wp2_with fail
          refine (rotr_17 _ _).mono ?_
          rintro e w' ⟨rfl, rfl⟩
          go_wp2_with fail
          refine (rotr_19 _ _).mono ?_
          rintro e w' ⟨rfl, rfl⟩
          go_wp2_with fail
          go_region
          go_wp2
          go_roundw
          case rel =>
            refine ⟨t + 1, by omega, by omega, by go_num, ?_⟩
            have := (HP.out.drewN (nq + 1)).step0
            rw [Hn.out, ← E0.out, ← E1.out, ← E2.out, ← E3.out] at this
            exact this
          case measure => simp [intOf] <;> omega
        · obtain rfl : t = 64 := by omega
          have hb := hP.2.2.2.2
          have hr : RowA .u32 105 wr (w.heap.size + 1 + 1) (schL c 64).length (fun i => (schL c 64).getD i 0) := by rw [schL_length]; exact hb
          have harr := hr.arr
          obtain ⟨cur, hb1, hb2, _⟩ := hP.2.2.2.1
          have Hb1 := Lib.hid hb1
          have Hb2 := Lib.hid hb2
          have Harr := Lib.hid harr
          have hsz : (schL c 64).length = 64 := schL_length c 64
          have Hsz := Lib.hid hsz
          clear hP hb hr harr hb1 hb2 hsz
          go_wp2_with (first | (with_reducible refine wpList_load_row rfl 105 (.tmp 3) rfl _ rfl 105 ((schL c 64).map (Value.int .u32)).toArray (0, 0) _ Harr.out.out Tryd.underlying105 rfl ?c1 ?_) | (with_reducible refine wpList_store_row rfl 105 (.tmp 2) (.tmp 88) rfl _ ((schL c 64).map (Value.int .u32)).toArray rfl rfl 105 cur Hb1.out.out ?c2 ?c3 (sh_one _ _) ?_))
          case c1 => rw [Hsz.out]; exact Option.map_eq_some_iff.1 sh_size
          case c2 => rw [Hsz.out]; exact Option.map_eq_some_iff.1 sh_size
          case c3 => rw [Hsz.out]; exact Hb2.out
          refine bodyPost_ret (v := .agg ((schL c 64).map (Value.int .u32)).toArray) (results_cell_row (t := 105) (fr := (0, 0)) rfl _ _ (w.heap.size + 1) _ _ rfl (Hb1.out.setRow _).out Tryd.underlying105 rfl ?_) rfl ⟨rfl, ?_⟩
          · simp only [List.size_toArray, List.length_map, Hsz.out]; exact sh_size
          · exact below_setRow HP.out.1 (by omega) _
end Go.Proofs.YtgehbfnfhjpjbaaDoor
