/- The disk's calls: New. -/
import Derived.Test.YtgehbfnfhjpjbaaDoorDisP
import Derived.Outline
namespace Go.Proofs.YtgehbfnfhjpjbaaDoor
open Go.RowKit
open Go.ChangeMaps Go.MapKept
set_option linter.unusedVariables false
set_option linter.unusedSimpArgs false
theorem MapI.new (w : World) : MapI (w.alloc (.map #[] 0)) w.heap.size (fun _ => none) := by
  refine ⟨#[], 0, ?_, (stamped_iff _ _).2 ⟨by simp, by simp, by simp⟩, fun x hx => by simp at hx, fun j v => by simp⟩
  exact heap_alloc_new w _
def newS (nb sz : Nat) : DSt := { nb := nb, sz := sz, dur := fun _ => List.replicate sz 0, sp := fun _ => false, ca := fun _ => [], off := false, fused := false, fuse := 0, c0 := 0, c1 := 0, c2 := 0, c3 := 0 }
/-- May a disk have this size? -/
def Size (sz : Nat) : Prop := sz = 128 ∨ sz = 256 ∨ sz = 512 ∨ sz = 1024
theorem newS_wf {nb sz : Nat} (h1 : 1 ≤ nb) (h2 : nb ≤ 8192) (hs : Size sz) : DWf (newS nb sz) := by
  refine ⟨h1, h2, ?_, ?_, fun k _ => by simp [newS], fun k l hl => by simp [newS] at hl, fun k _ => rfl, Int.le_refl _, by show (0 : Int) < _; decide⟩
  · show 0 < sz; rcases hs with rfl | rfl | rfl | rfl <;> decide
  · show sz ≤ 1024; rcases hs with rfl | rfl | rfl | rfl <;> decide
/-- What New leaves. -/
def NewQ (w : World) (nb sz : Nat) (e : Ending) (w' : World) : Prop :=
  ∃ d O, e = .returned (.tuple #[.pointer (some ⟨d, 0, none⟩), .int .i64 0]) ∧ DRep O w' d (newS nb sz) ∧ (∀ b, O b → w.heap.size ≤ b) ∧ Below w.heap.size w w'
theorem new_rep {w w' : World} {nb sz d m c B ms mc : Nat} (h1 : 1 ≤ nb) (h2 : nb ≤ 8192) (hs : Size sz) (hd : Blk w' d 55 (dArr (newS nb sz) m c)) (hm : Blk w' m 58 #[.int .i64 sz, .slice (some ⟨B, 0, none⟩) (nb * sz) (nb * sz), .map (some ms)])
    (hB : RowA .u8 5 w' B (nb * sz) (fun _ => 0)) (hms : MapI w' ms (fun _ => none)) (hc : Blk w' c 61 #[.map (some mc)]) (hmc : MapI w' mc (fun _ => none)) (hne : mc ≠ ms)
    (l1 : w.heap.size ≤ d) (l2 : w.heap.size ≤ m) (l3 : w.heap.size ≤ c) (l4 : w.heap.size ≤ B) (l5 : w.heap.size ≤ ms) (l6 : w.heap.size ≤ mc) (hb : Below w.heap.size w w') :
    NewQ w nb sz (.returned (.tuple #[.pointer (some ⟨d, 0, none⟩), .int .i64 0])) w' := by
  have e1 : ∀ i, durF (newS nb sz) i = 0 := fun i => by
    unfold durF newS
    rw [List.getD_eq_getElem?_getD, List.getElem?_replicate]
    split <;> rfl
  have e2 : spF (newS nb sz) = fun _ => none := by
    funext j
    unfold spF newS
    simp
  have hx : DRepX w' d m c B ms mc (fun _ => none) (fun _ => False) (newS nb sz) := by
    refine ⟨newS_wf h1 h2 hs, hd, ⟨hm, ?_, ?_⟩, ⟨hc, hmc⟩, ⟨fun k _ => rfl, fun j v hv => absurd hv (by simp), fun i j u v g hu => absurd hu (by simp)⟩, hne, fun b hb => hb.elim⟩
    · exact hB.congr fun i _ => (e1 i).symm
    · rw [e2]; exact hms
  refine ⟨d, ownD d m c B ms mc (fun _ => False), rfl, ⟨m, c, B, ms, mc, _, _, hx, fun b hb => hb, fun b hb => ?_⟩, fun b hb => ?_, hb⟩
  · rcases hb with rfl | rfl | rfl | rfl | rfl | rfl | h
    · exact hd.lt
    · exact hm.lt
    · exact hc.lt
    · exact hB.lt
    · exact hms.lt
    · exact hmc.lt
    · exact h.elim
  · rcases hb with rfl | rfl | rfl | rfl | rfl | rfl | h
    · exact l1
    · exact l2
    · exact l3
    · exact l4
    · exact l5
    · exact l6
    · exact h.elim
theorem MapI.newAt (w : World) (b : Nat) (h : b = w.heap.size) : MapI (w.alloc (.map #[] 0)) b (fun _ => none) := by rw [h]; exact MapI.new w
theorem RowA.madeAt (w : World) (b n : Nat) (h : b = w.heap.size) : RowA .u8 5 (w.alloc (.cells (madeCells #[.int .u8 0] n) 5)) b n (fun _ => 0) := by rw [h]; exact RowA.made .u8 5 w n
theorem new_mem (w : World) (nb sz M : Nat) (h1 : 1 ≤ nb) (h2 : nb ≤ 8192) (hs : Size sz) (hM : M = nb * sz) :
    NewQ w nb sz (.returned (.tuple #[.pointer (some ⟨w.heap.size, 0, none⟩), .int .i64 0])) ((((((w.alloc (.cells #[.int .i64 nb, .int .i64 sz, .pointer (some ⟨w.heap.size + 1 + 1 + 1, 0, none⟩), .pointer (some ⟨w.heap.size + 1 + 1 + 1 + 1 + 1, 0, none⟩), .bool false, .bool false, .int .i64 0, .int .i64 0, .int .i64 0, .int .i64 0, .int .i64 0] 55)).alloc (.cells (madeCells #[.int .u8 0] M) 5)).alloc (.map #[] 0)).alloc (.cells #[.int .i64 sz, .slice (some ⟨w.heap.size + 1, 0, none⟩) M M, .map (some (w.heap.size + 1 + 1))] 58)).alloc (.map #[] 0)).alloc (.cells #[.map (some (w.heap.size + 1 + 1 + 1 + 1))] 61)) := by
  subst hM
  refine new_rep (w := w) (d := w.heap.size) (m := w.heap.size + 1 + 1 + 1) (c := w.heap.size + 1 + 1 + 1 + 1 + 1) (B := w.heap.size + 1) (ms := w.heap.size + 1 + 1) (mc := w.heap.size + 1 + 1 + 1 + 1) h1 h2 hs ?_ ?_ ?_ ?_ ?_ ?_ (by omega) (by omega) (by omega) (by omega) (by omega) (by omega) (by omega) ?_
  · exact (((((Blk.newAt w w.heap.size _ _ rfl).alloc _).alloc _).alloc _).alloc _).alloc _
  · exact ((Blk.newAt _ _ _ _ (by simp)).alloc _).alloc _
  · exact ((((RowA.madeAt _ _ _ (by simp)).alloc _).alloc _).alloc _).alloc _
  · exact (((MapI.newAt _ _ (by simp)).alloc _).alloc _).alloc _
  · exact Blk.newAt _ _ _ _ (by simp)
  · exact (MapI.newAt _ _ (by simp)).alloc _
  · exact ((((((Below.refl _ _).alloc (Nat.le_refl _) _).alloc (by simp) _).alloc (by simp; omega) _).alloc (by simp; omega) _).alloc (by simp; omega) _).alloc (by simp; omega) _
set_option maxHeartbeats 4000000 in
set_option maxRecDepth 100000 in
theorem dnew_ok (w : World) (nb sz : Nat) (h1 : 1 ≤ nb) (h2 : nb ≤ 8192) (hs : Size sz) :
    Calls Tryd.prog 5 #[.int .i64 nb, .int .i64 sz] w (NewQ w nb sz) := by
  obtain ⟨Q, eQ⟩ : ∃ Q, Q = NewQ w nb sz := ⟨_, rfl⟩
  rw [← eQ]
  have EQ := Lib.hid eQ
  clear eQ
  obtain ⟨M, eM⟩ : ∃ M, M = nb * sz := ⟨_, rfl⟩
  have hM : M ≤ 8388608 := by
    rw [eM]
    have : sz ≤ 1024 := by rcases hs with rfl | rfl | rfl | rfl <;> decide
    exact Nat.le_trans (Nat.mul_le_mul h2 this) (by decide)
  have m1 : (nb : Int) * (sz : Int) = (M : Int) := by rw [eM]; exact (Int.natCast_mul _ _).symm
  have EM := Lib.hid eM
  clear eM
  have hmk := fun w => run_make_row' (P := Tryd.prog) 29 5 (.int .u8 0) 1 Tryd.underlying29 hd_info5 rfl .i64 .i64 M (by omega) (by omega) w
  have hm1 := fun w => run_makeMap (P := Tryd.prog) 56 w
  have hm2 := fun w => run_makeMap (P := Tryd.prog) 59 w
  have hs2 := hs
  rcases hs2 with rfl | rfl | rfl | rfl
  · have m1 : (nb : Int) * 128 = (M : Int) := m1
    go_enter Tryd.func5, Tryd.ntmps5
    go_wp2_with fail
    rw [EQ.out]
    exact new_mem w nb 128 M h1 h2 hs EM.out
  · have m1 : (nb : Int) * 256 = (M : Int) := m1
    go_enter Tryd.func5, Tryd.ntmps5
    go_wp2_with fail
    rw [EQ.out]
    exact new_mem w nb 256 M h1 h2 hs EM.out
  · have m1 : (nb : Int) * 512 = (M : Int) := m1
    go_enter Tryd.func5, Tryd.ntmps5
    go_wp2_with fail
    rw [EQ.out]
    exact new_mem w nb 512 M h1 h2 hs EM.out
  · have m1 : (nb : Int) * 1024 = (M : Int) := m1
    go_enter Tryd.func5, Tryd.ntmps5
    go_wp2_with fail
    rw [EQ.out]
    exact new_mem w nb 1024 M h1 h2 hs EM.out
end Go.Proofs.YtgehbfnfhjpjbaaDoor
