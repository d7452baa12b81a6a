/- The walk of the law MetaPlans. -/
import Derived.Test.YtjcinelcocmpnaaPlanW
namespace Go.Proofs.Ytjcinelcocmpnaa
open Go.RowKit
theorem bcell {W w1 : World} (hb : Below W.heap.size W w1) : (∀ b o, b < W.heap.size → w1.cell? ⟨b, o, none⟩ = W.cell? ⟨b, o, none⟩) ∧ (∀ b o, b < W.heap.size → w1.frozen? ⟨b, o, none⟩ = W.frozen? ⟨b, o, none⟩) :=
  ⟨fun b o h => hb.cell (p := ⟨b, o, none⟩) h, fun b o h => hb.frozen (p := ⟨b, o, none⟩) h⟩
set_option maxHeartbeats 400000 in
set_option maxRecDepth 100000 in
theorem plans_of (a b n x1 x2 x3 x4 x5 x6 x7 x8 x9 er : Int) (w : World)
    (hP : ∀ w : World, Calls Try.prog 10 #[.int .i64 a, .int .i64 b, .int .i64 n] w fun e w' => e = .returned (.tuple #[.agg #[.int .i64 x1, .int .i64 x2, .int .i64 x3, .int .i64 x4, .int .i64 x5, .int .i64 x6, .int .i64 x7, .int .i64 x8, .int .i64 x9], .int .i64 er]) ∧ Below w.heap.size w w')
    (hR : ∀ w : World, Calls Try.prog 11 #[.int .i64 a, .int .i64 b, .int .i64 n] w fun e w' => e = .returned (.tuple #[.agg #[.int .i64 x1, .int .i64 x2, .int .i64 x3, .int .i64 x4, .int .i64 x5, .int .i64 x6, .int .i64 x7, .int .i64 x8, .int .i64 x9], .int .i64 er]) ∧ Below w.heap.size w w') :
    Calls Try.prog 4 #[.int .i64 a, .int .i64 b, .int .i64 n] w fun e w' => e = .returned (.bool true) ∧ Below w.heap.size w w' := by
  have HP := Lib.hid hP
  have HR := Lib.hid hR
  clear hP hR
  go_enter Try.func4, Try.ntmps4
  go_wp2_with fail
  refine (HP.out _).mono ?_
  rintro e w1 ⟨rfl, hb1⟩
  have h1 := hb1.size
  go_wp2_with fail
  refine (HR.out _).mono ?_
  rintro e w2 ⟨rfl, hb2⟩
  have h2 : w1.heap.size + 1 ≤ w2.heap.size := by have := hb2.size; simp at this; omega
  have h3 : w1.heap.size < w2.heap.size := by omega
  obtain ⟨hc, hf⟩ := bcell hb2
  go_wp2
  go_ret
  exact ⟨rfl, (((hb1.alloc hb1.size _).trans (hb2.mono (by simp; omega))).alloc (by omega) _)⟩
theorem plans_law (a b n : Int) (w : World) : Calls Try.prog 4 #[.int .i64 a, .int .i64 b, .int .i64 n] w fun e w' => e = .returned (.bool true) ∧ Below w.heap.size w w' := by
  by_cases h1 : a < 1
  · exact plans_of _ _ _ _ _ _ _ _ _ _ _ _ _ _ (fun w => plan_no0 a b n w h1) (fun w => rplan_no0 a b n w h1)
  by_cases h2 : 4096 < a
  · exact plans_of _ _ _ _ _ _ _ _ _ _ _ _ _ _ (fun w => plan_no1 a b n w h1 h2) (fun w => rplan_no1 a b n w h1 h2)
  by_cases hb : okSize b
  · by_cases h3 : n < 1
    · exact plans_of _ _ _ _ _ _ _ _ _ _ _ _ _ _ (fun w => plan_no3 a b n w (by omega) (by omega) hb h3) (fun w => rplan_no3 a b n w (by omega) (by omega) hb h3)
    by_cases h4 : 16 < n
    · exact plans_of _ _ _ _ _ _ _ _ _ _ _ _ _ _ (fun w => plan_no4 a b n w (by omega) (by omega) hb h3 h4) (fun w => rplan_no4 a b n w (by omega) (by omega) hb h3 h4)
    by_cases h5 : n ≤ 4
    · exact plans_of _ _ _ _ _ _ _ _ _ _ _ _ _ _ (fun w => plan_4 a b n _ w (by omega) (by omega) hb (by omega) h5 rfl) (fun w => rplan_4 a b n _ w (by omega) (by omega) hb (by omega) h5 rfl)
    by_cases h6 : n ≤ 8
    · exact plans_of _ _ _ _ _ _ _ _ _ _ _ _ _ _ (fun w => plan_8 a b n _ w (by omega) (by omega) hb (by omega) h6 rfl) (fun w => rplan_8 a b n _ w (by omega) (by omega) hb (by omega) h6 rfl)
    exact plans_of _ _ _ _ _ _ _ _ _ _ _ _ _ _ (fun w => plan_16 a b n _ w (by omega) (by omega) hb (by omega) (by omega) rfl) (fun w => rplan_16 a b n _ w (by omega) (by omega) hb (by omega) (by omega) rfl)
  · exact plans_of _ _ _ _ _ _ _ _ _ _ _ _ _ _ (fun w => plan_no2 a b n w (by omega) (by omega) hb) (fun w => rplan_no2 a b n w (by omega) (by omega) hb)
end Go.Proofs.Ytjcinelcocmpnaa
