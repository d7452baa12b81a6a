/- MetaRound: the walk of the statement. -/
import Derived.Test.YtgehbfnfhjpjbaaDoorSupK
namespace Go.Proofs.YtgehbfnfhjpjbaaDoor
open Go.RowKit
set_option linter.unusedVariables false
set_option linter.unusedSimpArgs false
set_option maxHeartbeats 400000 in
theorem lsized_yes (b : Int) (w : World) (hb : okSize b) : Calls Tryd.prog 13 #[.int .i64 b] w fun e w' => e = .returned (.bool true) ∧ w = w' := by
  rcases hb with rfl | rfl | rfl | rfl
  all_goals
    go_enter Tryd.func13, Tryd.ntmps13
    go_wp2
    go_ret
    exact ⟨rfl, rfl⟩
set_option maxHeartbeats 400000 in
theorem lsized_no (b : Int) (w : World) (hb : ¬ okSize b) : Calls Tryd.prog 13 #[.int .i64 b] w fun e w' => e = .returned (.bool false) ∧ w = w' := by
  unfold okSize at hb
  have h1 : (b == 128) = false := by simp; omega
  have h2 : (b == 256) = false := by simp; omega
  have h3 : (b == 512) = false := by simp; omega
  have h4 : (b == 1024) = false := by simp; omega
  go_enter Tryd.func13, Tryd.ntmps13
  go_wp2
  go_ret
  exact ⟨rfl, rfl⟩
theorem lsized_ok (b : Int) (w : World) : Calls Tryd.prog 13 #[.int .i64 b] w fun e w' => e = .returned (.bool (szB b)) ∧ w = w' := by
  by_cases h : okSize b
  · have : szB b = true := decide_eq_true h
    rw [this]; exact lsized_yes b w h
  · have : szB b = false := decide_eq_false h
    rw [this]; exact lsized_no b w h
set_option maxHeartbeats 2000000 in
set_option maxRecDepth 100000 in
theorem lawful_ok (s : Sup) (w : World) :
    Calls Tryd.prog 4 #[.agg s.arr] w (FtQ s w) := by
  obtain ⟨sq, bl, sz, sl, cu, bm, o1, o2, fl, mr⟩ := s
  simp only [Sup.arr]
  go_enter Tryd.func4, Tryd.ntmps4
  go_wp2_with (go_at_call 13; refine (lsized_ok _ _).mono ?_; rintro e w' ⟨rfl, rfl⟩)
  all_goals
    have hsz : szB sz = true ↔ okSize sz := by unfold szB; exact decide_eq_true_iff
    go_ret
    refine ⟨⟨_, rfl, ?_⟩, (Below.refl _ _).alloc (Nat.le_refl _) _⟩
    simp only [Fits]
    constructor
    · intro hr
      first
        | (exfalso; exact Bool.noConfusion hr)
        | (simp only [decide_eq_true_eq] at hr; exact ⟨by omega, by omega, by omega, by omega, hsz.1 (by assumption), by omega, by omega, by omega, by omega, by omega⟩)
        | exact ⟨by omega, by omega, by omega, by omega, hsz.1 (by assumption), by omega, by omega, by omega, by omega, by omega⟩
        | exact ⟨by omega, by omega, by omega, by omega, hsz.1 (by simp_all), by omega, by omega, by simp_all, by simp_all, by simp_all⟩
    · rintro ⟨a1, a2, a3, a4, a5, a6, a7, a8, a9, a10⟩
      first
        | rfl
        | (exfalso; omega)
        | (simp; omega)
        | (exfalso; have := hsz.2 a5; simp_all)
        | (simp_all)
/-- The call returns true, what was there is as it was. -/
def DoneT (w : World) (e : Ending) (w' : World) : Prop := e = .returned (.bool true) ∧ Below w.heap.size w w'
theorem FtQ.cases {s : Sup} {w : World} {e : Ending} {w' : World} (h : FtQ s w e w') : (Fits s ∧ e = .returned (.bool true) ∧ Below w.heap.size w w') ∨ (¬ Fits s ∧ e = .returned (.bool false) ∧ Below w.heap.size w w') := by
  obtain ⟨⟨r, he, hr⟩, hb⟩ := h
  rcases r with _ | _
  · exact .inr ⟨fun h => Bool.noConfusion (hr.2 h), he, hb⟩
  · exact .inl ⟨hr.1 rfl, he, hb⟩
end Go.Proofs.YtgehbfnfhjpjbaaDoor
