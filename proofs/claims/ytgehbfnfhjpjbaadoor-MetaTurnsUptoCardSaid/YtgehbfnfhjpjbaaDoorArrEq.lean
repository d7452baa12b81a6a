/- Two arrays of bytes compared. -/
import Derived.Test.YtgehbfnfhjpjbaaDoorSupF
import Derived.Test.YtgehbfnfhjpjbaaDoorRows
import Derived.WalkKit
import Derived.Laws.StructEq
namespace Go.Proofs.YtgehbfnfhjpjbaaDoor
open Go.RowKit
set_option linter.unusedVariables false
set_option linter.unusedSimpArgs false
theorem forIn_eq {P : Program} (w : World) (f : Nat → Option Bool × Unit → Sem (ForInStep (Option Bool × Unit))) (q : Nat → Bool) (m : Nat)
    (hf : ∀ i, i < m → (f i (none, ())).run P w = if q i = true then .ok (.yield (none, ())) w else .ok (.done (some false, ())) w) :
    ∀ (n s : Nat), s + n ≤ m → (forIn (List.range' s n) ((none, ()) : Option Bool × Unit) f).run P w = if (List.range' s n).all q = true then .ok (none, ()) w else .ok (some false, ()) w
  | 0, s, _ => by simp
  | n + 1, s, hs => by
    have ih := forIn_eq w f q m hf n (s + 1) (by omega)
    rw [List.range'_succ, List.forIn_cons]
    simp only [Sem.run_bind, hf s (by omega), List.all_cons]
    by_cases h : q s = true
    · simp only [h, if_true, Result.andThen, ih, Bool.true_and]
    · simp [h, Result.andThen]
theorem run_part {P : Program} (w : World) (e : TypeId) (xs : List Int) (i : Nat) (hi : i < xs.length) (he : P.underlying e = some (.int .u8)) (hs : (P.info? e).map (·.size) = some 1) :
    (Go.part e (xs.map (Value.int .u8)).toArray i).run P w = .ok (.int .u8 (xs.getD i 0)) w := by
  have ha : (isAgg e).run P w = .ok false w := by simp [isAgg, run_underlying he]
  simp [Go.part, ha, hi]
theorem equal_arr {P : Program} (w : World) (d : Nat) (t e : TypeId) (xs ys : List Int) (n : Nat) (hx : xs.length = n) (hy : ys.length = n) (ht : P.underlying t = some (.array n e)) (he : P.underlying e = some (.int .u8)) (hs : (P.info? e).map (·.size) = some 1) :
    (Op.equalIn (d + 2) t (.agg (xs.map (Value.int .u8)).toArray) (.agg (ys.map (Value.int .u8)).toArray)).run P w = .ok (decide (xs = ys)) w := by
  have hsz : (sizeOf e).run P w = .ok 1 w := by
    cases hq : P.info? e with
    | none => simp [hq] at hs
    | some i =>
      have : i.size = 1 := by simpa [hq] using hs
      simp [sizeOf, typeInfo, hq, this]
  unfold Op.equalIn
  simp [run_underlying ht, hsz]
  rw [forIn_eq w _ (fun i => xs.getD i 0 == ys.getD i 0) n (fun i hi => ?_) n 0 (by omega)]
  · by_cases h : xs = ys
    · subst h; simp
    · rw [if_neg]
      · simp [h]
      · intro hall
        apply h
        apply List.ext_getElem (by omega)
        intro i h1 h2
        have := List.all_eq_true.1 hall i (by simp; omega)
        simpa [List.getD_eq_getElem?_getD, h1, h2] using this
  · simp only [Nat.mul_one, Sem.run_bind, run_part w e xs i (by omega) he hs, run_part w e ys i (by omega) he hs, Result.andThen_ok, run_equalIn_int w d e _ _ _ _ he]
    by_cases h : xs.getD i 0 = ys.getD i 0
    · simp [h]
    · simp [h]
theorem run_neq_arr {P : Program} (w : World) (t e : TypeId) (xs ys : List Int) (n : Nat) (hx : xs.length = n) (hy : ys.length = n) (ht : P.underlying t = some (.array n e)) (he : P.underlying e = some (.int .u8)) (hs : (P.info? e).map (·.size) = some 1) :
    (binOp .neq t (.agg (xs.map (Value.int .u8)).toArray) (.agg (ys.map (Value.int .u8)).toArray)).run P w = .ok (.bool (!decide (xs = ys))) w := by
  rw [run_neq_struct, show (10000 : Nat) = 9998 + 2 from rfl, equal_arr w 9998 t e xs ys n hx hy ht he hs]
  rfl
end Go.Proofs.YtgehbfnfhjpjbaaDoor
