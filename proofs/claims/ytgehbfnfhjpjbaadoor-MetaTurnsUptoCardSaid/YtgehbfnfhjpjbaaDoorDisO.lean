/- The disk's calls: Flush. -/
import Derived.Test.YtgehbfnfhjpjbaaDoorDisN
import Derived.Outline
namespace Go.Proofs.YtgehbfnfhjpjbaaDoor
open Go.RowKit
open Go.ChangeMaps
set_option linter.unusedVariables false
set_option linter.unusedSimpArgs false
def lenK (s : DSt) (k : Nat) : Nat := (s.ca k).length
def flushC (s : DSt) : DSt := { allS s (lenK s) with c3 := IntKind.i64.wrap (s.c3 + 1) }
def flushS (s : DSt) : DSt := if stepB s = true then flushC (stepS s) else stepS s
def FlushQ (O : Nat → Prop) (w : World) (d : Nat) (s : DSt) (b : Bool) (e : Ending) (w' : World) : Prop :=
  e = .returned (if b = true then .nilIface else .iface 32 (.int .i64 22)) ∧ DStep O w w' d s
/-- The law of 'delete' while the map is gone over. -/
theorem del_range {w : World} {mc r k n : Nat} {F : Int → Option Value} {L : Int → Bool} (h : RangeI w mc r F L n) (hk : k ≤ 8192) : DelLaw w mc r k (fun W => ∃ n1, RangeI W mc r (updI F k none) (fun i => L i && !decide (i = (k : Int))) n1 ∧ n1 ≤ n) :=
  fun W h1 h2 ty => by
    obtain ⟨W', n1, hrun, hr, hn, ho⟩ := (h.keep h1 h2).del Tryd.underlying3 Tryd.underlying59 (i64_nat k (by omega)) ty
    exact ⟨W', hrun, ⟨n1, hr, hn⟩, ho⟩
end Go.Proofs.YtgehbfnfhjpjbaaDoor
