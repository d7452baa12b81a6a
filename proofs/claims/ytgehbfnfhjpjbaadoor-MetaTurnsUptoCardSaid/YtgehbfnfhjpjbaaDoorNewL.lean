/- MetaNewer: the walk of the statement. -/
import Derived.Test.YtgehbfnfhjpjbaaDoorLawA
namespace Go.Proofs.YtgehbfnfhjpjbaaDoor
open Go.RowKit
set_option linter.unusedVariables false
set_option linter.unusedSimpArgs false
theorem slot_un (K : Nat → Int) (S : St) (v : Value) (l : List Int) (w : World) (r : Sup × Int) (hT : Tab K S w) (hr : Rd .u8 w v l) (hb : Bytes l) (he : unF K S l = r) : ∀ w1, Below w.heap.size w w1 → Calls Tryd.prog 24 #[v] w1 (UnQ r w1) := by
  intro w1 h1
  have := unseal_ok K S v l w1 (hT.belowS h1) (hr.below h1) hb
  rw [he] at this; exact this
theorem slot_seal (K : Nat → Int) (S : St) (s : Sup) (g : Nat) (w : World) (hf : Fits s) (hk : Kinds s) (hT : Tab K S w) (hr : RowA .u8 5 w g s.sz.toNat (fun i => (sealL K S s).getD i 0)) : Rd .u8 w (.slice (some ⟨g, 0, none⟩) s.sz.toNat s.sz.toNat) (sealL K S s) := by
  have hlen := sealL_length K S s hf.2.2.2.2.1
  have := hr.rd (sealL K S s) s.sz.toNat (by omega) (by omega) (fun i _ => rfl)
  rw [hlen] at this; exact this
end Go.Proofs.YtgehbfnfhjpjbaaDoor
