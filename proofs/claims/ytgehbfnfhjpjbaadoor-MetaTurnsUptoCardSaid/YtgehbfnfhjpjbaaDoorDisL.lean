/- The disk's calls: Zero, Counts. -/
import Derived.Test.YtgehbfnfhjpjbaaDoorDisK
import Derived.Outline
namespace Go.Proofs.YtgehbfnfhjpjbaaDoor
open Go.RowKit
open Go.ChangeMaps
set_option linter.unusedVariables false
set_option linter.unusedSimpArgs false
theorem DStep.comp {O O' : Nat → Prop} {w w1 w2 : World} {d : Nat} {s : DSt} (ho : OnlyP O w w1) (hO : ∀ b, O' b → O b ∨ w.heap.size ≤ b) (h : DStep O' w1 w2 d s) : DStep O w w2 d s := by
  obtain ⟨h1, O2, h2, h3⟩ := h
  refine ⟨ho.trans h1 hO, O2, h2, fun b hb => ?_⟩
  rcases h3 b hb with h | h
  · exact hO b h
  · exact .inr (Nat.le_trans ho.size h)
theorem AnsE.lo {lo lo' : Nat} {w : World} {v : Value} {e0 j : Int} (h : AnsE lo w v e0 j) (hl : lo' ≤ lo) : AnsE lo' w v e0 j := by
  rcases h with h | ⟨b, e, hb, r⟩
  · exact .inl h
  · exact .inr ⟨b, e, Nat.le_trans hl hb, r⟩
theorem AnsP.lo {lo lo' : Nat} {w : World} {v : Value} {xs : List Int} (h : AnsP lo w v xs) (hl : lo' ≤ lo) : AnsP lo' w v xs := by
  rcases h with h | ⟨b, e, hb, r⟩
  · exact .inl h
  · exact .inr ⟨b, e, Nat.le_trans hl hb, r⟩
/-- Zeroes written into n blocks from k on. -/
def zeroRun (zs : List Int) : Nat → DSt → Nat → DSt × Int × Int
  | 0, s, k => (s, 0, k)
  | n + 1, s, k => if stepB s = true then zeroRun zs n (pushS (stepS s) k zs) (k + 1) else (stepS s, 22, k)
open Classical in
/-- What Zero does and answers: the disk, the error's number, its block. -/
noncomputable def zeroR (s : DSt) (f c : Int) : DSt × Int × Int :=
  if c < 0 then (s, 1, f) else if f < 0 ∨ s.nb < f ∨ s.nb - f < c then (s, 2, f) else if s.off = true then (s, 22, f) else zeroRun (List.replicate s.sz 0) c.toNat s f.toNat
theorem writeS_in {s : DSt} {k : Nat} {xs : List Int} (hk : k < s.nb) (hl : xs.length = s.sz) : wrE s k xs.length = 0 := by
  unfold wrE; rw [if_pos ⟨by omega, by omega⟩, if_pos hl]
end Go.Proofs.YtgehbfnfhjpjbaaDoor
