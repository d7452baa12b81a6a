/- The disk's calls: Write, Through. -/
import Derived.Test.YtgehbfnfhjpjbaaDoorDisG
import Derived.Outline
namespace Go.Proofs.YtgehbfnfhjpjbaaDoor
open Go.RowKit
open Go.ChangeMaps
set_option linter.unusedVariables false
set_option linter.unusedSimpArgs false
/-- Bytes that are handed in: none of the disk's own blocks holds them. -/
def RdN (O : Nat → Prop) (w : World) (v : Value) (xs : List Int) : Prop := Rd .u8 w v xs ∧ ∀ b off n c, v = .slice (some ⟨b, off, none⟩) n c → 0 < n → ¬ O b
theorem RdN.only {O : Nat → Prop} {w w1 : World} {v : Value} {xs : List Int} (h : RdN O w v xs) (ho : OnlyP O w w1) : Rd .u8 w1 v xs := by
  rcases h.1 with h1 | ⟨b, off, c, rfl, h1, h2, h3, h4⟩
  · exact .inl h1
  · refine .inr ⟨b, off, c, rfl, h1, h2, Nat.lt_of_lt_of_le h3 ho.size, fun i hi => ?_⟩
    rw [cell_of_heap (ho.block b h3 (h.2 b off _ c rfl h1))]
    exact h4 i hi
theorem OneD.cellsX {w w1 : World} {d m c B ms mc : Nat} {F : Int → Option Value} {G : Nat → Prop} {s s1 : DSt} (ho : OneD w w1 d) (h : DRepX w d m c B ms mc F G s) (hb : Blk w1 d 55 (dArr s1 m c)) (hw : DWf s1) (h1 : s1.nb = s.nb) (h2 : s1.sz = s.sz) (h3 : s1.dur = s.dur) (h4 : s1.sp = s.sp) (h5 : s1.ca = s.ca) : DRepX w1 d m c B ms mc F G s1 :=
  h.cells w1 s1 hb ho.2.2.2.2 ho.2.2.2.1 hw h1 h2 h3 h4 h5
theorem DRepX.rep {O : Nat → Prop} {w w1 : World} {d m c B ms mc : Nat} {F : Int → Option Value} {G G' : Nat → Prop} {s : DSt} (h : DRepX w1 d m c B ms mc F G' s) (hO : ∀ b, ownD d m c B ms mc G b → O b) (hl : ∀ b, O b → b < w.heap.size) (ho : OnlyP O w w1) (hG : ∀ b, G' b → G b ∨ w.heap.size ≤ b) : DStep O w w1 d s := by
  refine ⟨ho, fun b => O b ∨ (w.heap.size ≤ b ∧ G' b), ⟨m, c, B, ms, mc, F, G', h, fun b hb => ?_, fun b hb => ?_⟩, fun b hb => hb.elim .inl (fun h => .inr h.1)⟩
  · rcases hb with e | e | e | e | e | e | hb
    · exact .inl (hO b (.inl e))
    · exact .inl (hO b (.inr (.inl e)))
    · exact .inl (hO b (.inr (.inr (.inl e))))
    · exact .inl (hO b (.inr (.inr (.inr (.inl e)))))
    · exact .inl (hO b (.inr (.inr (.inr (.inr (.inl e))))))
    · exact .inl (hO b (.inr (.inr (.inr (.inr (.inr (.inl e)))))))
    · rcases hG b hb with h1 | h1
      · exact .inl (hO b (.inr (.inr (.inr (.inr (.inr (.inr h1)))))))
      · exact .inr ⟨h1, hb⟩
  · rcases hb with hb | hb
    · exact Nat.lt_of_lt_of_le (hl b hb) ho.size
    · exact (h.apart b hb.2).1
noncomputable def writeE (s : DSt) (j : Int) (n : Nat) : Int := if wrE s j n ≠ 0 then wrE s j n else if stepB s = true then 0 else 22
def pushS (s : DSt) (k : Nat) (xs : List Int) : DSt := { s with ca := pushC s.ca k xs, c1 := IntKind.i64.wrap (s.c1 + 1) }
noncomputable def writeS (s : DSt) (j : Int) (xs : List Int) : DSt := if wrE s j xs.length ≠ 0 then s else if stepB s = true then pushS (stepS s) j.toNat xs else stepS s
def AnsQ (O : Nat → Prop) (w : World) (d : Nat) (s : DSt) (e0 j : Int) (e : Ending) (w' : World) : Prop := ∃ er, e = .returned er ∧ AnsE w.heap.size w' er e0 j ∧ DStep O w w' d s
theorem pushS_wf {s : DSt} {k : Nat} {xs : List Int} (h : DWf s) (hk : k < s.nb) (hl : xs.length = s.sz) : DWf (pushS s k xs) := by
  refine ⟨h.nb1, h.nb2, h.sz0, h.sz1, h.dl, fun i l hi => ?_, fun i hi => ?_, h.f0, h.f1⟩
  · have hi' : l ∈ pushC s.ca k xs i := hi
    unfold pushC at hi'
    split at hi'
    · rcases List.mem_append.1 hi' with hi | hi
      · exact h.cl k l hi
      · rw [List.mem_singleton.1 hi]; exact hl
    · exact h.cl i l hi'
  · show pushC s.ca k xs i = []
    have hi' : s.nb ≤ i := hi
    unfold pushC; rw [if_neg (by omega)]; exact h.cn i hi
theorem ref_ans {O : Nat → Prop} {w w1 w2 : World} {d : Nat} {s : DSt} {e0 j : Int} {e : Ending} (hq : RefQ w1 j e0 e w2) (h0 : e0 ≠ 0) (ho : OnlyP O w w1) (h : DRep O w1 d s) : AnsQ O w d s e0 j e w2 := by
  obtain ⟨b, rfl, hb, hblk, hbel⟩ := hq
  exact ⟨_, rfl, .inr ⟨b, rfl, Nat.le_trans ho.size hb, h0, hblk⟩, DStep.same (ho.trans (OnlyP.ofBelow hbel : OnlyP O w1 w2) (fun k hk => .inl hk)) (h.below hbel)⟩
end Go.Proofs.YtgehbfnfhjpjbaaDoor
