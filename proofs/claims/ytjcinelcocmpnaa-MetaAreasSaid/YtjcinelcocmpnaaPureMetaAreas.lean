/- For every i and size, meta.Area and the document's Area answer alike. No condition. -/
import Derived.Test.YtjcinelcocmpnaaPMetaAreasx1
namespace Go.Proofs.Ytjcinelcocmpnaa.Pure
open Go.RowKit Go.Proofs.Ytjcinelcocmpnaa.PMetaAreas Go.Proofs.YtjcinelcocmpnaaW.PrintWords Go.Proofs.YtjcinelcocmpnaaW.PrintLast

theorem sizes_same (a : Int) : meta_sized.f a = replicaref05_Sizes.f a := rfl
theorem sizes_some (a : Int) : meta_sized.f a = some (decide (a = 128 ∨ a = 256 ∨ a = 512 ∨ a = 1024)) := by
  unfold meta_sized.f
  by_cases h1 : a = 128
  · simp [h1]
  · by_cases h2 : a = 256
    · simp [h2]
    · by_cases h3 : a = 512
      · simp [h3]
      · simp [h1, h2, h3]; rw [Bool.eq_iff_iff]; simp

theorem MetaAreas : replicalaw05_MetaAreas.Pure := by
  intro a0 a1 _ _
  have hsame : replicaref05_Area.f a0 a1 = meta_Area.f a0 a1 := rfl
  have hsome : ∃ r, meta_Area.f a0 a1 = some r := by
    unfold meta_Area.f
    rw [sizes_some]
    simp only [Option.bind_some]
    by_cases h : a1 = 128 ∨ a1 = 256 ∨ a1 = 512 ∨ a1 = 1024
    · rw [if_pos (by simpa using h)]
      split
      · exact ⟨_, rfl⟩
      · split
        · exact ⟨_, rfl⟩
        · rw [if_neg (by unfold wrap64; omega)]; exact ⟨_, rfl⟩
    · rw [if_neg (by simpa using h)]; exact ⟨_, rfl⟩
  obtain ⟨r, hr⟩ := hsome
  unfold replicalaw05_MetaAreas.f
  rw [hsame, hr]
  simp

end Go.Proofs.Ytjcinelcocmpnaa.Pure
