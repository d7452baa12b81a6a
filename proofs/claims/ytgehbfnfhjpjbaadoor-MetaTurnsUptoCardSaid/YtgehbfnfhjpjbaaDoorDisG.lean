/- A disk in the world: a write more in the cache; a block forgotten; a block laid down. -/
import Derived.Test.YtgehbfnfhjpjbaaDoorDisF
namespace Go.Proofs.YtgehbfnfhjpjbaaDoor
open Go.RowKit
open Go.ChangeMaps
set_option linter.unusedVariables false
set_option linter.unusedSimpArgs false
def pushC (f : Nat → List (List Int)) (k : Nat) (xs : List Int) (i : Nat) : List (List Int) := if i = k then f k ++ [xs] else f i
def dropC (f : Nat → List (List Int)) (k : Nat) (i : Nat) : List (List Int) := if i = k then [] else f i
def layD (f : Nat → List Int) (k : Nat) (xs : List Int) (i : Nat) : List Int := if i = k then xs else f i
def clrS (f : Nat → Bool) (k : Nat) (i : Nat) : Bool := if i = k then false else f i
theorem WrR.keep' {G G' : Nat → Prop} {w w1 : World} {sz : Nat} {v : Value} {ls : List (List Int)} {g : Nat} (h : WrR G w sz v ls g) (hk : ∀ b, G b → (b = g ∨ ¬ ∃ cs, Blk w b 29 cs) → w1.heap[b]? = w.heap[b]?) (hG : ∀ b, G b → G' b) : WrR G' w1 sz v ls g := by
  obtain ⟨cap, vs, rfl, h0, hg, ho, hl⟩ := h
  refine ⟨cap, vs, rfl, h0, hG g hg, own_keep ho (hk g hg (.inl rfl)), fun i hi => ?_⟩
  obtain ⟨h, h1, h2, h3⟩ := hl i hi
  exact ⟨h, h1, hG h h2, h3.keep (hk h h2 (.inr fun ⟨cs, hb⟩ => h3.ne_blk hb (by decide) rfl))⟩
/-- What the cache's map holds at a block, as lay wants it. -/
theorem CaR.at {G : Nat → Prop} {w : World} {s : DSt} {F : Int → Option Value} (h : CaR G w s F) (k : Nat) : ∃ ov vs, (F k).getD (.slice none 0 0) = ov ∧ w.ownsRow 0 29 1 ov (s.ca k).length vs ∧ (∀ i, i < (s.ca k).length → ∃ b, vs[i]? = some (.slice (some ⟨b, 0, none⟩) s.sz s.sz) ∧ G b ∧ RowA .u8 5 w b s.sz (fun t => ((s.ca k).getD i []).getD t 0)) ∧
    ((F k = none ∧ ov = .slice none 0 0) ∨ (F k = some ov ∧ ∃ g, ov.ownBlock = some g ∧ G g)) := by
  cases hF : F k with
  | none =>
    have := h.no k hF
    refine ⟨_, [], rfl, ?_, fun i hi => ?_, .inl ⟨rfl, rfl⟩⟩
    · rw [this]; exact ⟨rfl, .inl ⟨rfl, rfl⟩⟩
    · rw [this] at hi; simp at hi
  | some v =>
    obtain ⟨_, _, g, cap, vs, hv, h0, hg, ho, hl⟩ := h.yes k v hF
    rw [show ((k : Int)).toNat = k by omega] at ho hl h0 hv
    refine ⟨v, vs, rfl, ho, hl, .inr ⟨rfl, g, by rw [hv]; rfl, hg⟩⟩
/-- A write more. -/
theorem DRepX.push {w w1 : World} {d m c B ms mc k n : Nat} {F : Int → Option Value} {G : Nat → Prop} {s : DSt} {ov : Value} {vs : List Value} {xs : List Int} {e : Ending} (h : DRepX w d m c B ms mc F G s) (hk : k < s.nb) (hl : xs.length = s.sz)
    (hov : (F k).getD (.slice none 0 0) = ov) (hn : n = (s.ca k).length) (hvs : ∀ i, i < (s.ca k).length → ∃ b, vs[i]? = some (.slice (some ⟨b, 0, none⟩) s.sz s.sz) ∧ G b ∧ RowA .u8 5 w b s.sz (fun t => ((s.ca k).getD i []).getD t 0)) (hvl : vs.length = n)
    (hcase : (F k = none ∧ ov = .slice none 0 0) ∨ (F k = some ov ∧ ∃ g, ov.ownBlock = some g ∧ G g)) (hown : w.ownsRow 0 29 1 ov n vs)
    (hq : ClayQ w c mc k F ov n vs xs e w1) : ∃ F' G', DRepX w1 d m c B ms mc F' G' { s with ca := pushC s.ca k xs } ∧ (∀ b, G' b → G b ∨ w.heap.size ≤ b) ∧ (∀ b, G b → G' b) ∧ OnlyP (ownD d m c B ms mc G) w w1 := by
  obtain ⟨_, g, cap, ho, hg, hgn, hrow, hcac, honly⟩ := hq
  have hlt1 := hrow.lt
  have hgl : g < w1.heap.size := by obtain ⟨cur, hb⟩ := own_block ho g rfl; exact hb.lt
  have hovG : ∀ b, ov.ownBlock = some b → G b := fun b hb => by
    rcases hcase with ⟨_, h2⟩ | ⟨_, g', h2, h3⟩
    · rw [h2] at hb; simp [Value.ownBlock] at hb
    · rw [h2] at hb; cases hb; exact h3
  have hovB : ∀ b, ov.ownBlock = some b → ∃ cs, Blk w b 29 cs := fun b hb => own_block hown b hb
  have hmid : ∀ b, b = d ∨ b = m ∨ b = c ∨ b = B ∨ b = ms → w1.heap[b]? = w.heap[b]? := fun b hb => by
    have hlt : b < w.heap.size := by
      rcases hb with rfl | rfl | rfl | rfl | rfl
      · exact h.blk.lt
      · exact h.med.blk.lt
      · exact h.cac.blk.lt
      · exact h.med.row.lt
      · exact h.med.map.lt
    refine honly.block b hlt fun hc => ?_
    rcases hc with hc | hc
    · subst hc
      rcases hb with rfl | rfl | rfl | rfl | rfl
      · exact h.blk.ne_map h.cac.map rfl
      · exact h.med.blk.ne_map h.cac.map rfl
      · exact h.cac.blk.ne_map h.cac.map rfl
      · exact h.med.row.ne_map h.cac.map rfl
      · exact h.ne rfl
    · obtain ⟨_, a1, a2, a3, a4, a5, a6⟩ := h.apart b (hovG b hc.symm)
      rcases hb with e | e | e | e | e
      · exact a1 e
      · exact a2 e
      · exact a3 e
      · exact a4 e
      · exact a5 e
  have hG1 : ∀ b, G b → (¬ ∃ cs, Blk w b 29 cs) ∨ ov.ownBlock ≠ some b → w1.heap[b]? = w.heap[b]? := fun b hb hc => by
    refine honly.block b (h.apart b hb).1 fun he => ?_
    rcases he with he | he
    · exact (h.apart b hb).2.2.2.2.2.2 he
    · rcases hc with hc | hc
      · exact hc (hovB b he.symm)
      · exact hc he.symm
  refine ⟨_, fun b => G b ∨ b = g ∨ b = w.heap.size, ⟨?_, (hmid d (.inl rfl)).trans h.blk, h.med.keep (hmid m (.inr (.inl rfl))) (hmid B (.inr (.inr (.inr (.inl rfl))))) (hmid ms (.inr (.inr (.inr (.inr rfl))))), hcac, ⟨?_, ?_, ?_⟩, h.ne, ?_⟩, ?_, fun b hb => .inl hb, ?_⟩
  · refine ⟨h.wf.nb1, h.wf.nb2, h.wf.sz0, h.wf.sz1, h.wf.dl, fun i l hi => ?_, fun i hi => ?_, h.wf.f0, h.wf.f1⟩
    · simp only [pushC] at hi
      split at hi
      · rcases List.mem_append.1 hi with hi | hi
        · exact h.wf.cl k l hi
        · rw [List.mem_singleton.1 hi]; exact hl
      · exact h.wf.cl i l hi
    · show pushC s.ca k xs i = []
      have hi' : s.nb ≤ i := hi
      unfold pushC; rw [if_neg (by omega)]; exact h.wf.cn i hi
  · intro i hi
    show pushC s.ca k xs i = []
    unfold updI at hi
    by_cases e : i = k
    · subst e; rw [if_pos rfl] at hi; cases hi
    · rw [if_neg (by omega)] at hi
      unfold pushC; rw [if_neg e]; exact h.car.no i hi
  · intro j v hj
    show 0 ≤ j ∧ j < s.nb ∧ ∃ g0, WrR _ w1 s.sz v (pushC s.ca k xs j.toNat) g0
    unfold updI at hj
    by_cases e : j = k
    · subst e
      rw [if_pos rfl] at hj
      cases hj
      refine ⟨by omega, by omega, g, cap, vs ++ [.slice (some ⟨w.heap.size, 0, none⟩) xs.length xs.length], ?_, ?_, .inr (.inl rfl), ?_, fun i hi => ?_⟩
      · rw [show ((k : Int)).toNat = k by omega]; unfold pushC; rw [if_pos rfl, List.length_append, ← hn]; rfl
      · rw [show ((k : Int)).toNat = k by omega]; unfold pushC; rw [if_pos rfl, List.length_append]; simp
      · rw [show ((k : Int)).toNat = k by omega]; unfold pushC; rw [if_pos rfl, List.length_append, ← hn]; exact ho
      · rw [show ((k : Int)).toNat = k by omega] at hi ⊢
        unfold pushC at hi ⊢
        rw [if_pos rfl] at hi ⊢
        rw [List.length_append, ← hn] at hi
        by_cases hi2 : i < n
        · obtain ⟨b, b1, b2, b3⟩ := hvs i (by omega)
          refine ⟨b, by rw [List.getElem?_append_left (by omega)]; exact b1, .inl b2, ?_⟩
          rw [List.getD_eq_getElem?_getD, List.getElem?_append_left (by omega), ← List.getD_eq_getElem?_getD]
          exact b3.keep (hG1 b b2 (.inl fun ⟨cs, hb⟩ => b3.ne_blk hb (by decide) rfl))
        · have hin : i = n := by simp at hi; omega
          subst hin
          refine ⟨w.heap.size, ?_, .inr (.inr rfl), ?_⟩
          · rw [List.getElem?_append_right (by omega), hvl, Nat.sub_self, hl]; rfl
          · rw [List.getD_eq_getElem?_getD, List.getElem?_append_right (by omega), ← hn, Nat.sub_self]
            rw [hl] at hrow
            exact hrow
    · rw [if_neg e] at hj
      obtain ⟨a1, a2, g0, hw⟩ := h.car.yes j v hj
      have hg0 : G g0 := by obtain ⟨_, _, _, _, hg, _⟩ := hw; exact hg
      have hvo : v.ownBlock = some g0 := by obtain ⟨_, _, e, _⟩ := hw; rw [e]; rfl
      refine ⟨a1, a2, g0, ?_⟩
      unfold pushC
      rw [if_neg (by omega)]
      refine hw.keep' (fun b hb hc => hG1 b hb ?_) (fun b hb => .inl hb)
      rcases hc with rfl | hc
      · right
        intro ho2
        rcases hcase with ⟨_, h2⟩ | ⟨h2, _⟩
        · rw [h2] at ho2; simp [Value.ownBlock] at ho2
        · exact e (h.car.inj j k v ov b hj h2 hvo ho2)
      · exact .inl hc
  · intro i j u v g0 hi hj hu hv
    unfold updI at hi hj
    have key : ∀ i u, F i = some u → i ≠ k → u.ownBlock = some g → False := fun i u hi hne hu => by
      obtain ⟨_, _, g1, _, _, e1, _, hg1, _⟩ := h.car.yes i u hi
      rw [e1] at hu
      simp only [Value.ownBlock, Option.some.injEq] at hu
      rcases hg with hg | hg
      · rcases hcase with ⟨_, h2⟩ | ⟨h2, _⟩
        · rw [h2] at hg; simp [Value.ownBlock] at hg
        · exact hne (h.car.inj i k u ov g hi h2 (by rw [e1]; simp [Value.ownBlock, hu]) hg)
      · have := (h.apart g1 hg1).1; omega
    by_cases e1 : i = k
    · by_cases e2 : j = k
      · rw [e1, e2]
      · rw [if_pos e1] at hi; rw [if_neg e2] at hj
        cases hi
        simp only [Value.ownBlock, Option.some.injEq] at hu
        exact (key j v hj e2 (by rw [hu]; exact hv)).elim
    · rw [if_neg e1] at hi
      by_cases e2 : j = k
      · rw [if_pos e2] at hj
        cases hj
        simp only [Value.ownBlock, Option.some.injEq] at hv
        exact (key i u hi e1 (by rw [hv]; exact hu)).elim
      · rw [if_neg e2] at hj
        exact h.car.inj i j u v g0 hi hj hu hv
  · intro b hb
    have old : ∀ b', w.heap.size ≤ b' → b' < w1.heap.size → b' < w1.heap.size ∧ b' ≠ d ∧ b' ≠ m ∧ b' ≠ c ∧ b' ≠ B ∧ b' ≠ ms ∧ b' ≠ mc := fun b' h1 h2 => by
      have l1 := h.blk.lt
      have l2 := h.med.blk.lt
      have l3 := h.cac.blk.lt
      have l4 := h.med.row.lt
      have l5 := h.med.map.lt
      have l6 := h.cac.map.lt
      exact ⟨h2, by omega, by omega, by omega, by omega, by omega, by omega⟩
    rcases hb with hb | rfl | rfl
    · obtain ⟨a, r⟩ := h.apart b hb; exact ⟨Nat.lt_of_lt_of_le a honly.size, r⟩
    · rcases hg with hg | hg
      · obtain ⟨a, r⟩ := h.apart b (hovG b hg); exact ⟨Nat.lt_of_lt_of_le a honly.size, r⟩
      · exact old b hg hgl
    · exact old _ (Nat.le_refl _) hlt1
  · intro b hb
    rcases hb with hb | rfl | rfl
    · exact .inl hb
    · rcases hg with hg | hg
      · exact .inl (hovG b hg)
      · exact .inr hg
    · exact .inr (Nat.le_refl _)
  · refine honly.mono fun b hb => ?_
    rcases hb with rfl | hb
    · exact .inr (.inr (.inr (.inr (.inr (.inl rfl)))))
    · exact .inr (.inr (.inr (.inr (.inr (.inr (hovG b hb.symm))))))
/-- A block's cached writes forgotten. -/
theorem CaR.drop {G : Nat → Prop} {w : World} {s : DSt} {F : Int → Option Value} (h : CaR G w s F) (k : Nat) (s1 : DSt) (h1 : s1.nb = s.nb) (h2 : s1.sz = s.sz) (h3 : s1.ca = dropC s.ca k) : CaR G w s1 (updI F k none) := by
  refine ⟨fun i hi => ?_, fun j v hj => ?_, fun i j u v g hi hj hu hv => ?_⟩
  · rw [h3]; unfold dropC
    unfold updI at hi
    by_cases e : i = k
    · rw [if_pos e]
    · rw [if_neg e]; rw [if_neg (by omega)] at hi; exact h.no i hi
  · unfold updI at hj
    by_cases e : j = k
    · rw [if_pos e] at hj; cases hj
    · rw [if_neg e] at hj
      obtain ⟨a1, a2, g, hw⟩ := h.yes j v hj
      rw [h1, h2, h3]
      refine ⟨a1, a2, g, ?_⟩
      unfold dropC; rw [if_neg (by omega)]; exact hw
  · unfold updI at hi hj
    by_cases e1 : i = k
    · rw [if_pos e1] at hi; cases hi
    · by_cases e2 : j = k
      · rw [if_pos e2] at hj; cases hj
      · rw [if_neg e1] at hi; rw [if_neg e2] at hj
        exact h.inj i j u v g hi hj hu hv
theorem durF_lay (s s1 : DSt) (k : Nat) (xs : List Int) (hl : xs.length = s.sz) (h2 : s1.sz = s.sz) (h0 : 0 < s.sz) (h3 : s1.dur = layD s.dur k xs) (i : Nat) : layF (durF s) (k * s.sz) xs i = durF s1 i := by
  unfold layF durF
  rw [h2, h3]
  unfold layD
  have hdm := Nat.div_add_mod i s.sz
  have hmod := Nat.mod_lt i h0
  by_cases e : i / s.sz = k
  · rw [if_pos e]
    have hk : k * s.sz = s.sz * (i / s.sz) := by rw [e, Nat.mul_comm]
    rw [if_pos (by rw [hl]; omega)]
    congr 1
    omega
  · rw [if_neg e, if_neg ?_]
    rintro ⟨a, b⟩
    rw [hl] at b
    apply e
    have : k ≤ i / s.sz := (Nat.le_div_iff_mul_le h0).2 a
    have : i / s.sz < k + 1 := (Nat.div_lt_iff_lt_mul h0).2 (by rw [Nat.add_mul, Nat.one_mul]; exact b)
    omega
theorem spF_clr (s s1 : DSt) (k : Nat) (h1 : s1.nb = s.nb) (h3 : s1.sp = clrS s.sp k) (j : Int) : updI (spF s) k none j = spF s1 j := by
  unfold updI spF
  rw [h1, h3]
  unfold clrS
  by_cases e : j = k
  · rw [if_pos e, if_neg]
    rintro ⟨_, _, h⟩
    rw [if_pos (by omega)] at h
    cases h
  · rw [if_neg e]
    by_cases h0 : 0 ≤ j
    · rw [if_neg (show ¬ j.toNat = k by omega)]
    · rw [if_neg (fun h => h0 h.1), if_neg (fun h => h0 h.1)]
theorem MedR.laid {w : World} {m B ms : Nat} {s s1 : DSt} {k : Nat} {xs : List Int} (h : MedR w m B ms s.nb s.sz (layF (durF s) (k * s.sz) xs) (updI (spF s) k none)) (hl : xs.length = s.sz) (h0 : 0 < s.sz) (h1 : s1.nb = s.nb) (h2 : s1.sz = s.sz) (h3 : s1.dur = layD s.dur k xs) (h4 : s1.sp = clrS s.sp k) : MedR w m B ms s1.nb s1.sz (durF s1) (spF s1) := by
  rw [h1, h2]
  exact ⟨h.blk, h.row.congr (fun i _ => durF_lay s s1 k xs hl h2 h0 h3 i), h.map.congr (fun j => (spF_clr s s1 k h1 h4 j).symm)⟩
end Go.Proofs.YtgehbfnfhjpjbaaDoor
