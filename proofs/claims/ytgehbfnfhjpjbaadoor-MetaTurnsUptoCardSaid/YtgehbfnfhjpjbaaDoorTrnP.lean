/- Superblocks written in turn: the plain law. -/
import Derived.Test.YtgehbfnfhjpjbaaDoorNewL
import Derived.Test.YtgehbfnfhjpjbaaDoorDisV
namespace Go.Proofs.YtgehbfnfhjpjbaaDoor
open Go.RowKit
set_option linter.unusedVariables false
set_option linter.unusedSimpArgs false
/-- The mark, brought between nothing and the number of blocks. -/
def mkN (bl x : Int) : Int := if Int.tmod x (bl + 1) < 0 then -Int.tmod x (bl + 1) else Int.tmod x (bl + 1)
theorem mkN_in (bl x : Int) (h : 1 ≤ bl) : 0 ≤ mkN bl x ∧ mkN bl x ≤ bl := by
  have h1 : Int.tmod x (bl + 1) < bl + 1 := Int.tmod_lt_of_pos x (by omega)
  have h2 : -(bl + 1) < Int.tmod x (bl + 1) := by
    have h3 : Int.tmod (-x) (bl + 1) < bl + 1 := Int.tmod_lt_of_pos (-x) (by omega)
    rw [Int.neg_tmod] at h3
    omega
  unfold mkN
  split <;> omega
def supI (f : Sup) (ms : List Int) (i : Nat) : Sup := { f with sq := f.sq + i, mr := mkN f.bl (ms.getD i 0) }
theorem supI_fits {f : Sup} {ms : List Int} {i : Nat} (h : Fits f) (hi : f.sq + i ≤ 4611686018427387904) : Fits (supI f ms i) := by
  obtain ⟨h1, h2, h3, h4, h5, h6, h7, h8, h9, h10⟩ := h
  obtain ⟨m1, m2⟩ := mkN_in f.bl (ms.getD i 0) h3
  exact ⟨by show 1 ≤ f.sq + i; omega, hi, h3, h4, h5, h6, h7, m1, m2, h10⟩
theorem supI_kinds {f : Sup} {ms : List Int} {i : Nat} (h : Kinds f) (hi : f.sq + i ≤ 4611686018427387904) : Kinds (supI f ms i) := by
  obtain ⟨h1, h2⟩ := h
  exact ⟨⟨by show 0 ≤ f.sq + i; omega, by show f.sq + i < 18446744073709551616; omega⟩, h2⟩
/-- The durable bytes behind n writes in turn. -/
def durT (g : Nat → List Int) (sz : Nat) : Nat → Nat → List Int
  | 0, _ => List.replicate sz 0
  | n + 1, k => layD (durT g sz n) (n % 2) (g n) k
theorem durT_one (g : Nat → List Int) (sz n : Nat) : durT g sz (n + 1) (n % 2) = g n := by simp [durT, layD]
theorem durT_two (g : Nat → List Int) (sz n : Nat) : durT g sz (n + 2) (n % 2) = g n := by
  have : ¬ n % 2 = (n + 1) % 2 := by omega
  simp [durT, layD, this]
def nD (steps : Int) (i : Nat) : Nat := if steps < 0 then i else min i steps.toNat
structure TInv (g : Nat → List Int) (sz : Nat) (steps : Int) (i : Nat) (s : DSt) : Prop where
  nb : s.nb = 2
  hsz : s.sz = sz
  ca : s.ca = fun _ => []
  sp : s.sp = fun _ => false
  dur : s.dur = durT g sz (nD steps i)
  p0 : steps < 0 → s.off = false ∧ s.fused = false
  p1 : 0 ≤ steps → s.fused = true ∧ ((i : Int) ≤ steps → s.off = false ∧ s.fuse = steps - i) ∧ (steps < i → s.off = true)
theorem TInv.start (g : Nat → List Int) (sz : Nat) (steps : Int) : TInv g sz steps 0 (fuseS (newS 2 sz) steps) := by
  refine ⟨rfl, rfl, rfl, rfl, ?_, fun h => ⟨rfl, ?_⟩, fun h => ⟨?_, fun h2 => ⟨rfl, ?_⟩, fun h2 => ?_⟩⟩
  · show (fun _ => List.replicate sz 0) = durT g sz (nD steps 0)
    have : nD steps 0 = 0 := by unfold nD; split <;> simp
    rw [this]; rfl
  · show decide (0 ≤ steps) = false
    exact decide_eq_false (by omega)
  · show decide (0 ≤ steps) = true
    exact decide_eq_true h
  · show max steps 0 = steps - ((0 : Nat) : Int)
    omega
  · omega
theorem par_in (s : DSt) (i : Nat) (h : s.nb = 2) : s.inr ((i % 2 : Nat) : Int) := ⟨by omega, by rw [h]; omega⟩
theorem TInv.step {g : Nat → List Int} {sz : Nat} {steps : Int} {i : Nat} {s : DSt} (h : TInv g sz steps i s) (hg : (g i).length = sz) :
    TInv g sz steps (i + 1) (throughS s ((i % 2 : Nat) : Int) (g i)) ∧ writeE s ((i % 2 : Nat) : Int) (g i).length = if steps < 0 ∨ (i : Int) < steps then 0 else 22 := by
  have hw : wrE s ((i % 2 : Nat) : Int) (g i).length = 0 := by
    unfold wrE
    rw [if_pos (par_in s i h.nb), if_pos (by rw [hg, h.hsz])]
  have hdrop : ∀ k, dropC (fun _ => ([] : List (List Int))) k = fun _ => [] := fun k => by funext i; unfold dropC; split <;> rfl
  have hclr : ∀ k, clrS (fun _ => false) k = fun _ => false := fun k => by funext i; unfold clrS; split <;> rfl
  have htn : ((i % 2 : Nat) : Int).toNat = i % 2 := by omega
  unfold throughS writeE
  rw [hw]
  simp only [ne_eq, not_true_eq_false, if_false, htn]
  by_cases hs : steps < 0
  · obtain ⟨p1, p2⟩ := h.p0 hs
    have hb : stepB s = true := by unfold stepB; rw [p1, p2]; rfl
    have hst : stepS s = s := by unfold stepS; rw [p1, p2]; rfl
    rw [hb, hst, if_pos rfl, if_pos rfl, if_pos (.inl hs)]
    refine ⟨⟨h.nb, h.hsz, ?_, ?_, ?_, fun _ => ⟨p1, p2⟩, fun h0 => by omega⟩, rfl⟩
    · show dropC s.ca (i % 2) = _
      rw [h.ca, hdrop]
    · show clrS s.sp (i % 2) = _
      rw [h.sp, hclr]
    · show layD s.dur (i % 2) (g i) = _
      have e1 : nD steps i = i := by unfold nD; rw [if_pos hs]
      have e2 : nD steps (i + 1) = i + 1 := by unfold nD; rw [if_pos hs]
      rw [h.dur, e1, e2]; rfl
  · obtain ⟨p1, p2, p3⟩ := h.p1 (by omega)
    by_cases hi : (i : Int) < steps
    · obtain ⟨q1, q2⟩ := p2 (by omega)
      have hf : ¬ s.fuse = 0 := by rw [q2]; omega
      have hb : stepB s = true := by unfold stepB; rw [q1, p1]; simp [hf]
      have hst : stepS s = { s with fuse := s.fuse - 1 } := by unfold stepS; rw [q1, p1]; simp [hf]
      rw [hb, hst, if_pos rfl, if_pos rfl, if_pos (.inr hi)]
      refine ⟨⟨h.nb, h.hsz, ?_, ?_, ?_, fun h0 => by omega, fun h0 => ⟨p1, fun h2 => ⟨q1, ?_⟩, fun h2 => by omega⟩⟩, rfl⟩
      · show dropC s.ca (i % 2) = _
        rw [h.ca, hdrop]
      · show clrS s.sp (i % 2) = _
        rw [h.sp, hclr]
      · show layD s.dur (i % 2) (g i) = _
        have e1 : nD steps i = i := by unfold nD; rw [if_neg hs]; omega
        have e2 : nD steps (i + 1) = i + 1 := by unfold nD; rw [if_neg hs]; omega
        rw [h.dur, e1, e2]; rfl
      · show s.fuse - 1 = _
        rw [q2]; omega
    · have hnd : nD steps (i + 1) = nD steps i := by unfold nD; rw [if_neg hs, if_neg hs]; omega
      by_cases he : (i : Int) = steps
      · obtain ⟨q1, q2⟩ := p2 (by omega)
        have hf : s.fuse = 0 := by rw [q2]; omega
        have hb : stepB s = false := by unfold stepB; rw [q1, p1]; simp [hf]
        have hst : stepS s = { s with off := true } := by unfold stepS; rw [q1, p1]; simp [hf]
        rw [hb, hst, if_neg (by decide), if_neg (by decide), if_neg (by omega)]
        exact ⟨⟨h.nb, h.hsz, h.ca, h.sp, by rw [hnd]; exact h.dur, fun h0 => by omega, fun h0 => ⟨p1, fun h2 => by omega, fun h2 => rfl⟩⟩, rfl⟩
      · have q1 := p3 (by omega)
        have hb : stepB s = false := by unfold stepB; rw [q1]; rfl
        have hst : stepS s = s := by unfold stepS; rw [q1]; rfl
        rw [hb, hst, if_neg (by decide), if_neg (by decide), if_neg (by omega)]
        exact ⟨⟨h.nb, h.hsz, h.ca, h.sp, by rw [hnd]; exact h.dur, fun h0 => by omega, fun h0 => ⟨p1, fun h2 => by omega, fun h2 => q1⟩⟩, rfl⟩
theorem TInv.crash {g : Nat → List Int} {sz : Nat} {steps : Int} {i : Nat} {s : DSt} (h : TInv g sz steps i s) (ps : List Int) : crashS s ps = { s with off := false, fused := false } := by
  have hk : ∀ k, s.ca k = [] → keepK s ps k = 0 := fun k hk => by
    have := keepP_le ps k 0
    unfold keepK
    rw [hk, List.length_nil]
    omega
  have h1 : allS s (keepK s ps) = s := stS_start s (keepK s ps) (fun _ => false) (fun k _ => by rw [h.ca]) hk
  unfold crashS
  rw [h1]
/-- What the two slots tell behind n writes, the newest one spoilt or not. -/
def slotT (g : Nat → List Int) (sz N : Nat) (sp : Bool) (k : Nat) : List Int := if sp = true ∧ 0 < N ∧ k = (N - 1) % 2 then [] else durT g sz N k
def leftT (N : Nat) (sp : Bool) : Nat := if sp = true ∧ 0 < N then N - 1 else N
theorem turns_pure (U : List Int → Sup × Int) (g : Nat → List Int) (h : Nat → Sup) (sz N : Nat) (sp : Bool) (hu : ∀ j, j < N → U (g j) = (h j, 0)) (hz : (U (List.replicate sz 0)).2 ≠ 0) (h0 : (U []).2 ≠ 0) (hq : ∀ j, (h (j + 1)).sq = (h j).sq + 1) :
    if leftT N sp = 0 then (chF (U (slotT g sz N sp 0)) (U (slotT g sz N sp 1))).2.2 ≠ 0 else chF (U (slotT g sz N sp 0)) (U (slotT g sz N sp 1)) = (h (leftT N sp - 1), (((leftT N sp - 1) % 2 : Nat) : Int), 0) := by
  have hboth : ∀ a b : Sup × Int, a.2 ≠ 0 → b.2 ≠ 0 → (chF a b).2.2 ≠ 0 := fun a b ha hb => by unfold chF; rw [if_pos ⟨ha, hb⟩]; decide
  have hfst : ∀ (a b : Sup × Int), a.2 = 0 → b.2 ≠ 0 → chF a b = (a.1, 0, 0) := fun a b ha hb => by unfold chF; rw [if_neg (fun hc => hc.1 ha), if_neg (fun hc => hc ha), if_pos (.inl hb)]
  have hsnd : ∀ (a b : Sup × Int), a.2 ≠ 0 → b.2 = 0 → chF a b = (b.1, 1, 0) := fun a b ha hb => by unfold chF; rw [if_neg (fun hc => hc.2 hb), if_pos ha]
  have hgt : ∀ (a b : Sup × Int), a.2 = 0 → b.2 = 0 → a.1.sq < b.1.sq → chF a b = (b.1, 1, 0) := fun a b ha hb hl => by unfold chF; rw [if_neg (fun hc => hc.1 ha), if_neg (fun hc => hc ha), if_neg (fun hc => hc.elim (fun h => h hb) (fun h => by omega))]
  have hge : ∀ (a b : Sup × Int), a.2 = 0 → b.2 = 0 → b.1.sq ≤ a.1.sq → chF a b = (a.1, 0, 0) := fun a b ha hb hl => by unfold chF; rw [if_neg (fun hc => hc.1 ha), if_neg (fun hc => hc ha), if_pos (.inr hl)]
  by_cases hs : sp = true ∧ 0 < N
  · have hl : leftT N sp = N - 1 := by unfold leftT; rw [if_pos hs]
    obtain ⟨m, rfl⟩ : ∃ m, N = m + 1 := ⟨N - 1, by omega⟩
    rw [hl, Nat.add_sub_cancel]
    have hslot : ∀ k, slotT g sz (m + 1) sp k = if k = m % 2 then [] else durT g sz (m + 1) k := fun k => by
      unfold slotT
      rw [Nat.add_sub_cancel]
      by_cases e : k = m % 2
      · rw [if_pos ⟨hs.1, hs.2, e⟩, if_pos e]
      · rw [if_neg (fun hc => e hc.2.2), if_neg e]
    rcases Nat.eq_zero_or_pos m with rfl | hm
    · rw [if_pos rfl, hslot, hslot, if_pos rfl, if_neg (by decide)]
      exact hboth _ _ h0 (by simpa [durT, layD] using hz)
    · obtain ⟨q, rfl⟩ : ∃ q, m = q + 1 := ⟨m - 1, by omega⟩
      rw [if_neg (by omega), Nat.add_sub_cancel, hslot, hslot]
      have hu1 := hu q (by omega)
      have h2 := durT_two g sz q
      rcases (by omega : q % 2 = 0 ∨ q % 2 = 1) with hp | hp
      · rw [if_neg (by omega), if_pos (by omega)]
        rw [hp] at h2
        rw [h2, hu1, hp, hfst _ _ rfl h0]; rfl
      · rw [if_pos (by omega), if_neg (by omega)]
        rw [hp] at h2
        rw [h2, hu1, hp, hsnd _ _ h0 rfl]; rfl
  · have hl : leftT N sp = N := by unfold leftT; rw [if_neg hs]
    have hslot : ∀ k, slotT g sz N sp k = durT g sz N k := fun k => by unfold slotT; rw [if_neg (fun hc => hs ⟨hc.1, hc.2.1⟩)]
    rw [hl, hslot, hslot]
    rcases (by omega : N = 0 ∨ N = 1 ∨ 2 ≤ N) with rfl | rfl | h2
    · rw [if_pos rfl]; exact hboth _ _ hz hz
    · rw [if_neg (by decide)]
      have hu0 := hu 0 (by decide)
      have e0 : durT g sz 1 0 = g 0 := by simp [durT, layD]
      have e1 : durT g sz 1 1 = List.replicate sz 0 := by simp [durT, layD]
      rw [e0, e1, hu0, hfst _ _ rfl hz]; rfl
    · obtain ⟨m, rfl⟩ : ∃ m, N = m + 2 := ⟨N - 2, by omega⟩
      rw [if_neg (by omega), show m + 2 - 1 = m + 1 by omega]
      have hu1 := hu m (by omega)
      have hu2 := hu (m + 1) (by omega)
      have d1 := durT_one g sz (m + 1)
      have d2 := durT_two g sz m
      have hsq := hq m
      rcases (by omega : m % 2 = 0 ∨ m % 2 = 1) with hp | hp
      · rw [show (m + 1) % 2 = 1 by omega] at d1 ⊢
        rw [hp] at d2
        rw [d1, d2, hu1, hu2, hgt _ _ rfl rfl (by show (h m).sq < (h (m + 1)).sq; omega)]; rfl
      · rw [show (m + 1) % 2 = 0 by omega] at d1 ⊢
        rw [hp] at d2
        rw [d1, d2, hu1, hu2, hge _ _ rfl rfl (by show (h m).sq ≤ (h (m + 1)).sq; omega)]; rfl
theorem seal_head (K : Nat → Int) (S : St) (s : Sup) : (sealL K S s).head? = some 82 := by simp [sealL, headL, fieldsL, lettersL]
theorem unF_no (K : Nat → Int) (S : St) (xs : List Int) (hb : Bytes xs) (h : xs.head? ≠ some 82) : (unF K S xs).2 ≠ 0 := by
  intro h2
  obtain ⟨_, _, e⟩ := unF_ok K S xs (unF K S xs).1 hb (by rw [← h2])
  exact h (by rw [e]; exact seal_head K S _)
theorem unF_zeros (K : Nat → Int) (S : St) (sz : Nat) : (unF K S (List.replicate sz 0)).2 ≠ 0 := by
  refine unF_no K S _ (fun x hx => by rw [List.eq_of_mem_replicate hx]; omega) (fun h => ?_)
  cases sz with
  | zero => simp at h
  | succ n => simp [List.replicate_succ] at h
theorem unF_nil (K : Nat → Int) (S : St) : (unF K S []).2 ≠ 0 := unF_no K S [] (fun x hx => by simp at hx) (by simp)
theorem slotT_bytes {K : Nat → Int} {S : St} (f : Nat → Sup) (sz : Nat) (sp : Bool) (k : Nat) : ∀ N, Bytes (slotT (fun j => sealL K S (f j)) sz N sp k) := by
  have hd : ∀ n, Bytes (durT (fun j => sealL K S (f j)) sz n k) := by
    intro n
    induction n with
    | zero => intro x hx; rw [List.eq_of_mem_replicate hx]; omega
    | succ n ih =>
      intro x hx
      unfold durT layD at hx
      split at hx
      · exact sealL_bytes K S _ x hx
      · exact ih x hx
  intro N x hx
  unfold slotT at hx
  split at hx
  · simp at hx
  · exact hd N x hx
end Go.Proofs.YtgehbfnfhjpjbaaDoor
