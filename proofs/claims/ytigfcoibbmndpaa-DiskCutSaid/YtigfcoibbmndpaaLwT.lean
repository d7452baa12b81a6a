/- The first writing steps of a run: run. Printed by wip/tools/gen_run.py. -/
import Derived.Test.YtigfcoibbmndpaaLwS
import Derived.Outline
namespace Go.Proofs.Ytigfcoibbmndpaa
open Go.RowKit
open Go.ChangeMaps
set_option linter.unusedVariables false
set_option linter.unusedSimpArgs false
/-- The disk behind the first m writing steps of a run, and the error's number. -/
noncomputable def runR (s : DSt) (r : RunV) (m : Nat) : DSt × Int :=
  if r.kind = 1 then ((zeroR s (r.put.at s.nb) ((min (zerosN r s.nb) m : Nat) : Int)).1, (zeroR s (r.put.at s.nb) ((min (zerosN r s.nb) m : Nat) : Int)).2.1)
  else if m = 0 then (s, 0)
  else if r.kind = 2 then (flushS s, if stepB s = true then 0 else 22)
  else if r.put.past = true then (throughS s (r.put.at s.nb) (padF r.put.txt s.sz), writeE s (r.put.at s.nb) (padF r.put.txt s.sz).length)
  else (writeS s (r.put.at s.nb) (padF r.put.txt s.sz), writeE s (r.put.at s.nb) (padF r.put.txt s.sz).length)
def RunQ (O : Nat → Prop) (w : World) (d : Nat) (p : DSt × Int) (e : Ending) (w' : World) : Prop := e = .returned (.int .i64 p.2) ∧ DStep O w w' d p.1
set_option maxHeartbeats 2000000 in
set_option maxRecDepth 100000 in
theorem run_1a (O : Nat → Prop) (w : World) (d : Nat) (s : DSt) (r : RunV) (m : Nat) (h : DRep O w d s) (hr : RdN O w r.put.tv r.put.txt) (hln : r.put.txt.length ≤ 9223372036854775807) (hI : I64 r.len) (hcap : ∀ k, ((s.ca k).length + 1) * 24 ≤ 200000000000000) (hk : r.kind = 1) (hz : zerosN r s.nb ≤ m) :
    Calls Try.prog 27 #[r.agg, .pointer (some ⟨d, 0, none⟩), .int .i64 s.nb, .int .i64 s.sz, .int .i64 m] w (RunQ O w d (runR s r m)) := by
  have hwf := h.wf
  have n1 := hwf.nb1
  have n2 := hwf.nb2
  have n3 := hwf.sz1
  obtain ⟨A, cp, edv⟩ := hr.1.slice
  obtain ⟨Q, eQ⟩ : ∃ Q, Q = RunQ O w d (runR s r m) := ⟨_, rfl⟩
  rw [← eQ]
  have hrs : runR s r m = ((zeroR s (r.put.at s.nb) (zerosN r s.nb)).1, (zeroR s (r.put.at s.nb) (zerosN r s.nb)).2.1) := by unfold runR; rw [if_pos hk, Nat.min_eq_left (by omega)]
  rw [hrs] at eQ
  obtain ⟨K, eK⟩ : ∃ K, K = r.put.at s.nb := ⟨_, rfl⟩
  have hK : K < s.nb := by rw [eK]; exact r.put.at_lt n1
  (try rw [← eK] at eQ)
  have hZ : ∀ W, Below w.heap.size w W → Calls Try.prog 47 #[r.agg, .int .i64 s.nb] W fun e w' => e = .returned (.int .i64 (zerosN r s.nb)) ∧ Below W.heap.size W w' := fun W hW => zeros_ok W r s.nb n1 n2 (hr.1.below hW)
  have hbk : ∀ W, Calls Try.prog 15 #[r.put.agg, .int .i64 s.nb] W fun e w' => e = .returned (.int .i64 K) ∧ Below W.heap.size W w' := fun W => by
    have h := block_ok W r.put s.nb n1 n2
    rw [← eK] at h; exact h
  have hby : ∀ W, Below w.heap.size w W → Calls Try.prog 18 #[r.put.agg, .int .i64 s.sz] W (BytesQ W s.sz r.put.txt) := fun W hW => bytes_ok W r.put s.sz n3 (hr.1.below hW) hln
  obtain ⟨ZN, eZN⟩ : ∃ ZN, ZN = zerosN r s.nb := ⟨_, rfl⟩
  have hZN : ZN ≤ s.nb - K := by rw [eZN, eK]; exact Nat.min_le_right _ _
  rw [← eZN] at hZ
  (try rw [← eZN] at eQ)
  obtain ⟨L, eL⟩ : ∃ L, L = r.put.txt.length := ⟨_, rfl⟩
  rw [← eL] at edv
  unfold RunV.agg at hZ ⊢
  unfold PutV.agg at hbk hby
  rw [edv] at hZ hbk hby ⊢
  obtain ⟨xs, exs⟩ : ∃ xs, xs = padF r.put.txt s.sz := ⟨_, rfl⟩
  have hxl : xs.length = s.sz := by rw [exs]; exact padF_len _ _
  have hbq : ∀ W e w', BytesQ W s.sz r.put.txt e w' → ∃ B, e = .returned (.slice (some ⟨B, 0, none⟩) s.sz s.sz) ∧ W.heap.size ≤ B ∧ Rd .u8 w' (.slice (some ⟨B, 0, none⟩) s.sz s.sz) xs ∧ Below W.heap.size W w' := fun W e w' hq => by
    obtain ⟨B, h1, h2, h3, h4⟩ := hq
    have h5 := h3.rd (padF r.put.txt s.sz) s.sz (by rw [padF_len]; exact Nat.le_refl _) (by rw [padF_len]; exact Nat.le_refl _) (fun i hi => rfl)
    rw [padF_len, ← exs] at h5
    exact ⟨B, h1, h2, h5, h4⟩
  (try rw [← exs] at eQ)
  obtain ⟨kind, ⟨blk, tv, txt, past⟩, len⟩ := r
  dsimp only at hk hz hI eQ hZ hbk hby hbq
  obtain ⟨w1, e1⟩ : ∃ w1, w1 = w.alloc (.cells #[.int .i64 kind, .int .i64 blk, .slice A L cp, .bool past, .int .i64 len] 55) := ⟨_, rfl⟩
  have hb1 : Below w.heap.size w w1 := by rw [e1]; exact (Below.refl _ _).alloc (Nat.le_refl _) _
  have hs1 : w1.heap.size = w.heap.size + 1 := by rw [e1]; simp
  have hbl : ∀ W, Below w1.heap.size w1 W → W.cell? ⟨w.heap.size, 0, none⟩ = some (.int .i64 kind) ∧ W.cell? ⟨w.heap.size, 1, none⟩ = some (.int .i64 blk) ∧ W.cell? ⟨w.heap.size, 2, none⟩ = some (.slice A L cp) ∧ W.cell? ⟨w.heap.size, 3, none⟩ = some (.bool past) ∧ W.cell? ⟨w.heap.size, 4, none⟩ = some (.int .i64 len) := fun W hW => by
    have hb : Blk W w.heap.size 55 #[.int .i64 kind, .int .i64 blk, .slice A L cp, .bool past, .int .i64 len] := Blk.below (by rw [e1]; exact Blk.new _ _ _) hW (by omega)
    exact ⟨hb.cell 0, hb.cell 1, hb.cell 2, hb.cell 3, hb.cell 4⟩
  obtain ⟨NB, eNB⟩ : ∃ NB, NB = s.nb := ⟨_, rfl⟩
  obtain ⟨SZ, eSZ⟩ : ∃ SZ, SZ = s.sz := ⟨_, rfl⟩
  obtain ⟨p, ep⟩ : ∃ p : DSt × Int, p = ((zeroR s K ZN).1, (zeroR s K ZN).2.1) := ⟨_, rfl⟩
  have HFIN : Hid (∀ w2, DStep O w1 w2 d p.1 → Q (.returned (.int .i64 p.2)) w2) := Lib.hid (fun w2 h2 => by
    rw [eQ, ← ep]; exact ⟨rfl, DStep.comp (OnlyP.ofBelow hb1) (fun b hb => .inl hb) h2⟩)
  have HSAME : Hid (∀ W, Below w1.heap.size w1 W → DStep O w1 W d s) := Lib.hid (fun W hW => ⟨OnlyP.ofBelow hW, O, h.below (hb1.trans (hW.mono hb1.size)), fun b hb => .inl hb⟩)
  have HREP : Hid (∀ W, Below w1.heap.size w1 W → DRep O W d s) := Lib.hid (fun W hW => h.below (hb1.trans (hW.mono hb1.size)))
  have HNEW : Hid (∀ W B, Below w1.heap.size w1 W → W.heap.size ≤ B → ¬ O B) := Lib.hid (fun W B hW hB hO => by have := h.lt hO; have := hW.size; omega)
  have HBEL : Hid (∀ W, Below w1.heap.size w1 W → Below w.heap.size w W) := Lib.hid (fun W hW => hb1.trans (hW.mono hb1.size))
  have HCL := Lib.hid hbl
  have HZR := Lib.hid hZ
  have HBK := Lib.hid (hbk w1)
  have HBY := Lib.hid hby
  have HBQ := Lib.hid hbq
  have HXL := Lib.hid hxl
  have EP := Lib.hid ep
  have E1 := Lib.hid e1
  have HCAP := Lib.hid hcap
  have HCA2 : Hid (∀ k, (s.ca k).length ≤ 100000000000000) := Lib.hid (fun k => by have := hcap k; omega)
  subst hk
  rw [← eZN] at hz
  rw [← eNB] at n1 n2 hK hZN HZR HBK ⊢
  rw [← eSZ] at n3 HBY HBQ HXL ⊢
  clear h hr hcap hI eQ eL hb1 hwf eNB eSZ hrs eK hZ hbk hby eZN edv exs hxl hbq hbl ep e1 hln 
  go_enter Try.func27, Try.ntmps27
  go_wp2_with fail
  rw [← E1.out]
  refine HBK.out.mono ?_
  rintro e w2 ⟨rfl, hb2⟩
  have HB := Lib.hid hb2
  obtain ⟨q0, q1, q2, q3, q4⟩ := HCL.out w2 hb2
  clear hb2 HBK
  go_wp2_with fail
  refine (HZR.out w2 (HBEL.out w2 HB.out)).mono ?_
  rintro e w3 ⟨rfl, hb3⟩
  have HB3 := Lib.hid (HB.out.trans (hb3.mono HB.out.size))
  obtain ⟨p0, p1, p2, p3, p4⟩ := HCL.out w3 HB3.out
  clear hb3 HZR q0 q1 q2 q3 q4
  have hzo := zero_ok O w3 d s (K : Int) (ZN : Int) (i64_nat K (by omega)) (HREP.out w3 HB3.out) HCAP.out
  have HZO := Lib.hid hzo
  clear hzo
  go_wp2_with fail
  refine HZO.out.mono ?_
  rintro e w4 ⟨er, rfl, her, hst⟩
  have HTR := Lib.hid (trouble_ok _ w4 er _ _ her)
  have HST := Lib.hid (show DStep O w1 w4 d p.1 by rw [EP.out]; exact DStep.comp (OnlyP.ofBelow HB3.out) (fun b hb => .inl hb) hst)
  clear her hst
  go_wp2_with fail
  refine HTR.out.mono ?_
  rintro e w5 ⟨rfl, nn, hw5⟩
  have HF := Lib.hid (HFIN.out w5 (by rw [hw5]; exact DStep.drewN HST.out nn))
  rw [EP.out] at HF
  dsimp only at HF
  clear hw5 HTR HFIN HST
  go_wp2_with fail
  first | exact HF.out | (go_ret; exact HF.out)
set_option maxHeartbeats 2000000 in
set_option maxRecDepth 100000 in
theorem run_1b (O : Nat → Prop) (w : World) (d : Nat) (s : DSt) (r : RunV) (m : Nat) (h : DRep O w d s) (hr : RdN O w r.put.tv r.put.txt) (hln : r.put.txt.length ≤ 9223372036854775807) (hI : I64 r.len) (hcap : ∀ k, ((s.ca k).length + 1) * 24 ≤ 200000000000000) (hk : r.kind = 1) (hz : m < zerosN r s.nb) :
    Calls Try.prog 27 #[r.agg, .pointer (some ⟨d, 0, none⟩), .int .i64 s.nb, .int .i64 s.sz, .int .i64 m] w (RunQ O w d (runR s r m)) := by
  have hwf := h.wf
  have n1 := hwf.nb1
  have n2 := hwf.nb2
  have n3 := hwf.sz1
  obtain ⟨A, cp, edv⟩ := hr.1.slice
  obtain ⟨Q, eQ⟩ : ∃ Q, Q = RunQ O w d (runR s r m) := ⟨_, rfl⟩
  rw [← eQ]
  have hrs : runR s r m = ((zeroR s (r.put.at s.nb) m).1, (zeroR s (r.put.at s.nb) m).2.1) := by unfold runR; rw [if_pos hk, Nat.min_eq_right (by omega)]
  rw [hrs] at eQ
  obtain ⟨K, eK⟩ : ∃ K, K = r.put.at s.nb := ⟨_, rfl⟩
  have hK : K < s.nb := by rw [eK]; exact r.put.at_lt n1
  (try rw [← eK] at eQ)
  have hZ : ∀ W, Below w.heap.size w W → Calls Try.prog 47 #[r.agg, .int .i64 s.nb] W fun e w' => e = .returned (.int .i64 (zerosN r s.nb)) ∧ Below W.heap.size W w' := fun W hW => zeros_ok W r s.nb n1 n2 (hr.1.below hW)
  have hbk : ∀ W, Calls Try.prog 15 #[r.put.agg, .int .i64 s.nb] W fun e w' => e = .returned (.int .i64 K) ∧ Below W.heap.size W w' := fun W => by
    have h := block_ok W r.put s.nb n1 n2
    rw [← eK] at h; exact h
  have hby : ∀ W, Below w.heap.size w W → Calls Try.prog 18 #[r.put.agg, .int .i64 s.sz] W (BytesQ W s.sz r.put.txt) := fun W hW => bytes_ok W r.put s.sz n3 (hr.1.below hW) hln
  obtain ⟨ZN, eZN⟩ : ∃ ZN, ZN = zerosN r s.nb := ⟨_, rfl⟩
  have hZN : ZN ≤ s.nb - K := by rw [eZN, eK]; exact Nat.min_le_right _ _
  rw [← eZN] at hZ
  (try rw [← eZN] at eQ)
  obtain ⟨L, eL⟩ : ∃ L, L = r.put.txt.length := ⟨_, rfl⟩
  rw [← eL] at edv
  unfold RunV.agg at hZ ⊢
  unfold PutV.agg at hbk hby
  rw [edv] at hZ hbk hby ⊢
  obtain ⟨xs, exs⟩ : ∃ xs, xs = padF r.put.txt s.sz := ⟨_, rfl⟩
  have hxl : xs.length = s.sz := by rw [exs]; exact padF_len _ _
  have hbq : ∀ W e w', BytesQ W s.sz r.put.txt e w' → ∃ B, e = .returned (.slice (some ⟨B, 0, none⟩) s.sz s.sz) ∧ W.heap.size ≤ B ∧ Rd .u8 w' (.slice (some ⟨B, 0, none⟩) s.sz s.sz) xs ∧ Below W.heap.size W w' := fun W e w' hq => by
    obtain ⟨B, h1, h2, h3, h4⟩ := hq
    have h5 := h3.rd (padF r.put.txt s.sz) s.sz (by rw [padF_len]; exact Nat.le_refl _) (by rw [padF_len]; exact Nat.le_refl _) (fun i hi => rfl)
    rw [padF_len, ← exs] at h5
    exact ⟨B, h1, h2, h5, h4⟩
  (try rw [← exs] at eQ)
  obtain ⟨kind, ⟨blk, tv, txt, past⟩, len⟩ := r
  dsimp only at hk hz hI eQ hZ hbk hby hbq
  obtain ⟨w1, e1⟩ : ∃ w1, w1 = w.alloc (.cells #[.int .i64 kind, .int .i64 blk, .slice A L cp, .bool past, .int .i64 len] 55) := ⟨_, rfl⟩
  have hb1 : Below w.heap.size w w1 := by rw [e1]; exact (Below.refl _ _).alloc (Nat.le_refl _) _
  have hs1 : w1.heap.size = w.heap.size + 1 := by rw [e1]; simp
  have hbl : ∀ W, Below w1.heap.size w1 W → W.cell? ⟨w.heap.size, 0, none⟩ = some (.int .i64 kind) ∧ W.cell? ⟨w.heap.size, 1, none⟩ = some (.int .i64 blk) ∧ W.cell? ⟨w.heap.size, 2, none⟩ = some (.slice A L cp) ∧ W.cell? ⟨w.heap.size, 3, none⟩ = some (.bool past) ∧ W.cell? ⟨w.heap.size, 4, none⟩ = some (.int .i64 len) := fun W hW => by
    have hb : Blk W w.heap.size 55 #[.int .i64 kind, .int .i64 blk, .slice A L cp, .bool past, .int .i64 len] := Blk.below (by rw [e1]; exact Blk.new _ _ _) hW (by omega)
    exact ⟨hb.cell 0, hb.cell 1, hb.cell 2, hb.cell 3, hb.cell 4⟩
  obtain ⟨NB, eNB⟩ : ∃ NB, NB = s.nb := ⟨_, rfl⟩
  obtain ⟨SZ, eSZ⟩ : ∃ SZ, SZ = s.sz := ⟨_, rfl⟩
  obtain ⟨p, ep⟩ : ∃ p : DSt × Int, p = ((zeroR s K m).1, (zeroR s K m).2.1) := ⟨_, rfl⟩
  have HFIN : Hid (∀ w2, DStep O w1 w2 d p.1 → Q (.returned (.int .i64 p.2)) w2) := Lib.hid (fun w2 h2 => by
    rw [eQ, ← ep]; exact ⟨rfl, DStep.comp (OnlyP.ofBelow hb1) (fun b hb => .inl hb) h2⟩)
  have HSAME : Hid (∀ W, Below w1.heap.size w1 W → DStep O w1 W d s) := Lib.hid (fun W hW => ⟨OnlyP.ofBelow hW, O, h.below (hb1.trans (hW.mono hb1.size)), fun b hb => .inl hb⟩)
  have HREP : Hid (∀ W, Below w1.heap.size w1 W → DRep O W d s) := Lib.hid (fun W hW => h.below (hb1.trans (hW.mono hb1.size)))
  have HNEW : Hid (∀ W B, Below w1.heap.size w1 W → W.heap.size ≤ B → ¬ O B) := Lib.hid (fun W B hW hB hO => by have := h.lt hO; have := hW.size; omega)
  have HBEL : Hid (∀ W, Below w1.heap.size w1 W → Below w.heap.size w W) := Lib.hid (fun W hW => hb1.trans (hW.mono hb1.size))
  have HCL := Lib.hid hbl
  have HZR := Lib.hid hZ
  have HBK := Lib.hid (hbk w1)
  have HBY := Lib.hid hby
  have HBQ := Lib.hid hbq
  have HXL := Lib.hid hxl
  have EP := Lib.hid ep
  have E1 := Lib.hid e1
  have HCAP := Lib.hid hcap
  have HCA2 : Hid (∀ k, (s.ca k).length ≤ 100000000000000) := Lib.hid (fun k => by have := hcap k; omega)
  subst hk
  rw [← eZN] at hz
  rw [← eNB] at n1 n2 hK hZN HZR HBK ⊢
  rw [← eSZ] at n3 HBY HBQ HXL ⊢
  clear h hr hcap hI eQ eL hb1 hwf eNB eSZ hrs eK hZ hbk hby eZN edv exs hxl hbq hbl ep e1 hln 
  go_enter Try.func27, Try.ntmps27
  go_wp2_with fail
  rw [← E1.out]
  refine HBK.out.mono ?_
  rintro e w2 ⟨rfl, hb2⟩
  have HB := Lib.hid hb2
  obtain ⟨q0, q1, q2, q3, q4⟩ := HCL.out w2 hb2
  clear hb2 HBK
  go_wp2_with fail
  refine (HZR.out w2 (HBEL.out w2 HB.out)).mono ?_
  rintro e w3 ⟨rfl, hb3⟩
  have HB3 := Lib.hid (HB.out.trans (hb3.mono HB.out.size))
  obtain ⟨p0, p1, p2, p3, p4⟩ := HCL.out w3 HB3.out
  clear hb3 HZR q0 q1 q2 q3 q4
  have hzo := zero_ok O w3 d s (K : Int) (m : Int) (i64_nat K (by omega)) (HREP.out w3 HB3.out) HCAP.out
  have HZO := Lib.hid hzo
  clear hzo
  go_wp2_with fail
  refine HZO.out.mono ?_
  rintro e w4 ⟨er, rfl, her, hst⟩
  have HTR := Lib.hid (trouble_ok _ w4 er _ _ her)
  have HST := Lib.hid (show DStep O w1 w4 d p.1 by rw [EP.out]; exact DStep.comp (OnlyP.ofBelow HB3.out) (fun b hb => .inl hb) hst)
  clear her hst
  go_wp2_with fail
  refine HTR.out.mono ?_
  rintro e w5 ⟨rfl, nn, hw5⟩
  have HF := Lib.hid (HFIN.out w5 (by rw [hw5]; exact DStep.drewN HST.out nn))
  rw [EP.out] at HF
  dsimp only at HF
  clear hw5 HTR HFIN HST
  go_wp2_with fail
  first | exact HF.out | (go_ret; exact HF.out)
set_option maxHeartbeats 2000000 in
set_option maxRecDepth 100000 in
theorem run_2 (O : Nat → Prop) (w : World) (d : Nat) (s : DSt) (r : RunV) (m : Nat) (h : DRep O w d s) (hr : RdN O w r.put.tv r.put.txt) (hln : r.put.txt.length ≤ 9223372036854775807) (hI : I64 r.len) (hcap : ∀ k, ((s.ca k).length + 1) * 24 ≤ 200000000000000) (hk : r.kind = 2) (hm : 0 < m) :
    Calls Try.prog 27 #[r.agg, .pointer (some ⟨d, 0, none⟩), .int .i64 s.nb, .int .i64 s.sz, .int .i64 m] w (RunQ O w d (runR s r m)) := by
  have hwf := h.wf
  have n1 := hwf.nb1
  have n2 := hwf.nb2
  have n3 := hwf.sz1
  obtain ⟨A, cp, edv⟩ := hr.1.slice
  obtain ⟨Q, eQ⟩ : ∃ Q, Q = RunQ O w d (runR s r m) := ⟨_, rfl⟩
  rw [← eQ]
  have hrs : runR s r m = (flushS s, if stepB s = true then 0 else 22) := by unfold runR; rw [if_neg (by omega), if_neg (by omega), if_pos hk]
  rw [hrs] at eQ
  obtain ⟨K, eK⟩ : ∃ K, K = r.put.at s.nb := ⟨_, rfl⟩
  have hK : K < s.nb := by rw [eK]; exact r.put.at_lt n1
  (try rw [← eK] at eQ)
  have hZ : ∀ W, Below w.heap.size w W → Calls Try.prog 47 #[r.agg, .int .i64 s.nb] W fun e w' => e = .returned (.int .i64 (zerosN r s.nb)) ∧ Below W.heap.size W w' := fun W hW => zeros_ok W r s.nb n1 n2 (hr.1.below hW)
  have hbk : ∀ W, Calls Try.prog 15 #[r.put.agg, .int .i64 s.nb] W fun e w' => e = .returned (.int .i64 K) ∧ Below W.heap.size W w' := fun W => by
    have h := block_ok W r.put s.nb n1 n2
    rw [← eK] at h; exact h
  have hby : ∀ W, Below w.heap.size w W → Calls Try.prog 18 #[r.put.agg, .int .i64 s.sz] W (BytesQ W s.sz r.put.txt) := fun W hW => bytes_ok W r.put s.sz n3 (hr.1.below hW) hln
  obtain ⟨ZN, eZN⟩ : ∃ ZN, ZN = zerosN r s.nb := ⟨_, rfl⟩
  have hZN : ZN ≤ s.nb - K := by rw [eZN, eK]; exact Nat.min_le_right _ _
  rw [← eZN] at hZ
  (try rw [← eZN] at eQ)
  obtain ⟨L, eL⟩ : ∃ L, L = r.put.txt.length := ⟨_, rfl⟩
  rw [← eL] at edv
  unfold RunV.agg at hZ ⊢
  unfold PutV.agg at hbk hby
  rw [edv] at hZ hbk hby ⊢
  obtain ⟨xs, exs⟩ : ∃ xs, xs = padF r.put.txt s.sz := ⟨_, rfl⟩
  have hxl : xs.length = s.sz := by rw [exs]; exact padF_len _ _
  have hbq : ∀ W e w', BytesQ W s.sz r.put.txt e w' → ∃ B, e = .returned (.slice (some ⟨B, 0, none⟩) s.sz s.sz) ∧ W.heap.size ≤ B ∧ Rd .u8 w' (.slice (some ⟨B, 0, none⟩) s.sz s.sz) xs ∧ Below W.heap.size W w' := fun W e w' hq => by
    obtain ⟨B, h1, h2, h3, h4⟩ := hq
    have h5 := h3.rd (padF r.put.txt s.sz) s.sz (by rw [padF_len]; exact Nat.le_refl _) (by rw [padF_len]; exact Nat.le_refl _) (fun i hi => rfl)
    rw [padF_len, ← exs] at h5
    exact ⟨B, h1, h2, h5, h4⟩
  (try rw [← exs] at eQ)
  obtain ⟨kind, ⟨blk, tv, txt, past⟩, len⟩ := r
  dsimp only at hk hm hI eQ hZ hbk hby hbq
  obtain ⟨w1, e1⟩ : ∃ w1, w1 = w.alloc (.cells #[.int .i64 kind, .int .i64 blk, .slice A L cp, .bool past, .int .i64 len] 55) := ⟨_, rfl⟩
  have hb1 : Below w.heap.size w w1 := by rw [e1]; exact (Below.refl _ _).alloc (Nat.le_refl _) _
  have hs1 : w1.heap.size = w.heap.size + 1 := by rw [e1]; simp
  have hbl : ∀ W, Below w1.heap.size w1 W → W.cell? ⟨w.heap.size, 0, none⟩ = some (.int .i64 kind) ∧ W.cell? ⟨w.heap.size, 1, none⟩ = some (.int .i64 blk) ∧ W.cell? ⟨w.heap.size, 2, none⟩ = some (.slice A L cp) ∧ W.cell? ⟨w.heap.size, 3, none⟩ = some (.bool past) ∧ W.cell? ⟨w.heap.size, 4, none⟩ = some (.int .i64 len) := fun W hW => by
    have hb : Blk W w.heap.size 55 #[.int .i64 kind, .int .i64 blk, .slice A L cp, .bool past, .int .i64 len] := Blk.below (by rw [e1]; exact Blk.new _ _ _) hW (by omega)
    exact ⟨hb.cell 0, hb.cell 1, hb.cell 2, hb.cell 3, hb.cell 4⟩
  obtain ⟨NB, eNB⟩ : ∃ NB, NB = s.nb := ⟨_, rfl⟩
  obtain ⟨SZ, eSZ⟩ : ∃ SZ, SZ = s.sz := ⟨_, rfl⟩
  obtain ⟨p, ep⟩ : ∃ p : DSt × Int, p = (flushS s, if stepB s = true then 0 else 22) := ⟨_, rfl⟩
  have HFIN : Hid (∀ w2, DStep O w1 w2 d p.1 → Q (.returned (.int .i64 p.2)) w2) := Lib.hid (fun w2 h2 => by
    rw [eQ, ← ep]; exact ⟨rfl, DStep.comp (OnlyP.ofBelow hb1) (fun b hb => .inl hb) h2⟩)
  have HSAME : Hid (∀ W, Below w1.heap.size w1 W → DStep O w1 W d s) := Lib.hid (fun W hW => ⟨OnlyP.ofBelow hW, O, h.below (hb1.trans (hW.mono hb1.size)), fun b hb => .inl hb⟩)
  have HREP : Hid (∀ W, Below w1.heap.size w1 W → DRep O W d s) := Lib.hid (fun W hW => h.below (hb1.trans (hW.mono hb1.size)))
  have HNEW : Hid (∀ W B, Below w1.heap.size w1 W → W.heap.size ≤ B → ¬ O B) := Lib.hid (fun W B hW hB hO => by have := h.lt hO; have := hW.size; omega)
  have HBEL : Hid (∀ W, Below w1.heap.size w1 W → Below w.heap.size w W) := Lib.hid (fun W hW => hb1.trans (hW.mono hb1.size))
  have HCL := Lib.hid hbl
  have HZR := Lib.hid hZ
  have HBK := Lib.hid (hbk w1)
  have HBY := Lib.hid hby
  have HBQ := Lib.hid hbq
  have HXL := Lib.hid hxl
  have EP := Lib.hid ep
  have E1 := Lib.hid e1
  have HCAP := Lib.hid hcap
  have HCA2 : Hid (∀ k, (s.ca k).length ≤ 100000000000000) := Lib.hid (fun k => by have := hcap k; omega)
  subst hk
  obtain ⟨sb, esb⟩ : ∃ sb, sb = stepB s := ⟨_, rfl⟩
  rw [← esb] at EP
  have HFL : Hid (∀ W, Below w1.heap.size w1 W → Calls Try.prog 13 #[.pointer (some ⟨d, 0, none⟩)] W (FlushQ O W d (flushS s) sb)) := Lib.hid (fun W hW => by rw [esb]; exact flush_ok O W d s (HREP.out W hW) HCA2.out)
  rw [← eNB] at n1 n2 hK hZN HZR HBK ⊢
  rw [← eSZ] at n3 HBY HBQ HXL ⊢
  clear h hr hcap hI eQ eL hb1 hwf eNB eSZ hrs eK hZ hbk hby eZN edv exs hxl hbq hbl ep e1 hln esb
  go_enter Try.func27, Try.ntmps27
  go_wp2_with fail
  rw [← E1.out]
  refine HBK.out.mono ?_
  rintro e w2 ⟨rfl, hb2⟩
  have HB := Lib.hid hb2
  obtain ⟨q0, q1, q2, q3, q4⟩ := HCL.out w2 hb2
  clear hb2 HBK
  go_wp2_with fail
  refine (HFL.out w2 HB.out).mono ?_
  rintro e w4 ⟨rfl, hst⟩
  have HST := Lib.hid (show DStep O w1 w4 d p.1 by rw [EP.out]; exact DStep.comp (OnlyP.ofBelow HB.out) (fun b hb => .inl hb) hst)
  clear hst HFL
  cases sb
  · have HTR := Lib.hid (trouble_no w4 22)
    simp only [Bool.false_eq_true, if_false]
    go_wp2_with fail
    refine HTR.out.mono ?_
    rintro e w5 ⟨rfl, nn, hw5⟩
    have HF := Lib.hid (HFIN.out w5 (by rw [hw5]; exact DStep.drewN HST.out nn))
    rw [EP.out] at HF
    dsimp only at HF
    simp only [Bool.false_eq_true, if_false] at HF
    clear hw5 HTR HFIN HST
    go_wp2_with fail
    first | exact HF.out | (go_ret; exact HF.out)
  · have HTR := Lib.hid (trouble_ok 0 w4 .nilIface 0 0 (.inl ⟨rfl, rfl⟩))
    simp only [if_true]
    go_wp2_with fail
    refine HTR.out.mono ?_
    rintro e w5 ⟨rfl, nn, hw5⟩
    have HF := Lib.hid (HFIN.out w5 (by rw [hw5]; exact DStep.drewN HST.out nn))
    rw [EP.out] at HF
    dsimp only at HF
    simp only [if_true] at HF
    clear hw5 HTR HFIN HST
    go_wp2_with fail
    first | exact HF.out | (go_ret; exact HF.out)
set_option maxHeartbeats 2000000 in
set_option maxRecDepth 100000 in
theorem run_20 (O : Nat → Prop) (w : World) (d : Nat) (s : DSt) (r : RunV) (m : Nat) (h : DRep O w d s) (hr : RdN O w r.put.tv r.put.txt) (hln : r.put.txt.length ≤ 9223372036854775807) (hI : I64 r.len) (hcap : ∀ k, ((s.ca k).length + 1) * 24 ≤ 200000000000000) (hk : r.kind = 2) (hm : m = 0) :
    Calls Try.prog 27 #[r.agg, .pointer (some ⟨d, 0, none⟩), .int .i64 s.nb, .int .i64 s.sz, .int .i64 m] w (RunQ O w d (runR s r m)) := by
  have hwf := h.wf
  have n1 := hwf.nb1
  have n2 := hwf.nb2
  have n3 := hwf.sz1
  obtain ⟨A, cp, edv⟩ := hr.1.slice
  obtain ⟨Q, eQ⟩ : ∃ Q, Q = RunQ O w d (runR s r m) := ⟨_, rfl⟩
  rw [← eQ]
  have hrs : runR s r m = (s, 0) := by unfold runR; rw [if_neg (by omega), if_pos hm]
  rw [hrs] at eQ
  obtain ⟨K, eK⟩ : ∃ K, K = r.put.at s.nb := ⟨_, rfl⟩
  have hK : K < s.nb := by rw [eK]; exact r.put.at_lt n1
  (try rw [← eK] at eQ)
  have hZ : ∀ W, Below w.heap.size w W → Calls Try.prog 47 #[r.agg, .int .i64 s.nb] W fun e w' => e = .returned (.int .i64 (zerosN r s.nb)) ∧ Below W.heap.size W w' := fun W hW => zeros_ok W r s.nb n1 n2 (hr.1.below hW)
  have hbk : ∀ W, Calls Try.prog 15 #[r.put.agg, .int .i64 s.nb] W fun e w' => e = .returned (.int .i64 K) ∧ Below W.heap.size W w' := fun W => by
    have h := block_ok W r.put s.nb n1 n2
    rw [← eK] at h; exact h
  have hby : ∀ W, Below w.heap.size w W → Calls Try.prog 18 #[r.put.agg, .int .i64 s.sz] W (BytesQ W s.sz r.put.txt) := fun W hW => bytes_ok W r.put s.sz n3 (hr.1.below hW) hln
  obtain ⟨ZN, eZN⟩ : ∃ ZN, ZN = zerosN r s.nb := ⟨_, rfl⟩
  have hZN : ZN ≤ s.nb - K := by rw [eZN, eK]; exact Nat.min_le_right _ _
  rw [← eZN] at hZ
  (try rw [← eZN] at eQ)
  obtain ⟨L, eL⟩ : ∃ L, L = r.put.txt.length := ⟨_, rfl⟩
  rw [← eL] at edv
  unfold RunV.agg at hZ ⊢
  unfold PutV.agg at hbk hby
  rw [edv] at hZ hbk hby ⊢
  obtain ⟨xs, exs⟩ : ∃ xs, xs = padF r.put.txt s.sz := ⟨_, rfl⟩
  have hxl : xs.length = s.sz := by rw [exs]; exact padF_len _ _
  have hbq : ∀ W e w', BytesQ W s.sz r.put.txt e w' → ∃ B, e = .returned (.slice (some ⟨B, 0, none⟩) s.sz s.sz) ∧ W.heap.size ≤ B ∧ Rd .u8 w' (.slice (some ⟨B, 0, none⟩) s.sz s.sz) xs ∧ Below W.heap.size W w' := fun W e w' hq => by
    obtain ⟨B, h1, h2, h3, h4⟩ := hq
    have h5 := h3.rd (padF r.put.txt s.sz) s.sz (by rw [padF_len]; exact Nat.le_refl _) (by rw [padF_len]; exact Nat.le_refl _) (fun i hi => rfl)
    rw [padF_len, ← exs] at h5
    exact ⟨B, h1, h2, h5, h4⟩
  (try rw [← exs] at eQ)
  obtain ⟨kind, ⟨blk, tv, txt, past⟩, len⟩ := r
  dsimp only at hk hm hI eQ hZ hbk hby hbq
  obtain ⟨w1, e1⟩ : ∃ w1, w1 = w.alloc (.cells #[.int .i64 kind, .int .i64 blk, .slice A L cp, .bool past, .int .i64 len] 55) := ⟨_, rfl⟩
  have hb1 : Below w.heap.size w w1 := by rw [e1]; exact (Below.refl _ _).alloc (Nat.le_refl _) _
  have hs1 : w1.heap.size = w.heap.size + 1 := by rw [e1]; simp
  have hbl : ∀ W, Below w1.heap.size w1 W → W.cell? ⟨w.heap.size, 0, none⟩ = some (.int .i64 kind) ∧ W.cell? ⟨w.heap.size, 1, none⟩ = some (.int .i64 blk) ∧ W.cell? ⟨w.heap.size, 2, none⟩ = some (.slice A L cp) ∧ W.cell? ⟨w.heap.size, 3, none⟩ = some (.bool past) ∧ W.cell? ⟨w.heap.size, 4, none⟩ = some (.int .i64 len) := fun W hW => by
    have hb : Blk W w.heap.size 55 #[.int .i64 kind, .int .i64 blk, .slice A L cp, .bool past, .int .i64 len] := Blk.below (by rw [e1]; exact Blk.new _ _ _) hW (by omega)
    exact ⟨hb.cell 0, hb.cell 1, hb.cell 2, hb.cell 3, hb.cell 4⟩
  obtain ⟨NB, eNB⟩ : ∃ NB, NB = s.nb := ⟨_, rfl⟩
  obtain ⟨SZ, eSZ⟩ : ∃ SZ, SZ = s.sz := ⟨_, rfl⟩
  obtain ⟨p, ep⟩ : ∃ p : DSt × Int, p = (s, 0) := ⟨_, rfl⟩
  have HFIN : Hid (∀ w2, DStep O w1 w2 d p.1 → Q (.returned (.int .i64 p.2)) w2) := Lib.hid (fun w2 h2 => by
    rw [eQ, ← ep]; exact ⟨rfl, DStep.comp (OnlyP.ofBelow hb1) (fun b hb => .inl hb) h2⟩)
  have HSAME : Hid (∀ W, Below w1.heap.size w1 W → DStep O w1 W d s) := Lib.hid (fun W hW => ⟨OnlyP.ofBelow hW, O, h.below (hb1.trans (hW.mono hb1.size)), fun b hb => .inl hb⟩)
  have HREP : Hid (∀ W, Below w1.heap.size w1 W → DRep O W d s) := Lib.hid (fun W hW => h.below (hb1.trans (hW.mono hb1.size)))
  have HNEW : Hid (∀ W B, Below w1.heap.size w1 W → W.heap.size ≤ B → ¬ O B) := Lib.hid (fun W B hW hB hO => by have := h.lt hO; have := hW.size; omega)
  have HBEL : Hid (∀ W, Below w1.heap.size w1 W → Below w.heap.size w W) := Lib.hid (fun W hW => hb1.trans (hW.mono hb1.size))
  have HCL := Lib.hid hbl
  have HZR := Lib.hid hZ
  have HBK := Lib.hid (hbk w1)
  have HBY := Lib.hid hby
  have HBQ := Lib.hid hbq
  have HXL := Lib.hid hxl
  have EP := Lib.hid ep
  have E1 := Lib.hid e1
  have HCAP := Lib.hid hcap
  have HCA2 : Hid (∀ k, (s.ca k).length ≤ 100000000000000) := Lib.hid (fun k => by have := hcap k; omega)
  subst hk
  subst hm
  rw [← eNB] at n1 n2 hK hZN HZR HBK ⊢
  rw [← eSZ] at n3 HBY HBQ HXL ⊢
  clear h hr hcap hI eQ eL hb1 hwf eNB eSZ hrs eK hZ hbk hby eZN edv exs hxl hbq hbl ep e1 hln 
  go_enter Try.func27, Try.ntmps27
  go_wp2_with fail
  rw [← E1.out]
  refine HBK.out.mono ?_
  rintro e w2 ⟨rfl, hb2⟩
  have HB := Lib.hid hb2
  obtain ⟨q0, q1, q2, q3, q4⟩ := HCL.out w2 hb2
  clear hb2 HBK
  go_wp2_with fail
  have HTR := Lib.hid (trouble_ok 0 w2 .nilIface 0 0 (.inl ⟨rfl, rfl⟩))
  go_wp2_with fail
  refine HTR.out.mono ?_
  rintro e w5 ⟨rfl, nn, hw5⟩
  have HF := Lib.hid (HFIN.out w5 (by rw [hw5, EP.out]; exact DStep.drewN (HSAME.out w2 HB.out) nn))
  rw [EP.out] at HF
  dsimp only at HF
  clear hw5 HTR HFIN
  go_wp2_with fail
  first | exact HF.out | (go_ret; exact HF.out)
set_option maxHeartbeats 2000000 in
set_option maxRecDepth 100000 in
theorem run_p0 (O : Nat → Prop) (w : World) (d : Nat) (s : DSt) (r : RunV) (m : Nat) (h : DRep O w d s) (hr : RdN O w r.put.tv r.put.txt) (hln : r.put.txt.length ≤ 9223372036854775807) (hI : I64 r.len) (hcap : ∀ k, ((s.ca k).length + 1) * 24 ≤ 200000000000000) (hk : r.kind ≠ 1) (hk2 : r.kind ≠ 2) (hm : m = 0) :
    Calls Try.prog 27 #[r.agg, .pointer (some ⟨d, 0, none⟩), .int .i64 s.nb, .int .i64 s.sz, .int .i64 m] w (RunQ O w d (runR s r m)) := by
  have hwf := h.wf
  have n1 := hwf.nb1
  have n2 := hwf.nb2
  have n3 := hwf.sz1
  obtain ⟨A, cp, edv⟩ := hr.1.slice
  obtain ⟨Q, eQ⟩ : ∃ Q, Q = RunQ O w d (runR s r m) := ⟨_, rfl⟩
  rw [← eQ]
  have hrs : runR s r m = (s, 0) := by unfold runR; rw [if_neg hk, if_pos hm]
  rw [hrs] at eQ
  obtain ⟨K, eK⟩ : ∃ K, K = r.put.at s.nb := ⟨_, rfl⟩
  have hK : K < s.nb := by rw [eK]; exact r.put.at_lt n1
  (try rw [← eK] at eQ)
  have hZ : ∀ W, Below w.heap.size w W → Calls Try.prog 47 #[r.agg, .int .i64 s.nb] W fun e w' => e = .returned (.int .i64 (zerosN r s.nb)) ∧ Below W.heap.size W w' := fun W hW => zeros_ok W r s.nb n1 n2 (hr.1.below hW)
  have hbk : ∀ W, Calls Try.prog 15 #[r.put.agg, .int .i64 s.nb] W fun e w' => e = .returned (.int .i64 K) ∧ Below W.heap.size W w' := fun W => by
    have h := block_ok W r.put s.nb n1 n2
    rw [← eK] at h; exact h
  have hby : ∀ W, Below w.heap.size w W → Calls Try.prog 18 #[r.put.agg, .int .i64 s.sz] W (BytesQ W s.sz r.put.txt) := fun W hW => bytes_ok W r.put s.sz n3 (hr.1.below hW) hln
  obtain ⟨ZN, eZN⟩ : ∃ ZN, ZN = zerosN r s.nb := ⟨_, rfl⟩
  have hZN : ZN ≤ s.nb - K := by rw [eZN, eK]; exact Nat.min_le_right _ _
  rw [← eZN] at hZ
  (try rw [← eZN] at eQ)
  obtain ⟨L, eL⟩ : ∃ L, L = r.put.txt.length := ⟨_, rfl⟩
  rw [← eL] at edv
  unfold RunV.agg at hZ ⊢
  unfold PutV.agg at hbk hby
  rw [edv] at hZ hbk hby ⊢
  obtain ⟨xs, exs⟩ : ∃ xs, xs = padF r.put.txt s.sz := ⟨_, rfl⟩
  have hxl : xs.length = s.sz := by rw [exs]; exact padF_len _ _
  have hbq : ∀ W e w', BytesQ W s.sz r.put.txt e w' → ∃ B, e = .returned (.slice (some ⟨B, 0, none⟩) s.sz s.sz) ∧ W.heap.size ≤ B ∧ Rd .u8 w' (.slice (some ⟨B, 0, none⟩) s.sz s.sz) xs ∧ Below W.heap.size W w' := fun W e w' hq => by
    obtain ⟨B, h1, h2, h3, h4⟩ := hq
    have h5 := h3.rd (padF r.put.txt s.sz) s.sz (by rw [padF_len]; exact Nat.le_refl _) (by rw [padF_len]; exact Nat.le_refl _) (fun i hi => rfl)
    rw [padF_len, ← exs] at h5
    exact ⟨B, h1, h2, h5, h4⟩
  (try rw [← exs] at eQ)
  obtain ⟨kind, ⟨blk, tv, txt, past⟩, len⟩ := r
  dsimp only at hk hk2 hm hI eQ hZ hbk hby hbq
  obtain ⟨w1, e1⟩ : ∃ w1, w1 = w.alloc (.cells #[.int .i64 kind, .int .i64 blk, .slice A L cp, .bool past, .int .i64 len] 55) := ⟨_, rfl⟩
  have hb1 : Below w.heap.size w w1 := by rw [e1]; exact (Below.refl _ _).alloc (Nat.le_refl _) _
  have hs1 : w1.heap.size = w.heap.size + 1 := by rw [e1]; simp
  have hbl : ∀ W, Below w1.heap.size w1 W → W.cell? ⟨w.heap.size, 0, none⟩ = some (.int .i64 kind) ∧ W.cell? ⟨w.heap.size, 1, none⟩ = some (.int .i64 blk) ∧ W.cell? ⟨w.heap.size, 2, none⟩ = some (.slice A L cp) ∧ W.cell? ⟨w.heap.size, 3, none⟩ = some (.bool past) ∧ W.cell? ⟨w.heap.size, 4, none⟩ = some (.int .i64 len) := fun W hW => by
    have hb : Blk W w.heap.size 55 #[.int .i64 kind, .int .i64 blk, .slice A L cp, .bool past, .int .i64 len] := Blk.below (by rw [e1]; exact Blk.new _ _ _) hW (by omega)
    exact ⟨hb.cell 0, hb.cell 1, hb.cell 2, hb.cell 3, hb.cell 4⟩
  obtain ⟨NB, eNB⟩ : ∃ NB, NB = s.nb := ⟨_, rfl⟩
  obtain ⟨SZ, eSZ⟩ : ∃ SZ, SZ = s.sz := ⟨_, rfl⟩
  obtain ⟨p, ep⟩ : ∃ p : DSt × Int, p = (s, 0) := ⟨_, rfl⟩
  have HFIN : Hid (∀ w2, DStep O w1 w2 d p.1 → Q (.returned (.int .i64 p.2)) w2) := Lib.hid (fun w2 h2 => by
    rw [eQ, ← ep]; exact ⟨rfl, DStep.comp (OnlyP.ofBelow hb1) (fun b hb => .inl hb) h2⟩)
  have HSAME : Hid (∀ W, Below w1.heap.size w1 W → DStep O w1 W d s) := Lib.hid (fun W hW => ⟨OnlyP.ofBelow hW, O, h.below (hb1.trans (hW.mono hb1.size)), fun b hb => .inl hb⟩)
  have HREP : Hid (∀ W, Below w1.heap.size w1 W → DRep O W d s) := Lib.hid (fun W hW => h.below (hb1.trans (hW.mono hb1.size)))
  have HNEW : Hid (∀ W B, Below w1.heap.size w1 W → W.heap.size ≤ B → ¬ O B) := Lib.hid (fun W B hW hB hO => by have := h.lt hO; have := hW.size; omega)
  have HBEL : Hid (∀ W, Below w1.heap.size w1 W → Below w.heap.size w W) := Lib.hid (fun W hW => hb1.trans (hW.mono hb1.size))
  have HCL := Lib.hid hbl
  have HZR := Lib.hid hZ
  have HBK := Lib.hid (hbk w1)
  have HBY := Lib.hid hby
  have HBQ := Lib.hid hbq
  have HXL := Lib.hid hxl
  have EP := Lib.hid ep
  have E1 := Lib.hid e1
  have HCAP := Lib.hid hcap
  have HCA2 : Hid (∀ k, (s.ca k).length ≤ 100000000000000) := Lib.hid (fun k => by have := hcap k; omega)
  have e1k : (kind == 1) = false := by simp; omega
  have e2k : (kind == 2) = false := by simp; omega
  subst hm
  rw [← eNB] at n1 n2 hK hZN HZR HBK ⊢
  rw [← eSZ] at n3 HBY HBQ HXL ⊢
  clear h hr hcap hI eQ eL hb1 hwf eNB eSZ hrs eK hZ hbk hby eZN edv exs hxl hbq hbl ep e1 hln hk hk2
  go_enter Try.func27, Try.ntmps27
  go_wp2_with fail
  rw [← E1.out]
  refine HBK.out.mono ?_
  rintro e w2 ⟨rfl, hb2⟩
  have HB := Lib.hid hb2
  obtain ⟨q0, q1, q2, q3, q4⟩ := HCL.out w2 hb2
  clear hb2 HBK
  go_wp2_with fail
  have HTR := Lib.hid (trouble_ok 0 w2 .nilIface 0 0 (.inl ⟨rfl, rfl⟩))
  go_wp2_with fail
  refine HTR.out.mono ?_
  rintro e w5 ⟨rfl, nn, hw5⟩
  have HF := Lib.hid (HFIN.out w5 (by rw [hw5, EP.out]; exact DStep.drewN (HSAME.out w2 HB.out) nn))
  rw [EP.out] at HF
  dsimp only at HF
  clear hw5 HTR HFIN
  go_wp2_with fail
  first | exact HF.out | (go_ret; exact HF.out)
set_option maxHeartbeats 2000000 in
set_option maxRecDepth 100000 in
theorem run_pt (O : Nat → Prop) (w : World) (d : Nat) (s : DSt) (r : RunV) (m : Nat) (h : DRep O w d s) (hr : RdN O w r.put.tv r.put.txt) (hln : r.put.txt.length ≤ 9223372036854775807) (hI : I64 r.len) (hcap : ∀ k, ((s.ca k).length + 1) * 24 ≤ 200000000000000) (hk : r.kind ≠ 1) (hk2 : r.kind ≠ 2) (hm : 0 < m) (hp : r.put.past = true) :
    Calls Try.prog 27 #[r.agg, .pointer (some ⟨d, 0, none⟩), .int .i64 s.nb, .int .i64 s.sz, .int .i64 m] w (RunQ O w d (runR s r m)) := by
  have hwf := h.wf
  have n1 := hwf.nb1
  have n2 := hwf.nb2
  have n3 := hwf.sz1
  obtain ⟨A, cp, edv⟩ := hr.1.slice
  obtain ⟨Q, eQ⟩ : ∃ Q, Q = RunQ O w d (runR s r m) := ⟨_, rfl⟩
  rw [← eQ]
  have hrs : runR s r m = (throughS s (r.put.at s.nb) (padF r.put.txt s.sz), writeE s (r.put.at s.nb) (padF r.put.txt s.sz).length) := by unfold runR; rw [if_neg hk, if_neg (by omega), if_neg hk2, if_pos hp]
  rw [hrs] at eQ
  obtain ⟨K, eK⟩ : ∃ K, K = r.put.at s.nb := ⟨_, rfl⟩
  have hK : K < s.nb := by rw [eK]; exact r.put.at_lt n1
  (try rw [← eK] at eQ)
  have hZ : ∀ W, Below w.heap.size w W → Calls Try.prog 47 #[r.agg, .int .i64 s.nb] W fun e w' => e = .returned (.int .i64 (zerosN r s.nb)) ∧ Below W.heap.size W w' := fun W hW => zeros_ok W r s.nb n1 n2 (hr.1.below hW)
  have hbk : ∀ W, Calls Try.prog 15 #[r.put.agg, .int .i64 s.nb] W fun e w' => e = .returned (.int .i64 K) ∧ Below W.heap.size W w' := fun W => by
    have h := block_ok W r.put s.nb n1 n2
    rw [← eK] at h; exact h
  have hby : ∀ W, Below w.heap.size w W → Calls Try.prog 18 #[r.put.agg, .int .i64 s.sz] W (BytesQ W s.sz r.put.txt) := fun W hW => bytes_ok W r.put s.sz n3 (hr.1.below hW) hln
  obtain ⟨ZN, eZN⟩ : ∃ ZN, ZN = zerosN r s.nb := ⟨_, rfl⟩
  have hZN : ZN ≤ s.nb - K := by rw [eZN, eK]; exact Nat.min_le_right _ _
  rw [← eZN] at hZ
  (try rw [← eZN] at eQ)
  obtain ⟨L, eL⟩ : ∃ L, L = r.put.txt.length := ⟨_, rfl⟩
  rw [← eL] at edv
  unfold RunV.agg at hZ ⊢
  unfold PutV.agg at hbk hby
  rw [edv] at hZ hbk hby ⊢
  obtain ⟨xs, exs⟩ : ∃ xs, xs = padF r.put.txt s.sz := ⟨_, rfl⟩
  have hxl : xs.length = s.sz := by rw [exs]; exact padF_len _ _
  have hbq : ∀ W e w', BytesQ W s.sz r.put.txt e w' → ∃ B, e = .returned (.slice (some ⟨B, 0, none⟩) s.sz s.sz) ∧ W.heap.size ≤ B ∧ Rd .u8 w' (.slice (some ⟨B, 0, none⟩) s.sz s.sz) xs ∧ Below W.heap.size W w' := fun W e w' hq => by
    obtain ⟨B, h1, h2, h3, h4⟩ := hq
    have h5 := h3.rd (padF r.put.txt s.sz) s.sz (by rw [padF_len]; exact Nat.le_refl _) (by rw [padF_len]; exact Nat.le_refl _) (fun i hi => rfl)
    rw [padF_len, ← exs] at h5
    exact ⟨B, h1, h2, h5, h4⟩
  (try rw [← exs] at eQ)
  obtain ⟨kind, ⟨blk, tv, txt, past⟩, len⟩ := r
  dsimp only at hk hk2 hm hp hI eQ hZ hbk hby hbq
  obtain ⟨w1, e1⟩ : ∃ w1, w1 = w.alloc (.cells #[.int .i64 kind, .int .i64 blk, .slice A L cp, .bool past, .int .i64 len] 55) := ⟨_, rfl⟩
  have hb1 : Below w.heap.size w w1 := by rw [e1]; exact (Below.refl _ _).alloc (Nat.le_refl _) _
  have hs1 : w1.heap.size = w.heap.size + 1 := by rw [e1]; simp
  have hbl : ∀ W, Below w1.heap.size w1 W → W.cell? ⟨w.heap.size, 0, none⟩ = some (.int .i64 kind) ∧ W.cell? ⟨w.heap.size, 1, none⟩ = some (.int .i64 blk) ∧ W.cell? ⟨w.heap.size, 2, none⟩ = some (.slice A L cp) ∧ W.cell? ⟨w.heap.size, 3, none⟩ = some (.bool past) ∧ W.cell? ⟨w.heap.size, 4, none⟩ = some (.int .i64 len) := fun W hW => by
    have hb : Blk W w.heap.size 55 #[.int .i64 kind, .int .i64 blk, .slice A L cp, .bool past, .int .i64 len] := Blk.below (by rw [e1]; exact Blk.new _ _ _) hW (by omega)
    exact ⟨hb.cell 0, hb.cell 1, hb.cell 2, hb.cell 3, hb.cell 4⟩
  obtain ⟨NB, eNB⟩ : ∃ NB, NB = s.nb := ⟨_, rfl⟩
  obtain ⟨SZ, eSZ⟩ : ∃ SZ, SZ = s.sz := ⟨_, rfl⟩
  obtain ⟨p, ep⟩ : ∃ p : DSt × Int, p = (throughS s K xs, writeE s K xs.length) := ⟨_, rfl⟩
  have HFIN : Hid (∀ w2, DStep O w1 w2 d p.1 → Q (.returned (.int .i64 p.2)) w2) := Lib.hid (fun w2 h2 => by
    rw [eQ, ← ep]; exact ⟨rfl, DStep.comp (OnlyP.ofBelow hb1) (fun b hb => .inl hb) h2⟩)
  have HSAME : Hid (∀ W, Below w1.heap.size w1 W → DStep O w1 W d s) := Lib.hid (fun W hW => ⟨OnlyP.ofBelow hW, O, h.below (hb1.trans (hW.mono hb1.size)), fun b hb => .inl hb⟩)
  have HREP : Hid (∀ W, Below w1.heap.size w1 W → DRep O W d s) := Lib.hid (fun W hW => h.below (hb1.trans (hW.mono hb1.size)))
  have HNEW : Hid (∀ W B, Below w1.heap.size w1 W → W.heap.size ≤ B → ¬ O B) := Lib.hid (fun W B hW hB hO => by have := h.lt hO; have := hW.size; omega)
  have HBEL : Hid (∀ W, Below w1.heap.size w1 W → Below w.heap.size w W) := Lib.hid (fun W hW => hb1.trans (hW.mono hb1.size))
  have HCL := Lib.hid hbl
  have HZR := Lib.hid hZ
  have HBK := Lib.hid (hbk w1)
  have HBY := Lib.hid hby
  have HBQ := Lib.hid hbq
  have HXL := Lib.hid hxl
  have EP := Lib.hid ep
  have E1 := Lib.hid e1
  have HCAP := Lib.hid hcap
  have HCA2 : Hid (∀ k, (s.ca k).length ≤ 100000000000000) := Lib.hid (fun k => by have := hcap k; omega)
  have e1k : (kind == 1) = false := by simp; omega
  have e2k : (kind == 2) = false := by simp; omega
  subst hp
  rw [← eNB] at n1 n2 hK hZN HZR HBK ⊢
  rw [← eSZ] at n3 HBY HBQ HXL ⊢
  clear h hr hcap hI eQ eL hb1 hwf eNB eSZ hrs eK hZ hbk hby eZN edv exs hxl hbq hbl ep e1 hln hk hk2
  go_enter Try.func27, Try.ntmps27
  go_wp2_with fail
  rw [← E1.out]
  refine HBK.out.mono ?_
  rintro e w2 ⟨rfl, hb2⟩
  have HB := Lib.hid hb2
  obtain ⟨q0, q1, q2, q3, q4⟩ := HCL.out w2 hb2
  clear hb2 HBK
  go_wp2_with fail
  refine (HBY.out w2 (HBEL.out w2 HB.out)).mono ?_
  intro e w3 hbq
  obtain ⟨B3, rfl, hB3, hrd3, hb3⟩ := HBQ.out w2 e w3 hbq
  have HB3 := Lib.hid (HB.out.trans (hb3.mono HB.out.size))
  have hrn : RdN O w3 (.slice (some ⟨B3, 0, none⟩) SZ SZ) xs := ⟨hrd3, fun b off n c he _ hb => by
    simp only [Value.slice.injEq, Option.some.injEq, Addr.mk.injEq] at he
    exact HNEW.out w2 B3 HB.out hB3 (by rw [he.1.1]; exact hb)⟩
  have hwo := through_ok O w3 d s (K : Int) _ xs (HREP.out w3 HB3.out) hrn
  have HWO := Lib.hid hwo
  clear hwo hrn hrd3 hb3 hB3 hbq HBY q0 q1 q2 q3 q4
  go_wp2_with fail
  refine HWO.out.mono ?_
  rintro e w4 ⟨er, rfl, her, hst⟩
  have HTR := Lib.hid (trouble_ok _ w4 er _ _ her)
  have HST := Lib.hid (show DStep O w1 w4 d p.1 by rw [EP.out]; exact DStep.comp (OnlyP.ofBelow HB3.out) (fun b hb => .inl hb) hst)
  clear her hst
  go_wp2_with fail
  refine HTR.out.mono ?_
  rintro e w5 ⟨rfl, nn, hw5⟩
  have HF := Lib.hid (HFIN.out w5 (by rw [hw5]; exact DStep.drewN HST.out nn))
  rw [EP.out] at HF
  dsimp only at HF
  clear hw5 HTR HFIN HST
  go_wp2_with fail
  first | exact HF.out | (go_ret; exact HF.out)
set_option maxHeartbeats 2000000 in
set_option maxRecDepth 100000 in
theorem run_pw (O : Nat → Prop) (w : World) (d : Nat) (s : DSt) (r : RunV) (m : Nat) (h : DRep O w d s) (hr : RdN O w r.put.tv r.put.txt) (hln : r.put.txt.length ≤ 9223372036854775807) (hI : I64 r.len) (hcap : ∀ k, ((s.ca k).length + 1) * 24 ≤ 200000000000000) (hk : r.kind ≠ 1) (hk2 : r.kind ≠ 2) (hm : 0 < m) (hp : r.put.past = false) :
    Calls Try.prog 27 #[r.agg, .pointer (some ⟨d, 0, none⟩), .int .i64 s.nb, .int .i64 s.sz, .int .i64 m] w (RunQ O w d (runR s r m)) := by
  have hwf := h.wf
  have n1 := hwf.nb1
  have n2 := hwf.nb2
  have n3 := hwf.sz1
  obtain ⟨A, cp, edv⟩ := hr.1.slice
  obtain ⟨Q, eQ⟩ : ∃ Q, Q = RunQ O w d (runR s r m) := ⟨_, rfl⟩
  rw [← eQ]
  have hrs : runR s r m = (writeS s (r.put.at s.nb) (padF r.put.txt s.sz), writeE s (r.put.at s.nb) (padF r.put.txt s.sz).length) := by unfold runR; rw [if_neg hk, if_neg (by omega), if_neg hk2, if_neg (by rw [hp]; simp)]
  rw [hrs] at eQ
  obtain ⟨K, eK⟩ : ∃ K, K = r.put.at s.nb := ⟨_, rfl⟩
  have hK : K < s.nb := by rw [eK]; exact r.put.at_lt n1
  (try rw [← eK] at eQ)
  have hZ : ∀ W, Below w.heap.size w W → Calls Try.prog 47 #[r.agg, .int .i64 s.nb] W fun e w' => e = .returned (.int .i64 (zerosN r s.nb)) ∧ Below W.heap.size W w' := fun W hW => zeros_ok W r s.nb n1 n2 (hr.1.below hW)
  have hbk : ∀ W, Calls Try.prog 15 #[r.put.agg, .int .i64 s.nb] W fun e w' => e = .returned (.int .i64 K) ∧ Below W.heap.size W w' := fun W => by
    have h := block_ok W r.put s.nb n1 n2
    rw [← eK] at h; exact h
  have hby : ∀ W, Below w.heap.size w W → Calls Try.prog 18 #[r.put.agg, .int .i64 s.sz] W (BytesQ W s.sz r.put.txt) := fun W hW => bytes_ok W r.put s.sz n3 (hr.1.below hW) hln
  obtain ⟨ZN, eZN⟩ : ∃ ZN, ZN = zerosN r s.nb := ⟨_, rfl⟩
  have hZN : ZN ≤ s.nb - K := by rw [eZN, eK]; exact Nat.min_le_right _ _
  rw [← eZN] at hZ
  (try rw [← eZN] at eQ)
  obtain ⟨L, eL⟩ : ∃ L, L = r.put.txt.length := ⟨_, rfl⟩
  rw [← eL] at edv
  unfold RunV.agg at hZ ⊢
  unfold PutV.agg at hbk hby
  rw [edv] at hZ hbk hby ⊢
  obtain ⟨xs, exs⟩ : ∃ xs, xs = padF r.put.txt s.sz := ⟨_, rfl⟩
  have hxl : xs.length = s.sz := by rw [exs]; exact padF_len _ _
  have hbq : ∀ W e w', BytesQ W s.sz r.put.txt e w' → ∃ B, e = .returned (.slice (some ⟨B, 0, none⟩) s.sz s.sz) ∧ W.heap.size ≤ B ∧ Rd .u8 w' (.slice (some ⟨B, 0, none⟩) s.sz s.sz) xs ∧ Below W.heap.size W w' := fun W e w' hq => by
    obtain ⟨B, h1, h2, h3, h4⟩ := hq
    have h5 := h3.rd (padF r.put.txt s.sz) s.sz (by rw [padF_len]; exact Nat.le_refl _) (by rw [padF_len]; exact Nat.le_refl _) (fun i hi => rfl)
    rw [padF_len, ← exs] at h5
    exact ⟨B, h1, h2, h5, h4⟩
  (try rw [← exs] at eQ)
  obtain ⟨kind, ⟨blk, tv, txt, past⟩, len⟩ := r
  dsimp only at hk hk2 hm hp hI eQ hZ hbk hby hbq
  obtain ⟨w1, e1⟩ : ∃ w1, w1 = w.alloc (.cells #[.int .i64 kind, .int .i64 blk, .slice A L cp, .bool past, .int .i64 len] 55) := ⟨_, rfl⟩
  have hb1 : Below w.heap.size w w1 := by rw [e1]; exact (Below.refl _ _).alloc (Nat.le_refl _) _
  have hs1 : w1.heap.size = w.heap.size + 1 := by rw [e1]; simp
  have hbl : ∀ W, Below w1.heap.size w1 W → W.cell? ⟨w.heap.size, 0, none⟩ = some (.int .i64 kind) ∧ W.cell? ⟨w.heap.size, 1, none⟩ = some (.int .i64 blk) ∧ W.cell? ⟨w.heap.size, 2, none⟩ = some (.slice A L cp) ∧ W.cell? ⟨w.heap.size, 3, none⟩ = some (.bool past) ∧ W.cell? ⟨w.heap.size, 4, none⟩ = some (.int .i64 len) := fun W hW => by
    have hb : Blk W w.heap.size 55 #[.int .i64 kind, .int .i64 blk, .slice A L cp, .bool past, .int .i64 len] := Blk.below (by rw [e1]; exact Blk.new _ _ _) hW (by omega)
    exact ⟨hb.cell 0, hb.cell 1, hb.cell 2, hb.cell 3, hb.cell 4⟩
  obtain ⟨NB, eNB⟩ : ∃ NB, NB = s.nb := ⟨_, rfl⟩
  obtain ⟨SZ, eSZ⟩ : ∃ SZ, SZ = s.sz := ⟨_, rfl⟩
  obtain ⟨p, ep⟩ : ∃ p : DSt × Int, p = (writeS s K xs, writeE s K xs.length) := ⟨_, rfl⟩
  have HFIN : Hid (∀ w2, DStep O w1 w2 d p.1 → Q (.returned (.int .i64 p.2)) w2) := Lib.hid (fun w2 h2 => by
    rw [eQ, ← ep]; exact ⟨rfl, DStep.comp (OnlyP.ofBelow hb1) (fun b hb => .inl hb) h2⟩)
  have HSAME : Hid (∀ W, Below w1.heap.size w1 W → DStep O w1 W d s) := Lib.hid (fun W hW => ⟨OnlyP.ofBelow hW, O, h.below (hb1.trans (hW.mono hb1.size)), fun b hb => .inl hb⟩)
  have HREP : Hid (∀ W, Below w1.heap.size w1 W → DRep O W d s) := Lib.hid (fun W hW => h.below (hb1.trans (hW.mono hb1.size)))
  have HNEW : Hid (∀ W B, Below w1.heap.size w1 W → W.heap.size ≤ B → ¬ O B) := Lib.hid (fun W B hW hB hO => by have := h.lt hO; have := hW.size; omega)
  have HBEL : Hid (∀ W, Below w1.heap.size w1 W → Below w.heap.size w W) := Lib.hid (fun W hW => hb1.trans (hW.mono hb1.size))
  have HCL := Lib.hid hbl
  have HZR := Lib.hid hZ
  have HBK := Lib.hid (hbk w1)
  have HBY := Lib.hid hby
  have HBQ := Lib.hid hbq
  have HXL := Lib.hid hxl
  have EP := Lib.hid ep
  have E1 := Lib.hid e1
  have HCAP := Lib.hid hcap
  have HCA2 : Hid (∀ k, (s.ca k).length ≤ 100000000000000) := Lib.hid (fun k => by have := hcap k; omega)
  have e1k : (kind == 1) = false := by simp; omega
  have e2k : (kind == 2) = false := by simp; omega
  subst hp
  rw [← eNB] at n1 n2 hK hZN HZR HBK ⊢
  rw [← eSZ] at n3 HBY HBQ HXL ⊢
  clear h hr hcap hI eQ eL hb1 hwf eNB eSZ hrs eK hZ hbk hby eZN edv exs hxl hbq hbl ep e1 hln hk hk2
  go_enter Try.func27, Try.ntmps27
  go_wp2_with fail
  rw [← E1.out]
  refine HBK.out.mono ?_
  rintro e w2 ⟨rfl, hb2⟩
  have HB := Lib.hid hb2
  obtain ⟨q0, q1, q2, q3, q4⟩ := HCL.out w2 hb2
  clear hb2 HBK
  go_wp2_with fail
  refine (HBY.out w2 (HBEL.out w2 HB.out)).mono ?_
  intro e w3 hbq
  obtain ⟨B3, rfl, hB3, hrd3, hb3⟩ := HBQ.out w2 e w3 hbq
  have HB3 := Lib.hid (HB.out.trans (hb3.mono HB.out.size))
  have hrn : RdN O w3 (.slice (some ⟨B3, 0, none⟩) SZ SZ) xs := ⟨hrd3, fun b off n c he _ hb => by
    simp only [Value.slice.injEq, Option.some.injEq, Addr.mk.injEq] at he
    exact HNEW.out w2 B3 HB.out hB3 (by rw [he.1.1]; exact hb)⟩
  have hwo := write_ok O w3 d s (K : Int) _ xs (HREP.out w3 HB3.out) hrn (HCAP.out _)
  have HWO := Lib.hid hwo
  clear hwo hrn hrd3 hb3 hB3 hbq HBY q0 q1 q2 q3 q4
  go_wp2_with fail
  refine HWO.out.mono ?_
  rintro e w4 ⟨er, rfl, her, hst⟩
  have HTR := Lib.hid (trouble_ok _ w4 er _ _ her)
  have HST := Lib.hid (show DStep O w1 w4 d p.1 by rw [EP.out]; exact DStep.comp (OnlyP.ofBelow HB3.out) (fun b hb => .inl hb) hst)
  clear her hst
  go_wp2_with fail
  refine HTR.out.mono ?_
  rintro e w5 ⟨rfl, nn, hw5⟩
  have HF := Lib.hid (HFIN.out w5 (by rw [hw5]; exact DStep.drewN HST.out nn))
  rw [EP.out] at HF
  dsimp only at HF
  clear hw5 HTR HFIN HST
  go_wp2_with fail
  first | exact HF.out | (go_ret; exact HF.out)
theorem run_ok (O : Nat → Prop) (w : World) (d : Nat) (s : DSt) (r : RunV) (m : Nat) (h : DRep O w d s) (hr : RdN O w r.put.tv r.put.txt) (hln : r.put.txt.length ≤ 9223372036854775807) (hI : I64 r.len) (hcap : ∀ k, ((s.ca k).length + 1) * 24 ≤ 200000000000000) :
    Calls Try.prog 27 #[r.agg, .pointer (some ⟨d, 0, none⟩), .int .i64 s.nb, .int .i64 s.sz, .int .i64 m] w (RunQ O w d (runR s r m)) := by
  by_cases hk : r.kind = 1
  · by_cases hz : zerosN r s.nb ≤ m
    · exact run_1a O w d s r m h hr hln hI hcap hk hz
    · exact run_1b O w d s r m h hr hln hI hcap hk (by omega)
  by_cases hk2 : r.kind = 2
  · by_cases hm : m = 0
    · exact run_20 O w d s r m h hr hln hI hcap hk2 hm
    · exact run_2 O w d s r m h hr hln hI hcap hk2 (by omega)
  by_cases hm : m = 0
  · exact run_p0 O w d s r m h hr hln hI hcap hk hk2 hm
  cases hp : r.put.past
  · exact run_pw O w d s r m h hr hln hI hcap hk hk2 (by omega) hp
  · exact run_pt O w d s r m h hr hln hI hcap hk hk2 (by omega) hp
end Go.Proofs.Ytigfcoibbmndpaa
