/- The disk's calls: Image. -/
import Derived.Test.YtigfcoibbmndpaaGreatIsE
import Derived.Outline
namespace Go.Proofs.YtigfcoibbmndpaaGreat
open Go.RowKit
open Go.ChangeMaps
set_option linter.unusedVariables false
set_option linter.unusedSimpArgs false
/-- What Image tells of a block; of the first k. -/
def imgB (s : DSt) (k : Nat) : List Int := if s.sp k = true then List.replicate s.sz 0 else s.dur k
def imgL (s : DSt) (k : Nat) : List Int := (List.range k).flatMap (imgB s)
theorem imgL_succ (s : DSt) (k : Nat) : imgL s (k + 1) = imgL s k ++ imgB s k := by
  unfold imgL
  rw [List.range_succ, List.flatMap_append]
  simp
theorem imgB_len {s : DSt} (h : DWf s) {k : Nat} (hk : k < s.nb) : (imgB s k).length = s.sz := by
  unfold imgB
  split
  · simp
  · exact h.dl k hk
theorem imgL_len {s : DSt} (h : DWf s) (k : Nat) (hk : k ≤ s.nb) : (imgL s k).length = k * s.sz := by
  induction k with
  | zero => simp [imgL]
  | succ k ih => rw [imgL_succ, List.length_append, ih (by omega), imgB_len h (by omega), Nat.succ_mul]
def ImageQ (O : Nat → Prop) (w : World) (d : Nat) (s : DSt) (e : Ending) (w' : World) : Prop :=
  ∃ v, e = .returned v ∧ w'.ownsRow w.heap.size 5 1 v (imgL s s.nb).length ((imgL s s.nb).map (Value.int .u8)) ∧ OnlyP O w w' ∧ DRep O w' d s
theorem own_only {O : Nat → Prop} {w w1 : World} {B : Nat} {e : TypeId} {v : Value} {n : Nat} {xs : List Value} (h : w.ownsRow B e 1 v n xs) (ho : OnlyP O w w1) (hne : ∀ g, B ≤ g → ¬ O g) : w1.ownsRow B e 1 v n xs := by
  refine ⟨h.1, ?_⟩
  rcases h.2 with h | ⟨g, cap, cur, rfl, a1, a2, a3⟩
  · exact .inl h
  · exact .inr ⟨g, cap, cur, rfl, a1, (ho.block g (Array.getElem?_eq_some_iff.1 a2).1 (hne g a1)).trans a2, a3⟩
theorem info_u8 : (Tryz.prog.info? 5).map (fun i => (i.zero, i.size, i.bytes)) = some (some (.int .u8 0), 1, 1) := by kernel_rfl
theorem rd_news {w : World} {B n : Nat} {l : List Int} (h : RowA .u8 5 w B n (fun i => l.getD i 0)) (hl : l.length ≤ n) : ∀ j u, (l.map (Value.int .u8))[j]? = some u → w.cell? (Addr.add ⟨B, 0, none⟩ j) = some u := by
  intro j u hj
  have hlt : j < l.length := by
    by_cases h : j < l.length
    · exact h
    · rw [List.getElem?_eq_none (by simp; omega)] at hj; cases hj
  rw [Go.WideShapes.add_plain, Nat.zero_add, h.cell j (by omega)]
  simp only [List.getElem?_map, List.getElem?_eq_getElem hlt, Option.map_some, Option.some.injEq] at hj
  rw [← hj, List.getD_eq_getElem?_getD, List.getElem?_eq_getElem hlt]
  rfl
set_option maxHeartbeats 4000000 in
set_option maxRecDepth 100000 in
theorem image_ok (O : Nat → Prop) (w : World) (d : Nat) (s : DSt) (h : DRep O w d s) :
    Calls Tryz.prog 38 #[.pointer (some ⟨d, 0, none⟩)] w (ImageQ O w d s) := by
  obtain ⟨m, c, B, ms, mc, F, G, hx, hO, hl⟩ := id h
  obtain ⟨Q, eQ⟩ : ∃ Q, Q = ImageQ O w d s := ⟨_, rfl⟩
  rw [← eQ]
  have hwf := hx.wf
  have hnb1 := hx.wf.nb1
  have hnb2 := hx.wf.nb2
  have hs0 := hx.wf.sz0
  have hs1 := hx.wf.sz1
  have hmm : s.nb * s.sz ≤ 8388608 := Nat.le_trans (Nat.mul_le_mul hnb2 hs1) (by decide)
  have c0 : w.cell? ⟨d, 0, none⟩ = some (.int .i64 s.nb) := hx.blk.cell 0
  have c1 : w.cell? ⟨d, 1, none⟩ = some (.int .i64 s.sz) := hx.blk.cell 1
  obtain ⟨M, eM⟩ : ∃ M, M = s.nb * s.sz := ⟨_, rfl⟩
  have m1 : (s.nb : Int) * (s.sz : Int) = (M : Int) := by rw [eM]; exact (Int.natCast_mul _ _).symm
  have hM : M ≤ 8388608 := by rw [eM]; exact hmm
  have EQ := Lib.hid eQ
  have HD := Lib.hid h
  have HX := Lib.hid hx
  have HL := Lib.hid hl
  have EM := Lib.hid eM
  have HWF := Lib.hid hwf
  obtain ⟨i0, hi0, hz0, hz1, hz2⟩ := info_parts info_u8
  obtain ⟨wI, hrun, hoI, hgI⟩ := run_make_own (P := Tryz.prog) w.drew w.heap.size 22 5 i0 (.int .u8 0) 1 Tryz.underlying22 hi0 hz0 hz1 .i64 .i64 M (by rw [hz2]; omega) (by unfold maxLen; omega) (Nat.le_refl _)
  have hbI : Below w.heap.size w wI := ⟨hgI.os, hgI.tape, hgI.output, hgI.size, fun b hb => hgI.block b hb (by simp)⟩
  have HBI := Lib.hid hbI
  have HOI := Lib.hid hoI
  have hOg : ∀ g, w.heap.size ≤ g → ¬ O g := fun g hg hc => by have := hl g hc; omega
  have HOG := Lib.hid hOg
  have cI0 : wI.cell? ⟨d, 0, none⟩ = some (.int .i64 s.nb) := (hx.keep (fun b hb => hbI.block b (hl b (hO b hb))) hbI.size).blk.cell 0
  clear eQ h hx hO hl eM hwf hmm hbI hoI hgI hOg
  go_enter Tryz.func38, Tryz.ntmps38
  go_wp2_with fail
  go_still_tail 9, (by kernel_rfl)
  go_wp2_with fail
  rw [hrun]
  go_wp2_with fail
  obtain ⟨nb, enb⟩ : ∃ nb, nb = s.nb := ⟨_, rfl⟩
  obtain ⟨sz, esz⟩ : ∃ sz, sz = s.sz := ⟨_, rfl⟩
  have ENB := Lib.hid enb
  have ESZ := Lib.hid esz
  rw [← enb] at hnb1 hnb2 m1 c0 cI0 ⊢
  rw [← esz] at hs0 hs1 m1 c1 ⊢
  clear enb esz c0 c1 cI0 hrun
  go_loopw [3, 4, 5, 6, 21] (fun u _ _ _ b wr => ∃ v, ∃ k : Nat, v = u ∧ k ≤ nb ∧ b = .int .i64 k ∧ wr.ownsRow w.heap.size 5 1 v (k * sz) ((imgL s k).map (Value.int .u8)) ∧ OnlyP O w wr ∧ DRep O wr d s) (fun _ _ _ _ b _ => nb - (intOf b).toNat)
  case atStart =>
    refine ⟨_, 0, rfl, by omega, rfl, ?_, OnlyP.ofBelow HBI.out, HD.out.below HBI.out⟩
    rw [Nat.zero_mul]
    exact HOI.out
  case round =>
    obtain ⟨v, k, rfl, hk, rfl, hown, honl, hdr⟩ := hrel
    have HOWN := Lib.hid hown
    have HON := Lib.hid honl
    have HDR := Lib.hid hdr
    clear hown honl hdr HBI HOI
    by_cases hlt : k < nb
    · have hdu := durable_ok O wr d s (k : Int) HDR.out
      have hin : s.inr (k : Int) := ⟨by omega, by have := ENB.out; omega⟩
      have cs : wr.cell? ⟨d, 1, none⟩ = some (.int .i64 sz) := by
        rw [ESZ.out]
        obtain ⟨m1, c1, hb1⟩ := blkD HDR.out
        exact hb1.cell 1
      have hkB : (imgB s k).length = sz := by rw [imgB_len HWF.out (by have := ENB.out; omega), ESZ.out]
      have hk1 : k * sz + sz ≤ 8388608 := by
        have h2 : (k + 1) * sz ≤ 8192 * 1024 := Nat.mul_le_mul (by omega) hs1
        rw [Nat.succ_mul] at h2
        omega
      have hend : ∀ v4 w3 w4, wr.heap.size ≤ w3.heap.size → OnlyP O wr w3 → DRep O w3 d s → w4.ownsRow w.heap.size 5 1 v4 (k * sz + sz) ((imgL s k).map (Value.int .u8) ++ (imgB s k).map (Value.int .u8)) → w3.grownBy w4 v.ownBlock →
          w4.ownsRow w.heap.size 5 1 v4 ((k + 1) * sz) ((imgL s (k + 1)).map (Value.int .u8)) ∧ OnlyP O w w4 ∧ DRep O w4 d s := fun v4 w3 w4 hsz hon3 hdr3 ho4 hg4 => by
        refine ⟨?_, ?_, ?_⟩
        · rw [Nat.succ_mul, imgL_succ, List.map_append]; exact ho4
        · exact (HON.out.then hon3).grown hg4 (fun g hg => .inr (HOWN.out.lt g hg).1)
        · exact hdr3.keep (fun b hb => hg4.block b (hdr3.lt hb) (fun e => HOG.out b (HOWN.out.lt b e.symm).1 hb)) hg4.size
      have HE := Lib.hid hend
      have HDU := Lib.hid hdu
      have HKB := Lib.hid hkB
      clear hend hdu hkB
      by_cases hsp : s.sp k = true
      · have e1 : durE s k = 21 ∧ durX s k = [] := by
          have e : durE s k = 21 := by unfold durE; rw [if_neg (fun h => h hin), if_pos (by rw [show ((k : Int)).toNat = k by omega]; exact hsp)]
          exact ⟨e, by unfold durX; rw [e, if_pos (by simp)]⟩
        have hB : imgB s k = List.replicate sz 0 := by unfold imgB; rw [if_pos hsp, ESZ.out]
        have E1 := Lib.hid e1
        have HB := Lib.hid hB
        clear e1 hB hsp hin
        go_wp2_with fail
        refine HDU.out.mono ?_
        rintro e w2 ⟨x, er, rfl, hxs, her, hon2, hdr2⟩
        rw [E1.out.1] at her
        rw [E1.out.2] at hxs
        rcases her with ⟨_, h⟩ | ⟨b, rfl, hlb, _, hblk⟩
        · cases h
        have HIS := Lib.hid (is_block b k 21 w2 hblk)
        have cs2 : w2.cell? ⟨d, 1, none⟩ = some (.int .i64 sz) := by
          rw [ESZ.out]
          obtain ⟨m1, c1, hb1⟩ := blkD hdr2
          exact hb1.cell 1
        have HON2 := Lib.hid hon2
        have HDR2 := Lib.hid hdr2
        clear hxs hblk hon2 hdr2 cs hlb E1
        go_wp2_with fail
        refine HIS.out.mono ?_
        rintro e w3 ⟨rfl, rfl⟩
        clear HIS
        have hmk := fun w => run_make_row' (P := Tryz.prog) 22 5 (.int .u8 0) 1 Tryz.underlying22 hd_info5 rfl .i64 .i64 sz (by omega) (by omega) w
        have hrowZ : RowA .u8 5 (w2.alloc (.cells (madeCells #[.int .u8 0] sz) 5)) w2.heap.size sz (fun i => (imgB s k).getD i 0) := by
          rw [HB.out]
          exact (RowA.made .u8 5 w2 sz).congr fun i hi => by simp [hi]
        have HRZ := Lib.hid hrowZ
        clear hrowZ
        have hown2 : (w2.alloc (.cells (madeCells #[.int .u8 0] sz) 5)).ownsRow w.heap.size 5 1 v (k * sz) ((imgL s k).map (Value.int .u8)) := (own_only HOWN.out HON2.out HOG.out).alloc _
        have HOWN2 := Lib.hid hown2
        clear hown2
        go_wp2_with (with_reducible refine wpList_append_own _ rfl (.tmp 38) (.tmp 39) 22 rfl w.heap.size 5 i0 (.int .u8 0) 1 1 Tryz.underlying22 hi0 hz0 hz1 hz2 rfl (by decide) v (k * sz) ((imgL s k).map (Value.int .u8)) rfl HOWN2.out ⟨w2.heap.size, 0, none⟩ sz sz ((imgB s k).map (Value.int .u8)) rfl ?c0 ?c1 ?c2 ?c3 ?c4 ?c5 ?_)
        case c0 => simp [HKB.out]
        case c1 => exact rd_news HRZ.out (Nat.le_of_eq HKB.out)
        case c2 => intro u hu; obtain ⟨z, _, rfl⟩ := List.mem_map.1 hu; rfl
        case c3 => unfold maxLen; omega
        case c4 => omega
        case c5 => have := HON.out.size; have := HON2.out.size; simp; omega
        intro v4 w4 ho4 hg4 _
        obtain ⟨ho5, hon5, hdr5⟩ := HE.out v4 _ w4 (by have := HON2.out.size; simp; omega) (HON2.out.alloc _) (HDR2.out.below ((Below.refl _ _).alloc (Nat.le_refl _) _)) ho4 hg4
        have HO5 := Lib.hid ho5
        have HON5 := Lib.hid hon5
        have HDR5 := Lib.hid hdr5
        clear ho4 hg4 ho5 hon5 hdr5 HE HOWN2 HOWN
        go_wp2_with fail
        go_roundw
        case rel => first | exact ⟨_, k + 1, rfl, by omega, by go_num, HO5.out, HON5.out, HDR5.out⟩ | ((repeat apply Exists.intro); exact ⟨⟨_, k + 1, rfl, by omega, by go_num, HO5.out, HON5.out, HDR5.out⟩, rfl⟩)
        case measure => simp [intOf] <;> omega
      · have e1 : durE s k = 0 ∧ durX s k = s.dur k := by
          have e : durE s k = 0 := by unfold durE; rw [if_neg (fun h => h hin), if_neg (by rw [show ((k : Int)).toNat = k by omega]; exact hsp)]
          exact ⟨e, by unfold durX; rw [e, if_neg (by simp), show ((k : Int)).toNat = k by omega]⟩
        have hB : imgB s k = s.dur k := by unfold imgB; rw [if_neg hsp]
        have E1 := Lib.hid e1
        have HB := Lib.hid hB
        clear e1 hB hsp hin
        go_wp2_with fail
        refine HDU.out.mono ?_
        rintro e w2 ⟨x, er, rfl, hxs, her, hon2, hdr2⟩
        rw [E1.out.1] at her
        rw [E1.out.2, ← HB.out] at hxs
        obtain rfl : er = .nilIface := by
          rcases her with ⟨h, _⟩ | ⟨b, _, _, h, _⟩
          · exact h
          · exact absurd rfl h
        rcases hxs with ⟨_, h⟩ | ⟨B1, rfl, hB1, hrB⟩
        · have := HKB.out; rw [h] at this; simp at this; omega
        rw [HKB.out] at hrB ⊢
        have HIS := Lib.hid (is_nil 21 w2)
        have HON2 := Lib.hid hon2
        have HDR2 := Lib.hid hdr2
        have HRB := Lib.hid hrB
        clear her hrB hon2 hdr2 cs E1
        go_wp2_with fail
        refine HIS.out.mono ?_
        rintro e w3 ⟨rfl, rfl⟩
        clear HIS
        have hown2 : w2.ownsRow w.heap.size 5 1 v (k * sz) ((imgL s k).map (Value.int .u8)) := own_only HOWN.out HON2.out HOG.out
        have HOWN2 := Lib.hid hown2
        clear hown2
        go_wp2_with (with_reducible refine wpList_append_own _ rfl (.tmp 38) (.tmp 39) 22 rfl w.heap.size 5 i0 (.int .u8 0) 1 1 Tryz.underlying22 hi0 hz0 hz1 hz2 rfl (by decide) v (k * sz) ((imgL s k).map (Value.int .u8)) rfl HOWN2.out ⟨B1, 0, none⟩ sz sz ((imgB s k).map (Value.int .u8)) rfl ?c0 ?c1 ?c2 ?c3 ?c4 ?c5 ?_)
        case c0 => simp [HKB.out]
        case c1 => exact rd_news HRB.out (Nat.le_of_eq HKB.out)
        case c2 => intro u hu; obtain ⟨z, _, rfl⟩ := List.mem_map.1 hu; rfl
        case c3 => unfold maxLen; omega
        case c4 => omega
        case c5 => have := HON.out.size; have := HON2.out.size; simp; omega
        intro v4 w4 ho4 hg4 _
        obtain ⟨ho5, hon5, hdr5⟩ := HE.out v4 _ w4 HON2.out.size HON2.out HDR2.out ho4 hg4
        have HO5 := Lib.hid ho5
        have HON5 := Lib.hid hon5
        have HDR5 := Lib.hid hdr5
        clear ho4 hg4 ho5 hon5 hdr5 HE HOWN2 HOWN
        go_wp2_with fail
        go_roundw
        case rel => first | exact ⟨_, k + 1, rfl, by omega, by go_num, HO5.out, HON5.out, HDR5.out⟩ | ((repeat apply Exists.intro); exact ⟨⟨_, k + 1, rfl, by omega, by go_num, HO5.out, HON5.out, HDR5.out⟩, rfl⟩)
        case measure => simp [intOf] <;> omega
    · obtain rfl : nb = k := by omega
      have hfin : Q (.returned v) wr := by
        rw [EQ.out]
        refine ⟨v, rfl, ?_, HON.out, HDR.out⟩
        rw [← ENB.out, imgL_len HWF.out _ (by rw [ENB.out]; exact Nat.le_refl _), ← ESZ.out]
        exact HOWN.out
      have HF := Lib.hid hfin
      clear hfin
      go_wp2_with fail
      first | exact HF.out | (go_ret; exact HF.out)
end Go.Proofs.YtigfcoibbmndpaaGreat
