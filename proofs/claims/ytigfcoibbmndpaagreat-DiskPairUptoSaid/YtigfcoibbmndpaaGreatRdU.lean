/- The reference's Image; appending within the room that a slice has. -/
import Derived.Test.YtigfcoibbmndpaaGreatRdT
import Derived.Lib.AppendZerosOnto
import Derived.Outline
namespace Go.Proofs.YtigfcoibbmndpaaGreat
open Go.RowKit
open Go.ChangeMaps
set_option linter.unusedVariables false
set_option linter.unusedSimpArgs false
theorem zeroCells_repl (z : Value) (n : Nat) : Builtin.zeroCells #[z] n = (List.replicate n z).toArray := by
  apply Array.ext_getElem?
  intro i
  simp only [Builtin.zeroCells]
  by_cases h : i < n
  · simp [h, Nat.mod_one]
  · simp [h]
theorem run_append_zeros_room {P : Program} (w : World) (t tn ty e : TypeId) (i : TypeInfo) (z : Value) (kq kn : IntKind) (ht : P.underlying t = some (.slice e)) (htn : P.underlying tn = some (.int kn)) (hi : P.info? e = some i) (hz : i.zero = some z) (hz1 : z.cells = #[z]) (hs1 : i.size = 1) (ho : z.oneCell' = true)
    (g sLen sCap : Nat) (cur : Array Value) (hg : w.heap[g]? = some (.cells cur e (0, 0))) (k : Nat) (h0 : 0 < k) (h63 : (k : Int) ≤ 9223372036854775807) (h48 : k * i.bytes ≤ 281474976710656) (hroom : sLen + k ≤ sCap) (hfit : sLen + k ≤ cur.size) :
    (Builtin.append_ #[t, tn] ty #[.slice (some ⟨g, 0, none⟩) sLen sCap, .int kq k]).run P w =
      .ok (.slice (some ⟨g, 0, none⟩) (sLen + k) sCap) (w.setRow g (splice cur.toList sLen (List.replicate k z)).toArray) := by
  have hk : k ≠ 0 := by omega
  have hw : IntKind.i64.wrap (k : Int) = k := by rw [IntKind.wrap_i64]; omega
  have h48i : ¬ (281474976710656 < (k : Int) * (i.bytes : Int)) := by
    rw [← Int.natCast_mul]
    omega
  have hneg : ¬ ((k : Int) < 0) := by omega
  have hst := run_storeCells_at P g sLen e (List.replicate k z) 0 cur w hg (by simpa using hfit) (fun u hu => by rw [(List.mem_replicate.1 hu).2]; exact ho)
  simp only [Nat.add_zero] at hst
  have hzc := zeroCells_repl z k
  simp [Builtin.append_, run_underlying ht, run_underlying htn, sizeOf, typeInfo, zeroValue, hi, hz, asInt, asIntOf, hw, hneg, hk, hs1, hz1, h48i, hroom, Addr.add_lit, hzc, hst, splice]
/-- Bytes laid behind those that are there. -/
theorem RowA.behind {w : World} {g M : Nat} {l ys : List Int} {cur : Array Value} (hb : Blk w g 5 cur) (hM : cur.size = M) (hc : ∀ i, i < M → cur[i]? = some (.int .u8 (l.getD i 0))) (hfit : l.length + ys.length ≤ M) :
    RowA .u8 5 (w.setRow g (splice cur.toList l.length (ys.map (Value.int .u8))).toArray) g M (fun i => (l ++ ys).getD i 0) := by
  refine ⟨_, hb.setRow _, ?_, fun i hi => ?_⟩
  · simp [splice]; omega
  · unfold splice
    have hlt : (cur.toList.take l.length).length = l.length := by simp; omega
    show (_ : List Value).toArray[i]? = _
    rw [List.getElem?_toArray]
    show _ = some (Value.int .u8 ((l ++ ys).getD i 0))
    rw [List.getD_eq_getElem?_getD]
    by_cases h1 : i < l.length
    · rw [List.getElem?_append_left (l₁ := l) h1]
      have h9 : (cur.toList.take l.length ++ (ys.map (Value.int .u8) ++ cur.toList.drop (l.length + (ys.map (Value.int .u8)).length)))[i]? = cur[i]? := by
        rw [List.getElem?_append_left (by rw [hlt]; exact h1), List.getElem?_take, if_pos h1, Array.getElem?_toList]
      first | rw [h9, hc i hi, List.getD_eq_getElem?_getD] | (rw [List.append_assoc, h9, hc i hi, List.getD_eq_getElem?_getD])
    · rw [List.getElem?_append_right (l₁ := l) (by omega)]
      have h9 : (cur.toList.take l.length ++ (ys.map (Value.int .u8) ++ cur.toList.drop (l.length + (ys.map (Value.int .u8)).length)))[i]? = (ys.map (Value.int .u8) ++ cur.toList.drop (l.length + (ys.map (Value.int .u8)).length))[i - l.length]? := by
        rw [List.getElem?_append_right (by rw [hlt]; omega), hlt]
      have h8 : (ys.map (Value.int .u8) ++ cur.toList.drop (l.length + (ys.map (Value.int .u8)).length))[i - l.length]? = some (Value.int .u8 (ys[i - l.length]?.getD 0)) := by
        by_cases h2 : i < l.length + ys.length
        · rw [List.getElem?_append_left (by rw [List.length_map]; omega), List.getElem?_map, List.getElem?_eq_getElem (by omega)]; rfl
        · rw [List.getElem?_append_right (by rw [List.length_map]; omega), List.getElem?_drop, Array.getElem?_toList, List.length_map, show l.length + ys.length + (i - l.length - ys.length) = i by omega, hc i hi, List.getD_eq_getElem?_getD, List.getElem?_eq_none (l := l) (by omega), List.getElem?_eq_none (l := ys) (by omega)]
      first | rw [h9, h8] | (rw [List.append_assoc, h9, h8])
theorem run_make_room0 {P : Program} (t e : TypeId) (z : Value) (bytes : Nat) (ht : P.underlying t = some (.slice e)) (hinfo : (P.info? e).map (fun i => (i.zero, i.size, i.bytes)) = some (some z, 1, bytes)) (hz1 : z.cells = #[z])
    (kl kc : IntKind) (c : Nat) (hbytes : bytes * c ≤ 281474976710656) (h63 : c ≤ 9223372036854775807) (w : World) :
    (Instr.makeSlice t (.int kl 0) (.int kc (c : Int))).run P w = .ok (.slice (some ⟨w.heap.size, 0, none⟩) 0 c) (w.alloc (.cells (madeCells #[z] c) e)) := by
  obtain ⟨i, hi, hz, hs, hb⟩ := info_parts hinfo
  have hb' : (i.bytes : Int) * (c : Int) ≤ 281474976710656 := by
    have h : ((i.bytes * c : Nat) : Int) ≤ 281474976710656 := by rw [hb]; omega
    rwa [Int.natCast_mul] at h
  have hr := run_make (P := P) w t e i z ht hi hz kl kc 0 c (Int.le_refl _) (by omega) hb' (by omega)
  simpa [hs, hz1] using hr
theorem below_setRow {C g : Nat} {w w' : World} (h : Below C w w') (hg : C ≤ g) (cs : Array Value) : Below C w (w'.setRow g cs) :=
  ⟨h.os, h.tape, h.output, by rw [size_setRow]; exact h.size, fun k hk => (heap_setRow w' g k cs (by omega)).trans (h.block k hk)⟩
def ImageRQ (w : World) (s : DSt) (e : Ending) (w' : World) : Prop :=
  ∃ g, e = .returned (.slice (some ⟨g, 0, none⟩) (s.nb * s.sz) (s.nb * s.sz)) ∧ w.heap.size ≤ g ∧ RowA .u8 5 w' g (s.nb * s.sz) (fun i => (imgL s s.nb).getD i 0) ∧ Below w.heap.size w w'
set_option maxHeartbeats 4000000 in
set_option maxRecDepth 100000 in
theorem rimage_ok (P : Nat → Prop) (w : World) (r : Nat) (s : DSt) (wh : Int) (n : Nat) (h : RRep P w r s wh n) :
    Calls Tryz.prog 39 #[.pointer (some ⟨r, 0, none⟩)] w (ImageRQ w s) := by
  obtain ⟨Bm, Bs, cm, cs, vc, G, C, hx, hP, hl, hn⟩ := h
  obtain ⟨Q, eQ⟩ : ∃ Q, Q = ImageRQ w s := ⟨_, rfl⟩
  rw [← eQ]
  have EQ := Lib.hid eQ
  have hnb1 := hx.wf.nb1
  have hnb2 := hx.wf.nb2
  have hs0 := hx.wf.sz0
  have hs1 := hx.wf.sz1
  have hmm : s.nb * s.sz ≤ 8388608 := Nat.le_trans (Nat.mul_le_mul hnb2 hs1) (by decide)
  obtain ⟨nb, enb⟩ : ∃ nb, nb = s.nb := ⟨_, rfl⟩
  obtain ⟨sz, esz⟩ : ∃ sz, sz = s.sz := ⟨_, rfl⟩
  have ENB := Lib.hid enb
  have ESZ := Lib.hid esz
  have c0 : w.cell? ⟨r, 0, none⟩ = some (.int .i64 nb) := by rw [enb]; exact hx.blk.cell 0
  have c1 : w.cell? ⟨r, 1, none⟩ = some (.int .i64 sz) := by rw [esz]; exact hx.blk.cell 1
  obtain ⟨M, eM⟩ : ∃ M, M = nb * sz := ⟨_, rfl⟩
  rw [← enb] at hnb1 hnb2
  rw [← esz] at hs0 hs1
  rw [← enb, ← esz] at hmm
  have m1 : (nb : Int) * (sz : Int) = (M : Int) := by rw [eM]; exact (Int.natCast_mul _ _).symm
  have hM : M ≤ 8388608 := by rw [eM]; exact hmm
  have hwM : IntKind.i64.wrap (M : Int) = (M : Int) := IntWalk.i64_in _ (by omega)
  have EM := Lib.hid eM
  have HX := Lib.hid hx
  obtain ⟨i0, hi0, hz0, hz1, hz2⟩ := info_parts info_u8
  have hrun := run_make_room0 (P := Tryz.prog) 22 5 (.int .u8 0) 1 Tryz.underlying22 info_u8 rfl .i64 .i64 M (by omega) (by omega) w.drew
  have hrun0 := run_make_room0 (P := Tryz.prog) 22 5 (.int .u8 0) 1 Tryz.underlying22 info_u8 rfl .i64 .i64 M (by omega) (by omega) w
  clear hx hP hl hn eQ enb esz eM hmm
  go_enter Tryz.func39, Tryz.ntmps39
  go_wp2_with fail
  go_still_tail 9, (by kernel_rfl)
  change wpList _ _ _ _ _ w.drew
  obtain ⟨wd, ewd⟩ : ∃ wd, wd = w.drew := ⟨_, rfl⟩
  rw [← ewd] at hrun ⊢
  have hwd : Below w.heap.size w wd := by rw [ewd]; exact ⟨rfl, rfl, rfl, Nat.le_refl _, fun _ _ => rfl⟩
  have hzd : wd.heap.size = w.heap.size := by rw [ewd]; rfl
  have HWD := Lib.hid hwd
  have hzd2 := hzd
  clear hwd hzd ewd hrun0
  go_wp2_with fail
  obtain ⟨G0, eG0⟩ : ∃ G0, G0 = w.heap.size := ⟨_, rfl⟩
  obtain ⟨w2, e2⟩ : ∃ w2, w2 = wd.alloc (.cells (madeCells #[.int .u8 0] M) 5) := ⟨_, rfl⟩
  have hb2 : Below w.heap.size w w2 := by rw [e2]; exact HWD.out.alloc (by rw [hzd2]; exact Nat.le_refl _) _
  have hr2 : RowA .u8 5 w2 G0 M (fun i => (imgL s 0).getD i 0) := by
    rw [e2, eG0, ← hzd2]; exact (RowA.made .u8 5 wd M).congr (fun i _ => by simp [imgL])
  rw [← e2, ← eG0]
  have HB2 := Lib.hid hb2
  have HR2 := Lib.hid hr2
  have EG0 := Lib.hid eG0
  have hle0 : w.heap.size ≤ G0 := by omega
  clear hb2 hr2 e2 hrun hzd2 c0 c1 m1 eG0
  go_loopw [3, 4] (fun l b wr => ∃ k : Nat, k ≤ nb ∧ b = .int .i64 k ∧ l = .slice (some ⟨G0, 0, none⟩) (k * sz) M ∧ RowA .u8 5 wr G0 M (fun i => (imgL s k).getD i 0) ∧ Below w.heap.size w wr) (fun _ b _ => nb - (intOf b).toNat)
  case atStart => exact ⟨0, Nat.zero_le _, rfl, by rw [Nat.zero_mul], HR2.out, HB2.out⟩
  case round =>
    obtain ⟨k, hk, rfl, rfl, hrow, hb⟩ := hrel
    have hxk := HX.out.keep (w1 := wr) (fun b hb' => hb.block b (HX.out.lts b hb')) hb.size
    have c0 : wr.cell? ⟨r, 0, none⟩ = some (.int .i64 nb) := by rw [ENB.out]; exact hxk.blk.cell 0
    have HB := Lib.hid hb
    have HROW := Lib.hid hrow
    by_cases hlt : k < nb
    · have hks : k < s.nb := by rw [← ENB.out]; exact hlt
      have c3 : wr.cell? ⟨r, 3, none⟩ = some (.slice (some ⟨Bs, 0, none⟩) nb cs) := by rw [ENB.out]; exact hxk.blk.cell 3
      have c1 : wr.cell? ⟨r, 1, none⟩ = some (.int .i64 sz) := by rw [ESZ.out]; exact hxk.blk.cell 1
      have c2 : wr.cell? ⟨r, 2, none⟩ = some (.slice (some ⟨Bm, 0, none⟩) nb cm) := by rw [ENB.out]; exact hxk.blk.cell 2
      obtain ⟨scur, t1, t2, t3⟩ := hxk.spo
      have ks : wr.cell? ⟨Bs, k, none⟩ = some (.bool (s.sp k)) := (t1.cell k).trans (t3 k hks)
      obtain ⟨mcur, u1, u2, u3⟩ := hxk.med
      obtain ⟨v, mv, bD, rfl, hGD, hrowD⟩ := u3 k hks
      rw [← ESZ.out] at mv hrowD
      have km : wr.cell? ⟨Bm, k, none⟩ = some (.slice (some ⟨bD, 0, none⟩) sz sz) := (u1.cell k).trans mv
      have hkB : (imgB s k).length = sz := by rw [imgB_len HX.out.wf hks, ESZ.out]
      have hkL : (imgL s k).length = k * sz := by rw [imgL_len HX.out.wf k (Nat.le_of_lt hks), ESZ.out]
      have hk1 : k * sz + sz ≤ M := by
        rw [EM.out, ← Nat.succ_mul]; exact Nat.mul_le_mul_right sz (by omega)
      obtain ⟨cur, b1, b2, b3⟩ := hrow
      have hnext := RowA.behind (ys := imgB s k) b1 b2 b3 (by rw [hkL, hkB]; exact hk1)
      rw [← imgL_succ, hkL] at hnext
      have hbn : Below w.heap.size w (wr.setRow G0 (splice cur.toList (k * sz) ((imgB s k).map (Value.int .u8))).toArray) := below_setRow HB.out hle0 _
      have HNX := Lib.hid hnext
      have HBN := Lib.hid hbn
      have hlen1 : k * sz + sz = (k + 1) * sz := (Nat.succ_mul k sz).symm
      have HL1 := Lib.hid hlen1
      cases hsp : s.sp k
      · rw [hsp] at ks
        have hB : imgB s k = s.dur k := by unfold imgB; rw [hsp]; rfl
        have hrun1 := run_append_room (P := Tryz.prog) wr 22 22 5 i0 Tryz.underlying22 hi0 G0 (k * sz) M cur b1 ⟨bD, 0, none⟩ sz sz ((imgB s k).map (Value.int .u8)) (by rw [List.length_map, hkB, hz1]; omega) (rd_news (by rw [hB]; exact hrowD) (Nat.le_of_eq hkB)) (fun u hu => by obtain ⟨z, _, rfl⟩ := List.mem_map.1 hu; rfl) hk1 (by rw [hz1, List.length_map, hkB, b2]; omega)
        rw [hz1, Nat.mul_one] at hrun1
        first | rw [List.append_assoc] at hrun1 | skip
        have HRUN := Lib.hid hrun1
        clear hrun1 hB hnext hbn hlen1 hkL hkB t1 t2 t3 u1 u2 u3 mv hGD hrowD hxk hb hsp b1 b2 b3
        go_wp2_with (at_builtin; refine Lib.wpList_append_run _ rfl (.tmp 36) (.tmp 43) 22 22 rfl _ _ rfl rfl _ _ HRUN.out ?_)
        go_roundw
        case rel => first | exact ⟨k + 1, by omega, by go_num, by rw [HL1.out], HNX.out, HBN.out⟩ | (have h1 := HNX.out; have h2 := HBN.out; unfold splice at h1 h2; rw [List.length_map] at h1 h2; exact ⟨k + 1, by omega, by go_num, by rw [HL1.out], h1, h2⟩)
        case measure => simp [intOf] <;> omega
      · rw [hsp] at ks
        have hB : imgB s k = List.replicate sz 0 := by unfold imgB; rw [hsp, if_pos rfl, ESZ.out]
        have hrun1 := run_append_zeros_room (P := Tryz.prog) wr 22 3 22 5 i0 (.int .u8 0) .i64 .i64 Tryz.underlying22 Tryz.underlying3 hi0 hz0 rfl hz1 rfl G0 (k * sz) M cur b1 sz hs0 (by omega) (by rw [hz2]; omega) hk1 (by rw [b2]; exact hk1)
        rw [show List.replicate sz (Value.int .u8 0) = (imgB s k).map (Value.int .u8) by rw [hB, List.map_replicate]] at hrun1
        have HRUN := Lib.hid hrun1
        clear hrun1 hB hnext hbn hlen1 hkL hkB t1 t2 t3 u1 u2 u3 mv hGD hrowD hxk hb hsp b1 b2 b3
        go_wp2_with (at_builtin; refine Lib.wpList_append_run _ rfl (.tmp 30) (.tmp 34) 22 3 rfl _ _ rfl rfl _ _ HRUN.out ?_)
        go_roundw
        case rel => first | exact ⟨k + 1, by omega, by go_num, by rw [HL1.out], HNX.out, HBN.out⟩ | (have h1 := HNX.out; have h2 := HBN.out; unfold splice at h1 h2; rw [List.length_map] at h1 h2; exact ⟨k + 1, by omega, by go_num, by rw [HL1.out], h1, h2⟩)
        case measure => simp [intOf] <;> omega
    · obtain rfl : nb = k := by omega
      have hF : Q (.returned (.slice (some ⟨G0, 0, none⟩) (nb * sz) M)) wr := by
        rw [EQ.out]
        refine ⟨G0, by rw [EM.out, ← ENB.out, ← ESZ.out], hle0, ?_, HB.out⟩
        rw [← ENB.out, ← ESZ.out, ← EM.out]; exact hrow
      have HF := Lib.hid hF
      clear hF hrow hb hxk
      go_wp2_with fail
      first | exact HF.out | (go_ret; exact HF.out)
end Go.Proofs.YtigfcoibbmndpaaGreat
