/- The digest of a list, the document's: Sum256. -/
import Derived.Test.YtjcinelcocmpnaaDoorRefD
namespace Go.Proofs.YtjcinelcocmpnaaDoor
open Go.RowKit
set_option linter.unusedVariables false
set_option linter.unusedSimpArgs false
/-- The tables of the document's digest. -/
def TabR (ks : List Int) (S : St) (w : World) : Prop := BlkG w 0 S.arr ∧ BlkG w 1 (ks.map (Value.int .u32)).toArray
theorem TabR.below {ks : List Int} {S : St} {w w1 : World} (h : TabR ks S w) (hb : Below w.heap.size w w1) : TabR ks S w1 := ⟨h.1.below hb h.1.lt, h.2.below hb h.2.lt⟩
theorem TabR.drewN {ks : List Int} {S : St} {w : World} (h : TabR ks S w) (n : Nat) : TabR ks S (w.drewN n) := h
theorem TabR.alloc {ks : List Int} {S : St} {w : World} (h : TabR ks S w) (o : Obj) : TabR ks S (w.alloc o) := ⟨h.1.alloc o, h.2.alloc o⟩
set_option maxHeartbeats 1000000 in
set_option maxRecDepth 100000 in
theorem rsum_ok (S : St) (ks : List Int) (b off c : Nat) (xs : List Int) (w : World) (hT : TabR ks S w) (hk : ks.length = 64) (hb : b < w.heap.size) (h0 : 0 < xs.length) (hn : xs.length ≤ 4096) (hc : ∀ i, i < xs.length → w.cell? ⟨b, off + i, none⟩ = some (.int .u8 (xs.getD i 0))) :
    Calls Tryd.prog 29 #[.slice (some ⟨b, off, none⟩) xs.length c] w fun e w' => e = .returned (aggOf .u8 (shaF (fun i => ks.getD i 0) S xs)) ∧ Below w.heap.size w w' := by
  obtain ⟨z32, hz32, e32⟩ : ∃ zc : Array Value, (∀ w, (zeroValue 44).run Tryd.prog w = .ok (.agg zc) w) ∧ zc = (List.replicate 32 (Value.int .u8 0)).toArray :=
    ⟨(List.replicate 32 (Value.int .u8 0)).toArray, fun w => by kernel_rfl, rfl⟩
  have hzs : z32.size = 32 := by rw [e32]; rfl
  obtain ⟨wA, ewA⟩ : ∃ wA, wA = w.alloc (.cells z32 44) := ⟨_, rfl⟩
  have hbA : Below w.heap.size w wA := by rw [ewA]; exact (Below.refl _ _).alloc (Nat.le_refl _) _
  have hzA : Blk wA w.heap.size 44 z32 := by rw [ewA]; exact Blk.newAt _ _ _ _ rfl
  obtain ⟨⟨t1, hg1⟩, t2, hg2⟩ := hT.below hbA
  have hsw := sumWith_ok S ks b off c xs wA hk (Nat.lt_of_lt_of_le hb hbA.size) h0 hn (fun i hi => (hbA.cell (p := ⟨b, off + i, none⟩) hb).trans (hc i hi))
  obtain ⟨n, en⟩ : ∃ n, n = xs.length := ⟨_, rfl⟩
  obtain ⟨ka, eka⟩ : ∃ arr, arr = (ks.map (Value.int .u32)).toArray := ⟨_, rfl⟩
  obtain ⟨sx, esx⟩ : ∃ sx, sx = S.arr := ⟨_, rfl⟩
  rw [← eka, ← esx] at hsw
  rw [← eka] at hg2
  rw [← esx] at hg1
  rw [← en] at hsw ⊢
  have k1 : (Tryd.prog.info? 71).map (·.size) = some sx.size := by rw [esx]; exact st8_size
  have k2 : (Tryd.prog.info? 72).map (·.size) = some ka.size := by rw [eka]; simp only [List.size_toArray, List.length_map, hk]; exact sh_size
  have HSW := Lib.hid hsw
  have HBA := Lib.hid hbA
  have HZA := Lib.hid hzA
  have HG1 := Lib.hid hg1
  have HG2 := Lib.hid hg2
  have K1 := Lib.hid k1
  have K2 := Lib.hid k2
  have HZS := Lib.hid hzs
  have EWA := Lib.hid ewA
  clear hsw hbA hzA hg1 hg2 k1 k2 hzs ewA e32 eka esx en hk hT hc hb h0 hn
  go_enter Tryd.func29, Tryd.ntmps29
  go_wp2_with (first
    | (rw [← EWA.out]; with_reducible refine wpList_load_row rfl 71 (.global 0) rfl _ rfl t1 sx (0, 0) _ HG1.out.out Tryd.underlying71 rfl K1.out ?_)
    | (with_reducible refine wpList_load_row rfl 72 (.global 1) rfl _ rfl t2 ka (0, 0) _ HG2.out.out Tryd.underlying72 rfl K2.out ?_))
  refine HSW.out.mono ?_
  rintro e w1 ⟨rfl, hb1⟩
  unfold aggOf
  obtain ⟨sa, esa⟩ : ∃ sa, sa = ((shaF (fun i => ks.getD i 0) S xs).map (Value.int .u8)).toArray := ⟨_, rfl⟩
  rw [← esa]
  have k1 : (Tryd.prog.info? 44).map (·.size) = some sa.size := by rw [esa]; simp only [List.size_toArray, List.length_map, shaF_length]; exact sum_size
  have k2 : z32.size = sa.size := by rw [HZS.out, esa]; simp [shaF_length]
  have k3 : sa.all (·.oneCell') = true := by rw [esa]; exact sh_one _ _
  have hz1 : Blk w1 w.heap.size 44 z32 := HZA.out.below hb1 HZA.out.lt
  have hfin : Below w.heap.size w w1 := HBA.out.trans (hb1.mono HBA.out.size)
  have hv : aggOf .u8 (shaF (fun i => ks.getD i 0) S xs) = .agg sa := by rw [esa]; rfl
  have HV := Lib.hid hv
  have K1' := Lib.hid k1
  have K2' := Lib.hid k2
  have K3' := Lib.hid k3
  have HZ1 := Lib.hid hz1
  have HFin := Lib.hid hfin
  clear k1 k2 k3 hz1 hfin hv esa hb1 HSW
  go_wp2_with (with_reducible refine wpList_store_row rfl 44 (.tmp 2) (.tmp 6) rfl _ sa rfl rfl 44 z32 HZ1.out.out K1'.out K2'.out K3'.out ?_)
  refine bodyPost_ret (v := .agg sa) (results_cell_row (t := 44) (fr := (0, 0)) rfl _ _ w.heap.size _ _ rfl (HZ1.out.setRow _).out Tryd.underlying44 rfl ?_) rfl ⟨by rw [HV.out], ?_⟩
  · exact K1'.out
  · exact below_setRow HFin.out (Nat.le_refl _) _
end Go.Proofs.YtjcinelcocmpnaaDoor
