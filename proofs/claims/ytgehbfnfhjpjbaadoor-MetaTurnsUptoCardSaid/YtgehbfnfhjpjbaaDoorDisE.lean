/- The cache: settle. -/
import Derived.Test.YtgehbfnfhjpjbaaDoorDisD
import Derived.Outline
namespace Go.Proofs.YtgehbfnfhjpjbaaDoor
open Go.RowKit
open Go.ChangeMaps
set_option linter.unusedVariables false
set_option linter.unusedSimpArgs false
theorem nil_lay (a : Addr) (w : World) : (nilAhead 225 50 (.pointer (some a)) "replica/disk.lay").run Tryd.prog w = .ok (some false) w := by kernel_rfl
theorem meth_lay (a : Addr) (w : World) : (method 225 50 (.pointer (some a)) "replica/disk.lay").run Tryd.prog w = .ok (52, .pointer (some a)) w := by kernel_rfl
def ThreeO (b1 b2 b3 : Nat) (k : Nat) : Prop := k = b1 ∨ k = b2 ∨ k = b3
/-- What 'delete' of a key does to the cache's map, whoever else looks at it. -/
def DelLaw (w : World) (mc r k : Nat) (Post : World → Prop) : Prop :=
  ∀ W : World, W.heap[mc]? = w.heap[mc]? → W.heap[r]? = w.heap[r]? → ∀ ty, ∃ W', (Builtin.delete_ #[59, 3] ty #[.map (some mc), .int .i64 k]).run Tryd.prog W = .ok (.tuple #[]) W' ∧ Post W' ∧ OneB W W' mc
set_option maxHeartbeats 1000000 in
set_option maxRecDepth 100000 in
theorem settle_zero (w : World) (c mc r k : Nat) (on : Value) (Post : World → Prop) (hb : Blk w c 61 #[.map (some mc)]) (hd : DelLaw w mc r k Post) :
    Calls Tryd.prog 20 #[.pointer (some ⟨c, 0, none⟩), .int .i64 k, .int .i64 0, on] w fun e w' => e = .returned (.tuple #[]) ∧ Post w' ∧ OneB w w' mc := by
  have c0 : w.cell? ⟨c, 0, none⟩ = some (.map (some mc)) := hb.cell 0
  have HD := Lib.hid hd
  clear hd
  go_enter Tryd.func20, Tryd.ntmps20
  go_wp2_with (refine wpList_del_I _ rfl (.tmp 29) (.tmp 30) rfl mc rfl k rfl Post (fun ty => HD.out w rfl rfl ty) ?_; intro w1 hm1 ho1)
  go_wp2
  go_end0
  exact ⟨rfl, hm1, ho1⟩
def SetQ (w : World) (m B ms nb sz mc : Nat) (f : Nat → Int) (sp : Int → Option Value) (Post : World → Prop) (e : Ending) (w' : World) : Prop :=
  e = .returned (.tuple #[]) ∧ Post w' ∧ MedR w' m B ms nb sz f sp ∧ OnlyP (ThreeO ms B mc) w w'
set_option maxHeartbeats 1000000 in
set_option maxRecDepth 100000 in
theorem settle_some (w : World) (c mc r k keep m B ms nb sz g n cap : Nat) (f : Nat → Int) (F sp : Int → Option Value) (u : Value) (xs : List Int) (Post : World → Prop) (h : CacR w c mc F) (hM : MedR w m B ms nb sz f sp)
    (hk : k < nb) (hnb : nb ≤ 8192) (hs0 : 0 < sz) (hsz : sz ≤ 1024) (hF : F k = some (.slice (some ⟨g, 0, none⟩) n cap)) (hk0 : 0 < keep) (hkn : keep ≤ n) (hn : n ≤ 100000000000000) (hu : w.cell? ⟨g, keep - 1, none⟩ = some u) (hr : Rd .u8 w u xs) (hl : xs.length = sz)
    (hne : mc ≠ ms) (hrm : r ≠ ms) (hrB : r ≠ B) (hrl : r < w.heap.size) (hd : DelLaw w mc r k Post) (hp : ∀ W W', Post W → W'.heap[mc]? = W.heap[mc]? → W'.heap[r]? = W.heap[r]? → Post W') :
    Calls Tryd.prog 20 #[.pointer (some ⟨c, 0, none⟩), .int .i64 k, .int .i64 keep, .iface 50 (.pointer (some ⟨m, 0, none⟩))] w (SetQ w m B ms nb sz mc (layF f (k * sz) xs) (updI sp k none) Post) := by
  have c0 : w.cell? ⟨c, 0, none⟩ = some (.map (some mc)) := h.blk.cell 0
  have hlk : (Instr.lookup 59 (.map (some mc)) (.int .i64 k) false).run Tryd.prog w = .ok (.slice (some ⟨g, 0, none⟩) n cap) w := by
    have := h.look k (by omega); rw [hF] at this; exact this
  have hlkd : (Instr.lookup 59 (.map (some mc)) (.int .i64 k) false).run Tryd.prog w.drew = .ok (.slice (some ⟨g, 0, none⟩) n cap) w.drew := by
    have := CacR.look (w := w.drew) (h.keep rfl rfl) k (by omega); rw [hF] at this; exact this
  have hkp : ((keep : Int) - 1).toNat = keep - 1 := by omega
  have hk1 : (0 : Int) ≤ (keep : Int) - 1 := by omega
  have hnil := nil_lay ⟨m, 0, none⟩
  have hmeth := meth_lay ⟨m, 0, none⟩
  have hk4 : (1 : Int) ≤ (keep : Int) := by omega
  have hk2 : (keep : Int) - 1 < n := by omega
  have hk3 : IntKind.i64.wrap ((keep : Int) - 1) = (keep : Int) - 1 := IntWalk.i64_in _ (by omega)
  have hlay := mlay_ok w.drew m B ms nb sz k f sp u xs (hM.drewN 1) hk hnb hs0 hsz hr hl
  have HLAY := Lib.hid hlay
  have H := Lib.hid h
  have HM := Lib.hid hM
  have HD := Lib.hid hd
  have HP := Lib.hid hp
  clear hlay h hM hd hp hF hr hl
  go_enter Tryd.func20, Tryd.ntmps20
  go_wp2_with fail
  go_still_tail 15, (by kernel_rfl)
  go_wp2_with fail
  refine HLAY.out.mono ?_
  rintro e w1 ⟨rfl, ho1, hm1⟩
  have hcm : c ≠ ms := H.out.blk.ne_map HM.out.map
  have hcB : c ≠ B := fun e => HM.out.row.ne_blk H.out.blk (by decide) e.symm
  have hmB : mc ≠ B := fun e => HM.out.row.ne_map H.out.map e.symm
  have kc : w1.heap[c]? = w.heap[c]? := ho1.block c H.out.blk.lt (fun h => h.elim hcm hcB)
  have kmc : w1.heap[mc]? = w.heap[mc]? := ho1.block mc H.out.map.lt (fun h => h.elim hne hmB)
  have kr : w1.heap[r]? = w.heap[r]? := ho1.block r hrl (fun h => h.elim hrm hrB)
  have c1 : w1.cell? ⟨c, 0, none⟩ = some (.map (some mc)) := (cell_of_heap kc 0).trans c0
  have HO1 := Lib.hid ho1
  have HM1 := Lib.hid hm1
  have KMC := Lib.hid kmc
  have KR := Lib.hid kr
  clear ho1 hm1 kc kmc kr hlk hlkd hnil hmeth hkp hk1 hk2 hk3 hk4 hu c0 HLAY
  go_wp2_with (refine wpList_del_I _ rfl (.tmp 29) (.tmp 30) rfl mc rfl k rfl Post (fun ty => HD.out w1 KMC.out KR.out ty) ?_; intro w2 hm2 ho2)
  have hfin : SetQ w m B ms nb sz mc (layF f (k * sz) xs) (updI sp k none) Post (.returned (.tuple #[])) w2 := by
    refine ⟨rfl, hm2, HM1.out.keep (ho2.far fun e => HM.out.blk.ne_map H.out.map e) (ho2.far fun e => HM.out.row.ne_map H.out.map e) (ho2.far fun e => hne e.symm), ?_⟩
    have h1 : OnlyP (ThreeO ms B mc) w w1 := ⟨HO1.out.os, HO1.out.tape, HO1.out.output, HO1.out.size, fun b hb hn => HO1.out.block b hb (fun h => hn (h.elim .inl (fun h => .inr (.inl h))))⟩
    exact h1.one ho2 (.inl (.inr (.inr rfl)))
  have HF := Lib.hid hfin
  clear hfin hm2 ho2
  go_wp2
  go_end0
  exact HF.out
end Go.Proofs.YtgehbfnfhjpjbaaDoor
