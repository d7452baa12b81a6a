/- A disk in the world, and what it is. -/
import Derived.Test.YtgehbfnfhjpjbaaDoorDisE
namespace Go.Proofs.YtgehbfnfhjpjbaaDoor
open Go.RowKit
open Go.ChangeMaps
set_option linter.unusedVariables false
set_option linter.unusedSimpArgs false
/-- What a disk is: its durable bytes, the spoilt blocks, each block's cached writes in their order, power, fuse, counts. -/
structure DSt where
  nb : Nat
  sz : Nat
  dur : Nat → List Int
  sp : Nat → Bool
  ca : Nat → List (List Int)
  off : Bool
  fused : Bool
  fuse : Int
  c0 : Int
  c1 : Int
  c2 : Int
  c3 : Int
structure DWf (s : DSt) : Prop where
  nb1 : 1 ≤ s.nb
  nb2 : s.nb ≤ 8192
  sz0 : 0 < s.sz
  sz1 : s.sz ≤ 1024
  dl : ∀ k, k < s.nb → (s.dur k).length = s.sz
  cl : ∀ k, ∀ l ∈ s.ca k, l.length = s.sz
  cn : ∀ k, s.nb ≤ k → s.ca k = []
  f0 : 0 ≤ s.fuse
  f1 : s.fuse < 9223372036854775808
def dArr (s : DSt) (m c : Nat) : Array Value := #[.int .i64 s.nb, .int .i64 s.sz, .pointer (some ⟨m, 0, none⟩), .pointer (some ⟨c, 0, none⟩), .bool s.off, .bool s.fused, .int .i64 s.fuse, .int .i64 s.c0, .int .i64 s.c1, .int .i64 s.c2, .int .i64 s.c3]
def durF (s : DSt) (i : Nat) : Int := (s.dur (i / s.sz)).getD (i % s.sz) 0
def spF (s : DSt) (j : Int) : Option Value := if 0 ≤ j ∧ j < s.nb ∧ s.sp j.toNat = true then some (.agg #[]) else none
/-- A block's cached writes in the world. -/
def WrR (G : Nat → Prop) (w : World) (sz : Nat) (v : Value) (ls : List (List Int)) (g : Nat) : Prop :=
  ∃ cap vs, v = .slice (some ⟨g, 0, none⟩) ls.length cap ∧ 0 < ls.length ∧ G g ∧ w.ownsRow 0 29 1 v ls.length vs ∧ ∀ i, i < ls.length → ∃ h, vs[i]? = some (.slice (some ⟨h, 0, none⟩) sz sz) ∧ G h ∧ RowA .u8 5 w h sz (fun t => (ls.getD i []).getD t 0)
structure CaR (G : Nat → Prop) (w : World) (s : DSt) (F : Int → Option Value) : Prop where
  no : ∀ k : Nat, F k = none → s.ca k = []
  yes : ∀ j v, F j = some v → 0 ≤ j ∧ j < s.nb ∧ ∃ g, WrR G w s.sz v (s.ca j.toNat) g
  inj : ∀ i j u v g, F i = some u → F j = some v → u.ownBlock = some g → v.ownBlock = some g → i = j
structure DRepX (w : World) (d m c B ms mc : Nat) (F : Int → Option Value) (G : Nat → Prop) (s : DSt) : Prop where
  wf : DWf s
  blk : Blk w d 55 (dArr s m c)
  med : MedR w m B ms s.nb s.sz (durF s) (spF s)
  cac : CacR w c mc F
  car : CaR G w s F
  ne : mc ≠ ms
  apart : ∀ b, G b → b < w.heap.size ∧ b ≠ d ∧ b ≠ m ∧ b ≠ c ∧ b ≠ B ∧ b ≠ ms ∧ b ≠ mc
def ownD (d m c B ms mc : Nat) (G : Nat → Prop) (b : Nat) : Prop := b = d ∨ b = m ∨ b = c ∨ b = B ∨ b = ms ∨ b = mc ∨ G b
/-- Block d holds the disk s; O: the blocks that are the disk's own. -/
def DRep (O : Nat → Prop) (w : World) (d : Nat) (s : DSt) : Prop := ∃ m c B ms mc F G, DRepX w d m c B ms mc F G s ∧ (∀ b, ownD d m c B ms mc G b → O b) ∧ ∀ b, O b → b < w.heap.size
/-- What a call on the disk does to the world. -/
def DStep (O : Nat → Prop) (w w' : World) (d : Nat) (s : DSt) : Prop := OnlyP O w w' ∧ ∃ O', DRep O' w' d s ∧ ∀ b, O' b → O b ∨ w.heap.size ≤ b
theorem WrR.keep {G G' : Nat → Prop} {w w1 : World} {sz : Nat} {v : Value} {ls : List (List Int)} {g : Nat} (h : WrR G w sz v ls g) (hk : ∀ b, G b → w1.heap[b]? = w.heap[b]?) (hG : ∀ b, G b → G' b) : WrR G' w1 sz v ls g := by
  obtain ⟨cap, vs, rfl, h0, hg, ho, hl⟩ := h
  refine ⟨cap, vs, rfl, h0, hG g hg, own_keep ho (hk g hg), fun i hi => ?_⟩
  obtain ⟨h, h1, h2, h3⟩ := hl i hi
  exact ⟨h, h1, hG h h2, h3.keep (hk h h2)⟩
theorem CaR.keep {G : Nat → Prop} {w w1 : World} {s : DSt} {F : Int → Option Value} (h : CaR G w s F) (hk : ∀ b, G b → w1.heap[b]? = w.heap[b]?) : CaR G w1 s F :=
  ⟨h.no, fun j v hj => let ⟨a, b, g, hg⟩ := h.yes j v hj; ⟨a, b, g, hg.keep hk (fun _ h => h)⟩, h.inj⟩
theorem DRepX.keep {w w1 : World} {d m c B ms mc : Nat} {F : Int → Option Value} {G : Nat → Prop} {s : DSt} (h : DRepX w d m c B ms mc F G s) (hk : ∀ b, ownD d m c B ms mc G b → w1.heap[b]? = w.heap[b]?) (hs : w.heap.size ≤ w1.heap.size) : DRepX w1 d m c B ms mc F G s :=
  ⟨h.wf, (hk d (.inl rfl)).trans h.blk, h.med.keep (hk m (.inr (.inl rfl))) (hk B (.inr (.inr (.inr (.inl rfl))))) (hk ms (.inr (.inr (.inr (.inr (.inl rfl)))))), h.cac.keep (hk c (.inr (.inr (.inl rfl)))) (hk mc (.inr (.inr (.inr (.inr (.inr (.inl rfl))))))),
    h.car.keep (fun b hb => hk b (.inr (.inr (.inr (.inr (.inr (.inr hb))))))), h.ne, fun b hb => let ⟨a, r⟩ := h.apart b hb; ⟨Nat.lt_of_lt_of_le a hs, r⟩⟩
theorem DRep.keep {O : Nat → Prop} {w w1 : World} {d : Nat} {s : DSt} (h : DRep O w d s) (hk : ∀ b, O b → w1.heap[b]? = w.heap[b]?) (hs : w.heap.size ≤ w1.heap.size) : DRep O w1 d s := by
  obtain ⟨m, c, B, ms, mc, F, G, hx, h1, h2⟩ := h
  exact ⟨m, c, B, ms, mc, F, G, hx.keep (fun b hb => hk b (h1 b hb)) hs, h1, fun b hb => Nat.lt_of_lt_of_le (h2 b hb) hs⟩
theorem DRep.drewN {O : Nat → Prop} {w : World} {d : Nat} {s : DSt} (h : DRep O w d s) (n : Nat) : DRep O (w.drewN n) d s := h.keep (fun _ _ => rfl) (Nat.le_refl _)
theorem DRep.below {O : Nat → Prop} {w w1 : World} {d : Nat} {s : DSt} (h : DRep O w d s) (hb : Below w.heap.size w w1) : DRep O w1 d s := by
  have h2 := h
  obtain ⟨m, c, B, ms, mc, F, G, hx, _, hl⟩ := h2
  exact h.keep (fun b hO => hb.block b (hl b hO)) hb.size
theorem DRep.wf {O : Nat → Prop} {w : World} {d : Nat} {s : DSt} (h : DRep O w d s) : DWf s := let ⟨_, _, _, _, _, _, _, hx, _⟩ := h; hx.wf
theorem DRep.lt {O : Nat → Prop} {w : World} {d : Nat} {s : DSt} (h : DRep O w d s) {b : Nat} (hb : O b) : b < w.heap.size := let ⟨_, _, _, _, _, _, _, _, _, hl⟩ := h; hl b hb
theorem DRep.own {O : Nat → Prop} {w : World} {d : Nat} {s : DSt} (h : DRep O w d s) : O d := let ⟨_, _, _, _, _, _, _, _, hl, _⟩ := h; hl d (.inl rfl)
theorem DStep.same {O : Nat → Prop} {w w' : World} {d : Nat} {s : DSt} (h : OnlyP O w w') (h2 : DRep O w' d s) : DStep O w w' d s := ⟨h, O, h2, fun b hb => .inl hb⟩
/-- Only the disk's own cells have turned. -/
theorem DRepX.cells {w : World} {d m c B ms mc : Nat} {F : Int → Option Value} {G : Nat → Prop} {s : DSt} (h : DRepX w d m c B ms mc F G s) (w1 : World) (s1 : DSt) (hb : Blk w1 d 55 (dArr s1 m c)) (hfar : ∀ b, b ≠ d → w1.heap[b]? = w.heap[b]?) (hz : w1.heap.size = w.heap.size)
    (hw : DWf s1) (h1 : s1.nb = s.nb) (h2 : s1.sz = s.sz) (h3 : s1.dur = s.dur) (h4 : s1.sp = s.sp) (h5 : s1.ca = s.ca) : DRepX w1 d m c B ms mc F G s1 := by
  have e1 : durF s1 = durF s := by unfold durF; rw [h2, h3]
  have e2 : spF s1 = spF s := by unfold spF; rw [h1, h4]
  have hdm : m ≠ d := h.med.blk.ne_blk h.blk (by decide)
  have hdc : c ≠ d := h.cac.blk.ne_blk h.blk (by decide)
  have hdB : B ≠ d := h.med.row.ne_blk h.blk (by decide)
  have hds : ms ≠ d := fun e => h.blk.ne_map h.med.map e.symm
  have hdC : mc ≠ d := fun e => h.blk.ne_map h.cac.map e.symm
  refine ⟨hw, hb, ?_, h.cac.keep (hfar c hdc) (hfar mc hdC), ?_, h.ne, fun b hb => ?_⟩
  · rw [h1, h2, e1, e2]; exact h.med.keep (hfar m hdm) (hfar B hdB) (hfar ms hds)
  · refine ⟨by rw [h5]; exact h.car.no, fun j v hj => ?_, h.car.inj⟩
    rw [h1, h2, h5]
    obtain ⟨a, b, g, hg⟩ := h.car.yes j v hj
    exact ⟨a, b, g, hg.keep (fun b hb => hfar b (h.apart b hb).2.1) (fun _ h => h)⟩
  · rw [hz]; exact h.apart b hb
theorem DRep.cells {O : Nat → Prop} {w : World} {d : Nat} {s : DSt} (h : DRep O w d s) (w1 : World) (s1 : DSt) (hb : ∀ m c, Blk w d 55 (dArr s m c) → Blk w1 d 55 (dArr s1 m c)) (hfar : ∀ b, b ≠ d → w1.heap[b]? = w.heap[b]?) (hz : w1.heap.size = w.heap.size)
    (hw : DWf s1) (h1 : s1.nb = s.nb) (h2 : s1.sz = s.sz) (h3 : s1.dur = s.dur) (h4 : s1.sp = s.sp) (h5 : s1.ca = s.ca) : DRep O w1 d s1 := by
  obtain ⟨m, c, B, ms, mc, F, G, hx, ho, hl⟩ := h
  exact ⟨m, c, B, ms, mc, F, G, hx.cells w1 s1 (hb m c hx.blk) hfar hz hw h1 h2 h3 h4 h5, ho, fun b hb => by rw [hz]; exact hl b hb⟩
/-- A list of bytes that was handed out: nil, or in a block of its own, from lo on. -/
def AnsP (lo : Nat) (w : World) (v : Value) (xs : List Int) : Prop :=
  (v = .slice none 0 0 ∧ xs = []) ∨ ∃ B, v = .slice (some ⟨B, 0, none⟩) xs.length xs.length ∧ lo ≤ B ∧ RowA .u8 5 w B xs.length (fun i => xs.getD i 0)
/-- An error that was handed out: nil, or a block's. -/
def AnsE (lo : Nat) (w : World) (v : Value) (e0 j : Int) : Prop :=
  (v = .nilIface ∧ e0 = 0) ∨ ∃ b, v = .iface 87 (.pointer (some ⟨b, 0, none⟩)) ∧ lo ≤ b ∧ e0 ≠ 0 ∧ Blk w b 89 #[.int .i64 j, .int .i64 e0]
theorem AnsP.below {lo : Nat} {w w1 : World} {v : Value} {xs : List Int} (h : AnsP lo w v xs) (hb : Below w.heap.size w w1) : AnsP lo w1 v xs := by
  rcases h with h | ⟨B, e, hB, hr⟩
  · exact .inl h
  · exact .inr ⟨B, e, hB, hr.below hb hr.lt⟩
theorem AnsE.below {lo : Nat} {w w1 : World} {v : Value} {e0 j : Int} (h : AnsE lo w v e0 j) (hb : Below w.heap.size w w1) : AnsE lo w1 v e0 j := by
  rcases h with h | ⟨b, e, hB, h0, hr⟩
  · exact .inl h
  · exact .inr ⟨b, e, hB, h0, hr.below hb hr.lt⟩
theorem AnsP.rd {lo : Nat} {w : World} {v : Value} {xs : List Int} (h : AnsP lo w v xs) : Rd .u8 w v xs := by
  rcases h with ⟨rfl, rfl⟩ | ⟨B, rfl, hB, hr⟩
  · exact .inl ⟨rfl, _, _, rfl⟩
  · exact hr.rd xs xs.length (Nat.le_refl _) (Nat.le_refl _) (fun _ _ => rfl)
end Go.Proofs.YtgehbfnfhjpjbaaDoor
