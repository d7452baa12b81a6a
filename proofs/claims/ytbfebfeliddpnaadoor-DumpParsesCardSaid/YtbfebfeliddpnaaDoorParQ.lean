/- What the tokens make: as the program reads them, and as the document's answer does; the two are alike. -/
import Derived.Test.YtbfebfeliddpnaaDoorParP
namespace Go.Proofs.YtbfebfeliddpnaaDoor
set_option linter.unusedVariables false
set_option linter.unusedSimpArgs false
/-- The next token, if it can stand there. -/
def readF {α : Type} (s : ByteArray) (f : ByteArray → Option α) : List Tk → Except Nat (α × List Tk)
  | .word a b :: l => match f (s.extract a b) with
    | some v => .ok (v, l)
    | none => .error a
  | t :: _ => .error t.pl
  | [] => .error 0
def semiF : List Tk → Except Nat (Unit × List Tk)
  | .semi _ :: l => .ok ((), l)
  | t :: _ => .error t.pl
  | [] => .error 0
def isW (x t : ByteArray) : Option Unit := if t = x then some () else none
def inF (lo hi : Nat) (t : ByteArray) : Option Nat := match numOf t with
  | some v => if lo ≤ v ∧ v ≤ hi then some v else none
  | none => none
def okSz (v : Nat) : Bool := decide (v = 128) || decide (v = 256) || decide (v = 512) || decide (v = 1024)
def sizeF (t : ByteArray) : Option Nat := match numOf t with
  | some v => if okSz v = true then some v else none
  | none => none
def exts (bl : Nat) : Nat := (bl + 3) / 4
def bDash : ByteArray := ⟨#[45]⟩
def slotF (most : Nat) (t : ByteArray) : Option Int :=
  if t = bDash then some (-1) else match numOf t with
    | some v => if v < most then some (v : Int) else none
    | none => none
def flagName (i : Nat) : ByteArray := match i with
  | 0 => ⟨#[99, 111, 110, 115, 105, 115, 116, 101, 110, 116]⟩
  | 1 => ⟨#[111, 117, 116, 100, 97, 116, 101, 100]⟩
  | 2 => ⟨#[112, 114, 105, 109, 97, 114, 121]⟩
  | _ => ⟨#[99, 114, 97, 115, 104, 101, 100]⟩
/-- The first flag from next on of that name. -/
def flagFrom (t : ByteArray) (next : Nat) : Option Nat := if next < 4 then if flagName next = t then some next else flagFrom t (next + 1) else none
termination_by 4 - next
def flagsF (s : ByteArray) : Nat → Nat → List Tk → Except Nat (Nat × List Tk)
  | next, fl, .word a b :: l => match flagFrom (s.extract a b) next with
    | some i => flagsF s (i + 1) (fl ||| 2 ^ i) l
    | none => .error a
  | _, fl, .semi _ :: l => .ok (fl, l)
  | _, _, t :: _ => .error t.pl
  | _, _, [] => .error 0
def slotsF (s : ByteArray) (most : Nat) : Nat → List Tk → Except Nat (List Int × List Tk)
  | 0, l => .ok ([], l)
  | n + 1, l => match readF s (slotF most) l with
    | .error p => .error p
    | .ok (v, l1) => match slotsF s most n l1 with
      | .error p => .error p
      | .ok (vs, l2) => .ok (v :: vs, l2)
def runF (n least : Nat) (t : ByteArray) : Option (Nat × Nat) := match runOf t with
  | some (a, b) => if least ≤ a ∧ b < n then some (a, b) else none
  | none => none
/-- The bits behind one more run. -/
def addRun (f : Nat → Bool) (a b : Nat) (i : Nat) : Bool := f i || (decide (a ≤ i) && decide (i ≤ b))
def bitsF (s : ByteArray) (n : Nat) : Nat → (Nat → Bool) → List Tk → Except Nat ((Nat → Bool) × List Tk)
  | least, f, .word a b :: l => match runF n least (s.extract a b) with
    | some (x, y) => bitsF s n (y + 2) (addRun f x y) l
    | none => .error a
  | _, f, .semi _ :: l => .ok (f, l)
  | _, _, t :: _ => .error t.pl
  | _, _, [] => .error 0
structure Dm where
  sq : Nat
  bl : Nat
  sz : Nat
  sl : Nat
  g0 : Nat
  g1 : Nat
  g2 : Nat
  g3 : Nat
  fl : Nat
  mr : Nat
  slots : List Int
  bits : Nat → Bool
def thenE {α : Type} (x : Except Nat (α × List Tk)) (f : α → List Tk → Except Nat Dm) : Except Nat Dm := match x with
  | .error p => .error p
  | .ok (v, l) => f v l
def wMeta : ByteArray := ⟨#[114, 101, 112, 108, 105, 99, 97, 45, 109, 101, 116, 97]⟩
def wOne : ByteArray := ⟨#[49]⟩
def wSeq : ByteArray := ⟨#[115, 101, 113]⟩
def wDevice : ByteArray := ⟨#[100, 101, 118, 105, 99, 101]⟩
def wGens : ByteArray := ⟨#[103, 101, 110, 115]⟩
def wFlags : ByteArray := ⟨#[102, 108, 97, 103, 115]⟩
def wMark : ByteArray := ⟨#[109, 97, 114, 107]⟩
def wSlots : ByteArray := ⟨#[115, 108, 111, 116, 115]⟩
def wBits : ByteArray := ⟨#[98, 105, 116, 115]⟩
/-- The parts of the text, from the last to the first. -/
def pEnd (m : Dm) : List Tk → Except Nat Dm
  | .fin _ :: _ => .ok m
  | t :: _ => .error t.pl
  | [] => .error 0
def pBits (s : ByteArray) (m : Dm) (l : List Tk) : Except Nat Dm := thenE (readF s (isW wBits) l) fun _ l => thenE (bitsF s m.bl 0 (fun _ => false) l) fun f l => pEnd { m with bits := f } l
def pSlots (s : ByteArray) (m : Dm) (l : List Tk) : Except Nat Dm := thenE (readF s (isW wSlots) l) fun _ l => thenE (slotsF s (exts m.bl) m.sl l) fun vs l => thenE (semiF l) fun _ l => pBits s { m with slots := vs } l
def pMark (s : ByteArray) (m : Dm) (l : List Tk) : Except Nat Dm := thenE (readF s (isW wMark) l) fun _ l => thenE (readF s (inF 0 m.bl) l) fun v l => thenE (semiF l) fun _ l => pSlots s { m with mr := v } l
def pFlags (s : ByteArray) (m : Dm) (l : List Tk) : Except Nat Dm := thenE (readF s (isW wFlags) l) fun _ l => thenE (flagsF s 0 0 l) fun v l => pMark s { m with fl := v } l
def pGens (s : ByteArray) (m : Dm) (l : List Tk) : Except Nat Dm := thenE (readF s (isW wGens) l) fun _ l => thenE (readF s idOf l) fun a l => thenE (readF s idOf l) fun b l => thenE (readF s idOf l) fun c l => thenE (readF s idOf l) fun d l =>
  thenE (semiF l) fun _ l => pFlags s { m with g0 := a, g1 := b, g2 := c, g3 := d } l
def pDevice (s : ByteArray) (m : Dm) (l : List Tk) : Except Nat Dm := thenE (readF s (isW wDevice) l) fun _ l => thenE (readF s (inF 1 4096) l) fun a l => thenE (readF s sizeF l) fun b l => thenE (readF s (inF 1 16) l) fun c l =>
  thenE (semiF l) fun _ l => pGens s { m with bl := a, sz := b, sl := c } l
def pSeq (s : ByteArray) (m : Dm) (l : List Tk) : Except Nat Dm := thenE (readF s (isW wSeq) l) fun _ l => thenE (readF s (inF 1 4611686018427387904) l) fun a l => thenE (semiF l) fun _ l => pDevice s { m with sq := a } l
def pMeta (s : ByteArray) (m : Dm) (l : List Tk) : Except Nat Dm := thenE (readF s (isW wMeta) l) fun _ l => thenE (readF s (isW wOne) l) fun _ l => thenE (semiF l) fun _ l => pSeq s m l
def dm0 : Dm := ⟨0, 0, 0, 0, 0, 0, 0, 0, 0, 0, [], fun _ => false⟩
/-- What Parse gives: none: too long; a place; a dump. -/
def parseD (s : ByteArray) : Except Nat Dm := pMeta s dm0 (toks s 0)
/-- The reference's reader: the dump so far, the next flag, the least bit that a run may begin with. -/
structure RSt where
  m : Dm
  flag : Nat
  least : Nat
def fitsF (p k : Nat) (t : ByteArray) (r : RSt) : Option RSt := match p with
  | 0 => if k = 0 then (isW wOne t).map fun _ => r else none
  | 1 => if k = 0 then (inF 1 4611686018427387904 t).map fun v => { r with m := { r.m with sq := v } } else none
  | 2 => match k with
    | 0 => (inF 1 4096 t).map fun v => { r with m := { r.m with bl := v } }
    | 1 => (sizeF t).map fun v => { r with m := { r.m with sz := v } }
    | 2 => (inF 1 16 t).map fun v => { r with m := { r.m with sl := v } }
    | _ => none
  | 3 => match k with
    | 0 => (idOf t).map fun v => { r with m := { r.m with g0 := v } }
    | 1 => (idOf t).map fun v => { r with m := { r.m with g1 := v } }
    | 2 => (idOf t).map fun v => { r with m := { r.m with g2 := v } }
    | 3 => (idOf t).map fun v => { r with m := { r.m with g3 := v } }
    | _ => none
  | 4 => (flagFrom t r.flag).map fun i => { r with m := { r.m with fl := r.m.fl ||| 2 ^ i }, flag := i + 1 }
  | 5 => if k = 0 then (inF 0 r.m.bl t).map fun v => { r with m := { r.m with mr := v } } else none
  | 6 => if k < r.m.sl then (slotF (exts r.m.bl) t).map fun v => { r with m := { r.m with slots := r.m.slots ++ [v] } } else none
  | _ => (runF r.m.bl r.least t).map fun x => { r with m := { r.m with bits := addRun r.m.bits x.1 x.2 }, least := x.2 + 2 }
def endsF (p k : Nat) (r : RSt) : Bool := match p with
  | 0 | 1 | 5 => decide (k = 1)
  | 2 => decide (k = 3)
  | 3 => decide (k = 4)
  | 6 => decide (k = r.m.sl)
  | _ => true
def partF (s : ByteArray) (p : Nat) : Nat → RSt → List Tk → Except Nat (RSt × List Tk)
  | k, r, .word a b :: l => match fitsF p k (s.extract a b) r with
    | some r1 => partF s p (k + 1) r1 l
    | none => .error a
  | k, r, .semi a :: l => if endsF p k r = true then .ok (r, l) else .error a
  | _, _, t :: _ => .error t.pl
  | _, _, [] => .error 0
def wPart (p : Nat) : ByteArray := match p with
  | 0 => wMeta
  | 1 => wSeq
  | 2 => wDevice
  | 3 => wGens
  | 4 => wFlags
  | 5 => wMark
  | 6 => wSlots
  | _ => wBits
def wholePart (s : ByteArray) (p : Nat) (r : RSt) (l : List Tk) : Except Nat (RSt × List Tk) := match readF s (isW (wPart p)) l with
  | .error e => .error e
  | .ok (_, l) => partF s p 0 r l
/-- The parts from p on, n of them; then the end. -/
def partsF (s : ByteArray) : Nat → Nat → RSt → List Tk → Except Nat Dm
  | 0, _, r, l => pEnd r.m l
  | n + 1, p, r, l => match wholePart s p r l with
    | .error e => .error e
    | .ok (r1, l1) => partsF s n (p + 1) r1 l1
def rs0 : RSt := ⟨dm0, 0, 0⟩
/-- The document's answer. -/
def parseR (s : ByteArray) : Except Nat Dm := partsF s 8 0 rs0 (toks s 0)
def bindR (x : Except Nat (RSt × List Tk)) (F : RSt → List Tk → Except Nat Dm) : Except Nat Dm := match x with
  | .error e => .error e
  | .ok (r, l) => F r l
theorem parts_eq (s : ByteArray) (n p : Nat) (r : RSt) (l : List Tk) : partsF s (n + 1) p r l = thenE (readF s (isW (wPart p)) l) fun _ l => bindR (partF s p 0 r l) (partsF s n (p + 1)) := by
  simp only [partsF, wholePart]
  cases readF s (isW (wPart p)) l with
  | error e => rfl
  | ok x => rfl
theorem thenE_congr {α : Type} {x : Except Nat (α × List Tk)} {f g : α → List Tk → Except Nat Dm} (h : ∀ v l, f v l = g v l) : thenE x f = thenE x g := by
  have : f = g := by funext v l; exact h v l
  rw [this]
theorem part_step {α : Type} (s : ByteArray) (p k : Nat) (r : RSt) (l : List Tk) (F : RSt → List Tk → Except Nat Dm) (f : ByteArray → Option α) (upd : α → RSt) (hf : ∀ t, fitsF p k t r = (f t).map upd) (he : endsF p k r = false) :
    bindR (partF s p k r l) F = thenE (readF s f l) fun v l => bindR (partF s p (k + 1) (upd v) l) F := by
  rcases l with _ | ⟨t, l⟩
  · rfl
  · cases t with
    | word a b =>
      simp only [partF, readF, hf]
      cases f (s.extract a b) with
      | none => rfl
      | some v => rfl
    | semi a => simp only [partF, he]; rfl
    | bad a => rfl
    | fin a => rfl
theorem part_last (s : ByteArray) (p k : Nat) (r : RSt) (l : List Tk) (F : RSt → List Tk → Except Nat Dm) (hf : ∀ t, fitsF p k t r = none) (he : endsF p k r = true) :
    bindR (partF s p k r l) F = thenE (semiF l) fun _ l => F r l := by
  rcases l with _ | ⟨t, l⟩
  · rfl
  · cases t with
    | word a b => simp only [partF, hf]; rfl
    | semi a => simp only [partF, he]; rfl
    | bad a => rfl
    | fin a => rfl
theorem part_bits (s : ByteArray) : ∀ (l : List Tk) (k : Nat) (m : Dm) (fl n : Nat),
    bindR (partF s 7 k ⟨m, fl, n⟩ l) (partsF s 0 8) = thenE (bitsF s m.bl n m.bits l) fun f l => pEnd { m with bits := f } l
  | [], k, m, fl, n => rfl
  | .word a b :: l, k, m, fl, n => by
    simp only [partF, bitsF, fitsF]
    cases h : runF m.bl n (s.extract a b) with
    | none => rfl
    | some x => exact part_bits s l (k + 1) { m with bits := addRun m.bits x.1 x.2 } fl (x.2 + 2)
  | .semi a :: l, k, m, fl, n => rfl
  | .bad a :: l, k, m, fl, n => rfl
  | .fin a :: l, k, m, fl, n => rfl
theorem parts7 (s : ByteArray) (m : Dm) (fl : Nat) (l : List Tk) (h1 : m.bits = fun _ => false) : partsF s 1 7 ⟨m, fl, 0⟩ l = pBits s m l := by
  rw [parts_eq]
  refine thenE_congr fun _ l => ?_
  rw [part_bits, h1]
theorem part_slots (s : ByteArray) (fl : Nat) : ∀ (n k : Nat) (m : Dm) (l : List Tk), m.bits = (fun _ => false) → n + k = m.sl →
    bindR (partF s 6 k ⟨m, fl, 0⟩ l) (partsF s 1 7) = thenE (slotsF s (exts m.bl) n l) fun vs l => thenE (semiF l) fun _ l => pBits s { m with slots := m.slots ++ vs } l
  | 0, k, m, l, hb, hk => by
    rw [part_last s 6 k ⟨m, fl, 0⟩ l _ (fun t => by simp only [fitsF]; rw [if_neg (by omega)]) (by simp only [endsF]; exact decide_eq_true (by omega))]
    simp only [slotsF, thenE, List.append_nil]
    cases semiF l with
    | error e => rfl
    | ok x => exact parts7 s m fl x.2 hb
  | n + 1, k, m, l, hb, hk => by
    rw [part_step s 6 k ⟨m, fl, 0⟩ l _ (slotF (exts m.bl)) (fun v => ⟨{ m with slots := m.slots ++ [v] }, fl, 0⟩) (fun t => by simp only [fitsF]; rw [if_pos (by omega)]) (by simp only [endsF]; exact decide_eq_false (by omega))]
    simp only [slotsF]
    cases h : readF s (slotF (exts m.bl)) l with
    | error e => rfl
    | ok x =>
      obtain ⟨v, l1⟩ := x
      have ih := part_slots s fl n (k + 1) { m with slots := m.slots ++ [v] } l1 hb (by show n + (k + 1) = m.sl; omega)
      simp only [thenE] at ih ⊢
      rw [ih]
      cases slotsF s (exts m.bl) n l1 with
      | error e => rfl
      | ok y => simp [thenE]
theorem parts6 (s : ByteArray) (m : Dm) (fl : Nat) (l : List Tk) (h1 : m.bits = fun _ => false) (h2 : m.slots = []) : partsF s 2 6 ⟨m, fl, 0⟩ l = pSlots s m l := by
  rw [parts_eq]
  refine thenE_congr fun _ l => ?_
  rw [part_slots s fl m.sl 0 m l h1 (by omega), h2]
  rfl
theorem parts5 (s : ByteArray) (m : Dm) (fl : Nat) (l : List Tk) (h1 : m.bits = fun _ => false) (h2 : m.slots = []) : partsF s 3 5 ⟨m, fl, 0⟩ l = pMark s m l := by
  rw [parts_eq]
  refine thenE_congr fun _ l => ?_
  rw [part_step s 5 0 ⟨m, fl, 0⟩ l _ (inF 0 m.bl) (fun v => ⟨{ m with mr := v }, fl, 0⟩) (fun t => rfl) rfl]
  refine thenE_congr fun v l => ?_
  rw [part_last s 5 1 _ l _ (fun t => rfl) rfl]
  exact thenE_congr fun _ l => parts6 s { m with mr := v } fl l h1 h2
theorem part_flags (s : ByteArray) : ∀ (l : List Tk) (k : Nat) (m : Dm) (nx : Nat), m.bits = (fun _ => false) → m.slots = [] →
    bindR (partF s 4 k ⟨m, nx, 0⟩ l) (partsF s 3 5) = thenE (flagsF s nx m.fl l) fun v l => pMark s { m with fl := v } l
  | [], k, m, nx, h1, h2 => rfl
  | .word a b :: l, k, m, nx, h1, h2 => by
    simp only [partF, flagsF, fitsF]
    cases h : flagFrom (s.extract a b) nx with
    | none => rfl
    | some i => exact part_flags s l (k + 1) { m with fl := m.fl ||| 2 ^ i } (i + 1) h1 h2
  | .semi a :: l, k, m, nx, h1, h2 => parts5 s m nx l h1 h2
  | .bad a :: l, k, m, nx, h1, h2 => rfl
  | .fin a :: l, k, m, nx, h1, h2 => rfl
theorem parts4 (s : ByteArray) (m : Dm) (l : List Tk) (h1 : m.bits = fun _ => false) (h2 : m.slots = []) (h3 : m.fl = 0) : partsF s 4 4 ⟨m, 0, 0⟩ l = pFlags s m l := by
  rw [parts_eq]
  refine thenE_congr fun _ l => ?_
  rw [part_flags s l 0 m 0 h1 h2, h3]
theorem parts3 (s : ByteArray) (m : Dm) (l : List Tk) (h1 : m.bits = fun _ => false) (h2 : m.slots = []) (h3 : m.fl = 0) : partsF s 5 3 ⟨m, 0, 0⟩ l = pGens s m l := by
  rw [parts_eq]
  refine thenE_congr fun _ l => ?_
  rw [part_step s 3 0 ⟨m, 0, 0⟩ l _ idOf (fun v => ⟨{ m with g0 := v }, 0, 0⟩) (fun t => rfl) rfl]
  refine thenE_congr fun a l => ?_
  rw [part_step s 3 1 _ l _ idOf (fun v => ⟨{ m with g0 := a, g1 := v }, 0, 0⟩) (fun t => rfl) rfl]
  refine thenE_congr fun b l => ?_
  rw [part_step s 3 2 _ l _ idOf (fun v => ⟨{ m with g0 := a, g1 := b, g2 := v }, 0, 0⟩) (fun t => rfl) rfl]
  refine thenE_congr fun c l => ?_
  rw [part_step s 3 3 _ l _ idOf (fun v => ⟨{ m with g0 := a, g1 := b, g2 := c, g3 := v }, 0, 0⟩) (fun t => rfl) rfl]
  refine thenE_congr fun d l => ?_
  rw [part_last s 3 4 _ l _ (fun t => rfl) rfl]
  exact thenE_congr fun _ l => parts4 s { m with g0 := a, g1 := b, g2 := c, g3 := d } l h1 h2 h3
theorem parts2 (s : ByteArray) (m : Dm) (l : List Tk) (h1 : m.bits = fun _ => false) (h2 : m.slots = []) (h3 : m.fl = 0) : partsF s 6 2 ⟨m, 0, 0⟩ l = pDevice s m l := by
  rw [parts_eq]
  refine thenE_congr fun _ l => ?_
  rw [part_step s 2 0 ⟨m, 0, 0⟩ l _ (inF 1 4096) (fun v => ⟨{ m with bl := v }, 0, 0⟩) (fun t => rfl) rfl]
  refine thenE_congr fun a l => ?_
  rw [part_step s 2 1 _ l _ sizeF (fun v => ⟨{ m with bl := a, sz := v }, 0, 0⟩) (fun t => rfl) rfl]
  refine thenE_congr fun b l => ?_
  rw [part_step s 2 2 _ l _ (inF 1 16) (fun v => ⟨{ m with bl := a, sz := b, sl := v }, 0, 0⟩) (fun t => rfl) rfl]
  refine thenE_congr fun c l => ?_
  rw [part_last s 2 3 _ l _ (fun t => rfl) rfl]
  exact thenE_congr fun _ l => parts3 s { m with bl := a, sz := b, sl := c } l h1 h2 h3
theorem parts1 (s : ByteArray) (m : Dm) (l : List Tk) (h1 : m.bits = fun _ => false) (h2 : m.slots = []) (h3 : m.fl = 0) : partsF s 7 1 ⟨m, 0, 0⟩ l = pSeq s m l := by
  rw [parts_eq]
  refine thenE_congr fun _ l => ?_
  rw [part_step s 1 0 ⟨m, 0, 0⟩ l _ (inF 1 4611686018427387904) (fun v => ⟨{ m with sq := v }, 0, 0⟩) (fun t => rfl) rfl]
  refine thenE_congr fun a l => ?_
  rw [part_last s 1 1 _ l _ (fun t => rfl) rfl]
  exact thenE_congr fun _ l => parts2 s { m with sq := a } l h1 h2 h3
theorem parts0 (s : ByteArray) (m : Dm) (l : List Tk) (h1 : m.bits = fun _ => false) (h2 : m.slots = []) (h3 : m.fl = 0) : partsF s 8 0 ⟨m, 0, 0⟩ l = pMeta s m l := by
  rw [parts_eq]
  refine thenE_congr fun _ l => ?_
  rw [part_step s 0 0 ⟨m, 0, 0⟩ l _ (isW wOne) (fun _ => ⟨m, 0, 0⟩) (fun t => rfl) rfl]
  refine thenE_congr fun a l => ?_
  rw [part_last s 0 1 _ l _ (fun t => rfl) rfl]
  exact thenE_congr fun _ l => parts1 s m l h1 h2 h3
/-- The program and the document make the same of a text. -/
theorem parse_same (s : ByteArray) : parseR s = parseD s := parts0 s dm0 (toks s 0) rfl rfl rfl
end Go.Proofs.YtbfebfeliddpnaaDoor
