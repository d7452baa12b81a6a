/- Bytes fed to a hash: the plain side, and the block of a hash. -/
import Derived.Test.YtgehbfnfhjpjbaaDoorShaD
import Derived.Laws.CopyOwn
import Derived.Deep.RegionLaw
import Derived.Deep.RegionHeld3
import Derived.Deep.MidRow
namespace Go.Proofs.YtgehbfnfhjpjbaaDoor
open Go.RowKit
set_option linter.unusedVariables false
set_option linter.unusedSimpArgs false
/-- One byte fed. -/
def feed1 (K : Nat → Int) (s : St × List Int × Nat) (x : Int) : St × List Int × Nat :=
  if s.2.2 + 1 = 64 then (mixS K s.1 (s.2.1.set s.2.2 x), s.2.1.set s.2.2 x, 0) else (s.1, s.2.1.set s.2.2 x, s.2.2 + 1)
def feed (K : Nat → Int) (s : St × List Int × Nat) (l : List Int) : St × List Int × Nat := l.foldl (feed1 K) s
theorem feed_append (K : Nat → Int) (s : St × List Int × Nat) (l r : List Int) : feed K s (l ++ r) = feed K (feed K s l) r := by simp [feed]
theorem splice_cons (part : List Int) (held : Nat) (x : Int) (l : List Int) (h : held < part.length) : splice (part.set held x) (held + 1) l = splice part held (x :: l) := by
  have e : (part.set held x).take (held + 1) = part.take held ++ [x] := by
    rw [List.take_add_one, List.take_set_of_le (Nat.le_refl _)]
    simp [h]
  have e2 : (part.set held x).drop (held + 1 + l.length) = part.drop (held + (l.length + 1)) := by
    rw [List.drop_set_of_lt (by omega), show held + 1 + l.length = held + (l.length + 1) by omega]
  unfold splice
  rw [e, e2]
  simp
theorem splice_nil' (part : List Int) (held : Nat) : splice part held [] = part := by simp [splice]
theorem feed_part (K : Nat → Int) (st : St) : ∀ (l part : List Int) (held : Nat), part.length = 64 → held + l.length < 64 → feed K (st, part, held) l = (st, splice part held l, held + l.length)
  | [], part, held, _, _ => by simp [feed, splice_nil']
  | x :: l, part, held, hp, h => by
    have h' : held + 1 + l.length < 64 := by simp at h; omega
    have := feed_part K st l (part.set held x) (held + 1) (by simp [hp]) h'
    show feed K (feed1 K (st, part, held) x) l = _
    unfold feed1
    rw [if_neg (by simp; omega), this, splice_cons _ _ _ _ (by omega)]
    simp; omega
theorem feed_full (K : Nat → Int) (st : St) : ∀ (l part : List Int) (held : Nat), part.length = 64 → held < 64 → held + l.length = 64 → feed K (st, part, held) l = (mixS K st (splice part held l), splice part held l, 0)
  | [], part, held, _, h0, h => by simp at h; omega
  | [x], part, held, hp, h0, h => by
    have h' : held + 1 = 64 := by simpa using h
    show feed1 K (st, part, held) x = _
    unfold feed1
    rw [if_pos h', ← splice_cons _ _ _ _ (by omega), splice_nil']
  | x :: y :: l, part, held, hp, h0, h => by
    have h' : held + 1 + (y :: l).length = 64 := by simp at h ⊢; omega
    have := feed_full K st (y :: l) (part.set held x) (held + 1) (by simp [hp]) (by simp at h; omega) h'
    show feed K (feed1 K (st, part, held) x) (y :: l) = _
    unfold feed1
    rw [if_neg (by simp at h ⊢; omega), this, splice_cons _ _ _ _ (by omega)]
/-- The cells of a hash. -/
def hashL (st : St) (part : List Int) (held cnt : Int) : List Value := st.list.map (.int .u32) ++ part.map (.int .u8) ++ [.int .i64 held, .int .u64 cnt]
theorem hashL_length (st : St) (part : List Int) (held cnt : Int) (h : part.length = 64) : (hashL st part held cnt).length = 74 := by simp [hashL, St.list, h]
theorem hashL_72 (st : St) (part : List Int) (held cnt : Int) (h : part.length = 64) : (hashL st part held cnt)[72]? = some (.int .i64 held) := by
  unfold hashL
  rw [List.getElem?_append_right (by simp [St.list, h])]
  simp [St.list, h]
theorem hashL_73 (st : St) (part : List Int) (held cnt : Int) (h : part.length = 64) : (hashL st part held cnt)[73]? = some (.int .u64 cnt) := by
  unfold hashL
  rw [List.getElem?_append_right (by simp [St.list, h])]
  simp [St.list, h]
theorem hashL_set72 (st : St) (part : List Int) (held cnt x : Int) (h : part.length = 64) : (hashL st part held cnt).set 72 (.int .i64 x) = hashL st part x cnt := by
  unfold hashL
  rw [List.set_append_right _ _ (by simp [St.list, h])]
  simp [St.list, h]
theorem hashL_set73 (st : St) (part : List Int) (held cnt x : Int) (h : part.length = 64) : (hashL st part held cnt).set 73 (.int .u64 x) = hashL st part held x := by
  unfold hashL
  rw [List.set_append_right _ _ (by simp [St.list, h])]
  simp [St.list, h]
theorem splice_mid (A B C : List Value) (o : Nat) (cs : List Value) (h : o + cs.length ≤ B.length) : splice (A ++ B ++ C) (A.length + o) cs = A ++ splice B o cs ++ C := by
  unfold splice
  rw [List.append_assoc A B C, List.take_append, List.take_of_length_le (by omega), show A.length + o - A.length = o by omega, List.take_append_of_le_length (by omega)]
  rw [List.drop_append, List.drop_eq_nil_of_le (by omega), show A.length + o + cs.length - A.length = o + cs.length by omega, List.drop_append_of_le_length h]
  simp
theorem map_splice (B cs : List Int) (o : Nat) : (splice B o cs).map (Value.int .u8) = splice (B.map (.int .u8)) o (cs.map (.int .u8)) := by simp [splice, List.map_take, List.map_drop]
theorem hashL_splice (st : St) (part cs : List Int) (held cnt : Int) (o : Nat) (h : o + cs.length ≤ part.length) : splice (hashL st part held cnt) (8 + o) (cs.map (.int .u8)) = hashL st (splice part o cs) held cnt := by
  unfold hashL
  rw [map_splice, ← splice_mid _ _ _ _ _ (by simpa using h)]
  simp [St.list]
theorem hashL_state (st st' : St) (part : List Int) (held cnt : Int) : splice (hashL st part held cnt) 0 (st'.list.map (.int .u32)) = hashL st' part held cnt := by
  simp [hashL, splice, St.list]
theorem Blk.setL {w : World} {g : Nat} {t : TypeId} {cs : List Value} (h : Blk w g t cs.toArray) (i : Nat) (u : Value) : Blk (w.setCell ⟨g, i, none⟩ u) g t (cs.set i u).toArray := by
  have := h.set i u
  simpa using this
theorem hash_size : (Tryd.prog.info? 100).map (·.size) = some 74 := by kernel_rfl
end Go.Proofs.YtgehbfnfhjpjbaaDoor
