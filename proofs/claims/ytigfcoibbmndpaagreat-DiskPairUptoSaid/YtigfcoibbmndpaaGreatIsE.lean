/- errors.Is against an Errno, by its contracts. -/
import Derived.Test.YtigfcoibbmndpaaGreatDisQ
import Derived.LaidEql
import Derived.Stop.Asserts
import Derived.RowKitTokens
namespace Go.Proofs.YtigfcoibbmndpaaGreat
open Go.RowKit Go.Extern.Stop Go.Stop Go.Extern
set_option linter.unusedVariables false
set_option linter.unusedSimpArgs false
theorem is_TypeOf (v : Value) (w : World) : (Extern.ReflectliteType.typeOf #[.iface 48 v]).run Tryz.prog w = .ok (.iface 130 (.agg #[.pointer (some ⟨0, 48, none⟩)])) w := by kernel_rfl
theorem is_Comparable (w : World) : ((Extern.ReflectliteType.method fun t => do Extern.Rtype.noPackHeld "Comparable" t; (fun a => Value.bool a.comparable) <$> typeInfo t) #[.agg #[.pointer (some ⟨0, 48, none⟩)]]).run Tryz.prog w = .ok (.bool true) w := by kernel_rfl
theorem is_MethodComparable (v : Value) (w : World) : (Go.method 293 130 v "Comparable").run Tryz.prog w = .ok (133, v) w := by kernel_rfl
theorem is_Comp : (Tryz.prog.info? 48).map (·.comparable) = some true := by kernel_rfl
theorem is_noIs (v : Value) (xT : TypeId) (w : World) : (Instr.typeAssert (.iface 61 v) xT 132 true).run Tryz.prog w = .ok (.tuple #[.nilIface, .bool false]) w := run_typeAssert_lacksB Tryz.underlying132 (by kernel_rfl) (by kernel_rfl) v xT w
theorem is_hasUnwrap (v : Value) (xT : TypeId) (w : World) : (Instr.typeAssert (.iface 61 v) xT 135 true).run Tryz.prog w = .ok (.tuple #[.iface 61 v, .bool true]) w := run_typeAssert_hasB Tryz.underlying135 (by kernel_rfl) v xT w
theorem is_methodUnwrap (v : Value) (w : World) : (Go.method 293 61 v "Unwrap").run Tryz.prog w = .ok (126, v) w := by kernel_rfl
theorem run_equalIn_iface_int {P : Program} (w : World) (d : Nat) {ti tn : TypeId} {ms : Array (String × TypeId)} {i : TypeInfo} {k : IntKind} (a b : Int)
    (hi : P.underlying ti = some (.interface ms)) (hn : P.underlying tn = some (.int k)) (hinfo : P.info? tn = some i) (hcomp : i.comparable = true) :
    (Op.equalIn (d + 2) ti (.iface tn (.int k a)) (.iface tn (.int k b))).run P w = .ok (a == b) w := by
  simp [Op.equalIn, run_underlying hi, run_underlying hn, typeInfo, hinfo, hcomp]
theorem run_eql_iface_int {P : Program} (w : World) {ti tn : TypeId} {ms : Array (String × TypeId)} {i : TypeInfo} {k : IntKind} (a b : Int)
    (hi : P.underlying ti = some (.interface ms)) (hn : P.underlying tn = some (.int k)) (hinfo : P.info? tn = some i) (hcomp : i.comparable = true) :
    (binOp .eql ti (.iface tn (.int k a)) (.iface tn (.int k b))).run P w = .ok (.bool (a == b)) w := by
  simp only [binOp]
  simp [Op.equal, Op.maxDepth, run_equalIn_iface_int w 9998 a b hi hn hinfo hcomp]
set_option maxHeartbeats 1000000 in
set_option maxRecDepth 100000 in
theorem is_nil (x : Int) (w : World) :
    Calls Tryz.prog 75 #[.nilIface, .iface 48 (.int .i64 x)] w fun e w' => e = .returned (.bool false) ∧ w = w' := by
  have hn := run_eql_iface_nil_left (P := Tryz.prog) w 48 (.int .i64 x) Tryz.underlying79
  go_enter Tryz.func75, Tryz.ntmps75
  go_wp2_with fail
  go_ret
  exact ⟨rfl, rfl⟩
set_option maxHeartbeats 1000000 in
set_option maxRecDepth 100000 in
theorem unwrap_ok (b : Nat) (j x : Int) (w : World) (hb : Blk w b 60 #[.int .i64 j, .int .i64 x]) :
    Calls Tryz.prog 126 #[.pointer (some ⟨b, 0, none⟩)] w fun e w' => e = .returned (.iface 48 (.int .i64 x)) ∧ w = w' := by
  have c1 : w.cell? ⟨b, 1, none⟩ = some (.int .i64 x) := hb.cell 1
  go_enter Tryz.func126, Tryz.ntmps126
  go_wp2_with fail
  go_ret
  exact ⟨rfl, rfl⟩
set_option maxHeartbeats 2000000 in
set_option maxRecDepth 100000 in
theorem is_inner (b : Nat) (j x : Int) (w : World) (hb : Blk w b 60 #[.int .i64 j, .int .i64 x]) :
    Calls Tryz.prog 88 #[.iface 61 (.pointer (some ⟨b, 0, none⟩)), .iface 48 (.int .i64 x), .bool true] w fun e w' => e = .returned (.bool true) ∧ w = w' := by
  obtain ⟨i, hi, hcmp⟩ := Option.map_eq_some_iff.1 is_Comp
  have c1 : w.cell? ⟨b, 1, none⟩ = some (.int .i64 x) := hb.cell 1
  have nW := is_noIs
  have uW := is_hasUnwrap
  have mU := is_methodUnwrap
  have heq := run_eql_iface_int (P := Tryz.prog) w x x Tryz.underlying79 Tryz.underlying48 hi hcmp
  rw [show (x == x) = true by simp] at heq
  have hty := run_eql_iface_types (P := Tryz.prog) 61 48 (.pointer (some ⟨b, 0, none⟩)) (.int .i64 x) Tryz.underlying79 (by decide) w
  have hn1 := run_eql_iface_nil_left (P := Tryz.prog) w 48 (.int .i64 x) Tryz.underlying79
  have HU := Lib.hid (unwrap_ok b j x w hb)
  clear hb
  go_enter Tryz.func88, Tryz.ntmps88
  go_wp2_with fail
  refine wp_loop_rounds 2 ?_
  rw [rounds_succ]
  go_wp2_with fail
  refine HU.out.mono ?_
  rintro e w' ⟨rfl, rfl⟩
  go_wp2_with fail
  rw [rounds_succ]
  go_wp2_with fail
  go_ret
  exact ⟨rfl, rfl⟩
set_option maxHeartbeats 2000000 in
set_option maxRecDepth 100000 in
theorem is_block (b : Nat) (j x : Int) (w : World) (hb : Blk w b 60 #[.int .i64 j, .int .i64 x]) :
    Calls Tryz.prog 75 #[.iface 61 (.pointer (some ⟨b, 0, none⟩)), .iface 48 (.int .i64 x)] w fun e w' => e = .returned (.bool true) ∧ w = w' := by
  have h8 := @run_callFunc_extern Tryz.prog 87 _ Extern.ReflectliteType.typeOf Tryz.func87 (by kernel_rfl) (by kernel_rfl) (by kernel_rfl) (by kernel_rfl)
  have h32 := @run_callFunc_extern Tryz.prog 133 _ (Extern.ReflectliteType.method fun t => do Extern.Rtype.noPackHeld "Comparable" t; pure (.bool (← typeInfo t).comparable)) Tryz.func133 (by kernel_rfl) (by kernel_rfl) (by kernel_rfl) (by kernel_rfl)
  have tT := is_TypeOf
  have cT := is_Comparable
  have mR := is_MethodComparable
  have HB := Lib.hid (is_inner b j x w hb)
  have hn1 := run_eql_iface_nil_left (P := Tryz.prog) w 48 (.int .i64 x) Tryz.underlying79
  clear hb
  go_enter Tryz.func75, Tryz.ntmps75
  go_wp2_with fail
  refine HB.out.mono ?_
  rintro e w' ⟨rfl, rfl⟩
  go_wp2_with fail
  go_ret
  exact ⟨rfl, rfl⟩
end Go.Proofs.YtigfcoibbmndpaaGreat
