/- errors.Is between two numbers of errors. -/
import Derived.Test.YtpacfijkhhjfeaaChecked
import Derived.WalkKit
import Derived.LaidEql
import Derived.Stop.Asserts
import Derived.RowKitTokens
namespace Go.Proofs.Ytpacfijkhhjfeaa
set_option linter.unusedVariables false
set_option linter.unusedSimpArgs false
open Go.RowKit Go.Extern.Stop Go.Stop Go.Extern

section
variable {P : Program} (w : World)

theorem run_equalIn_iface_int (d : Nat) {ti tn : TypeId} {ms : Array (String × TypeId)} {i : TypeInfo} {k : IntKind} (a b : Int)
    (hi : P.underlying ti = some (.interface ms)) (hn : P.underlying tn = some (.int k)) (hinfo : P.info? tn = some i) (hcomp : i.comparable = true) :
    (Op.equalIn (d + 2) ti (.iface tn (.int k a)) (.iface tn (.int k b))).run P w = .ok (a == b) w := by
  simp [Op.equalIn, run_underlying hi, run_underlying hn, typeInfo, hinfo, hcomp]

theorem run_eql_iface_int {ti tn : TypeId} {ms : Array (String × TypeId)} {i : TypeInfo} {k : IntKind} (a b : Int)
    (hi : P.underlying ti = some (.interface ms)) (hn : P.underlying tn = some (.int k)) (hinfo : P.info? tn = some i) (hcomp : i.comparable = true) :
    (binOp .eql ti (.iface tn (.int k a)) (.iface tn (.int k b))).run P w = .ok (.bool (a == b)) w := by
  simp only [binOp]
  simp [Op.equal, Op.maxDepth, run_equalIn_iface_int w 9998 a b hi hn hinfo hcomp]
end

theorem errno_comp : (Try.prog.info? 31).map (·.comparable) = some true := by kernel_rfl

/-- what 'reflectlite.TypeOf(target).Comparable()' asks -/
noncomputable def comparableM : Array Value → Sem Value := Extern.ReflectliteType.method fun t => do Extern.Rtype.noPackHeld "Comparable" t; pure (.bool (← typeInfo t).comparable)
theorem errnoTypeOf (v : Value) (w : World) : (Extern.ReflectliteType.typeOf #[.iface 31 v]).run Try.prog w = .ok (.iface 121 (.agg #[.pointer (some ⟨0, 31, none⟩)])) w := by kernel_rfl
theorem errnoComparable (w : World) : (comparableM #[.agg #[.pointer (some ⟨0, 31, none⟩)]]).run Try.prog w = .ok (.bool true) w := by kernel_rfl
theorem errnoMethod (v : Value) (w : World) : (Go.method 275 121 v "Comparable").run Try.prog w = .ok (92, v) w := by kernel_rfl
theorem errnoNoIs (v : Value) (xT : TypeId) (w : World) : (Instr.typeAssert (.iface 31 v) xT 123 true).run Try.prog w = .ok (.tuple #[.nilIface, .bool false]) w := run_typeAssert_lacksB Try.underlying123 (by kernel_rfl) (by kernel_rfl) v xT w
theorem errnoNoUnwrap (v : Value) (xT : TypeId) (w : World) : (Instr.typeAssert (.iface 31 v) xT 126 true).run Try.prog w = .ok (.tuple #[.nilIface, .bool false]) w := run_typeAssert_lacksB Try.underlying126 (by kernel_rfl) (by kernel_rfl) v xT w
theorem errnoNoUnwraps (v : Value) (xT : TypeId) (w : World) : (Instr.typeAssert (.iface 31 v) xT 128 true).run Try.prog w = .ok (.tuple #[.nilIface, .bool false]) w := run_typeAssert_lacksB Try.underlying128 (by kernel_rfl) (by kernel_rfl) v xT w

set_option maxHeartbeats 1000000 in
set_option maxRecDepth 100000 in
theorem errors_is_calls (a b : Int) (w : World) :
    Calls Try.prog 53 #[.iface 31 (.int .i64 a), .iface 31 (.int .i64 b)] w fun e w' => e = .returned (.bool (a == b)) ∧ w = w' := by
  obtain ⟨i, hi, hcmp⟩ := Option.map_eq_some_iff.1 errno_comp
  have h8 := @run_callFunc_extern Try.prog 59 _ Extern.ReflectliteType.typeOf Try.func59 (by kernel_rfl) (by kernel_rfl) (by kernel_rfl) (by kernel_rfl)
  have h32 := @run_callFunc_extern Try.prog 92 _ comparableM Try.func92 (by kernel_rfl) (by kernel_rfl) (by kernel_rfl) (by kernel_rfl)
  have tT := errnoTypeOf
  have cT := errnoComparable
  have mR := errnoMethod
  have nE := errnoNoIs
  have uE := errnoNoUnwrap
  have vE := errnoNoUnwraps
  have heq := run_eql_iface_int (P := Try.prog) w a b Try.underlying93 Try.underlying31 hi hcmp
  by_cases hab : (a == b) = true
  all_goals
    go_enter Try.func53, Try.ntmps53
    go_wp2
    refine wp_loop_rounds 1 ?_
    rw [rounds_succ]
    go_wp2
    go_ret
    exact ⟨by simp_all, rfl⟩
end Go.Proofs.Ytpacfijkhhjfeaa
