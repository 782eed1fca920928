/- The two numbers that MsgBack changes: they differ, and stay in range. -/
import Derived.Test.YtpacfijkhhjfeaaCoreEqual
namespace Go.Proofs.Ytpacfijkhhjfeaa
set_option linter.unusedVariables false
set_option linter.unusedSimpArgs false
open Go.RowKit

theorem wrap_u64_bd (n : Int) : 0 ≤ IntKind.u64.wrap n ∧ IntKind.u64.wrap n ≤ 18446744073709551615 := by
  have : IntKind.u64.wrap n = n % 18446744073709551616 := by simp [IntKind.wrap, IntKind.bits, IntKind.signed]
  rw [this]
  omega

theorem next_other {n : Int} (h : 0 ≤ n ∧ n ≤ 18446744073709551615) : IntKind.u64.wrap (n + 1) ≠ n := by
  have : IntKind.u64.wrap (n + 1) = (n + 1) % 18446744073709551616 := by simp [IntKind.wrap, IntKind.bits, IntKind.signed]
  rw [this]
  omega

theorem wrap_i64_form (n : Int) : IntKind.i64.wrap n = if n % 18446744073709551616 ≥ 9223372036854775808 then n % 18446744073709551616 - 18446744073709551616 else n % 18446744073709551616 := by
  simp [IntKind.wrap, IntKind.bits, IntKind.signed]

theorem wrap_i64_bd (n : Int) : -9223372036854775808 ≤ IntKind.i64.wrap n ∧ IntKind.i64.wrap n ≤ 9223372036854775807 := by
  rw [wrap_i64_form]
  split <;> omega

theorem flip_form (n : Int) : bits .xor .i64 n 1 = IntKind.i64.wrap (BitVec.ofInt 64 n ^^^ BitVec.ofInt 64 1).toNat := rfl

theorem flip_bd (n : Int) : -9223372036854775808 ≤ bits .xor .i64 n 1 ∧ bits .xor .i64 n 1 ≤ 9223372036854775807 := by
  rw [flip_form]
  exact wrap_i64_bd _

theorem flip_other (n : Int) : bits .xor .i64 n 1 ≠ n := by
  intro h
  rw [flip_form, wrap_i64_form] at h
  have hlt := (BitVec.ofInt 64 n ^^^ BitVec.ofInt 64 1).isLt
  have e : (BitVec.ofInt 64 n).toNat = (BitVec.ofInt 64 n ^^^ BitVec.ofInt 64 1).toNat := by
    rw [BitVec.toNat_ofInt]
    generalize (BitVec.ofInt 64 n ^^^ BitVec.ofInt 64 1).toNat = r at *
    simp only [Nat.reducePow] at hlt ⊢
    split at h <;> omega
  have e2 := BitVec.eq_of_toNat_eq e
  generalize BitVec.ofInt 64 n = a at e2
  have e3 : a ^^^ a = a ^^^ (a ^^^ BitVec.ofInt 64 1) := congrArg (a ^^^ ·) e2
  rw [← BitVec.xor_assoc, BitVec.xor_self, BitVec.zero_xor] at e3
  exact absurd e3 (by decide)
end Go.Proofs.Ytpacfijkhhjfeaa
