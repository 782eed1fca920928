/- The contracts of sha.turned and coffretref02.right: a word turned to the right. -/
import Derived.Test.YtpacfijkhhjfeaaChecked
import Derived.Below
import Derived.WalkKit
import Derived.WalkLawsBesides
import Derived.Lib.Hide
namespace Go.Proofs.Ytpacfijkhhjfeaa
set_option linter.unusedVariables false
set_option linter.unusedSimpArgs false
open Go.RowKit

/-- a word, turned to the right by n -/
def rot (n : Nat) (x : Int) : Int := bits .or .u32 (x / 2 ^ n) (x * 2 ^ (32 - n) % 4294967296)

theorem bits_or_comm (k : IntKind) (a b : Int) : bits .or k a b = bits .or k b a := by
  unfold bits
  simp only [BitVec.or_comm]

theorem wrap_u32 (n : Int) : IntKind.u32.wrap n = n % 4294967296 := rfl
theorem bits_u32_lo (op : BinOp) (a b : Int) : 0 ≤ bits op .u32 a b := by
  unfold bits
  rw [wrap_u32]
  exact Int.emod_nonneg _ (by decide)
theorem bits_u32_hi (op : BinOp) (a b : Int) : bits op .u32 a b ≤ 4294967295 := by
  unfold bits
  rw [wrap_u32]
  exact Int.le_of_lt_add_one (Int.emod_lt_of_pos _ (by decide))

theorem ret_u32 {a b : Int} (h : a = b) : Ending.returned (.int .u32 a) = .returned (.int .u32 b) := by rw [h]

set_option maxHeartbeats 400000 in
theorem turned_2 (x : Int) (w : World) (h0 : 0 ≤ x) (h1 : x ≤ 4294967295) :
    Calls Try.prog 70 #[.int .u32 x, .int .i64 2] w fun e w' => e = .returned (.int .u32 (rot 2 x)) ∧ w = w' := by
  have hb : bits .and .u64 (IntKind.u64.wrap (-2)) 31 = 30 := by decide +kernel
  go_enter Try.func70, Try.ntmps70
  go_wp2
  go_ret
  refine ⟨ret_u32 ?_, rfl⟩
  unfold rot
  rw [bits_or_comm]
  rfl

set_option maxHeartbeats 400000 in
theorem turned_6 (x : Int) (w : World) (h0 : 0 ≤ x) (h1 : x ≤ 4294967295) :
    Calls Try.prog 70 #[.int .u32 x, .int .i64 6] w fun e w' => e = .returned (.int .u32 (rot 6 x)) ∧ w = w' := by
  have hb : bits .and .u64 (IntKind.u64.wrap (-6)) 31 = 26 := by decide +kernel
  go_enter Try.func70, Try.ntmps70
  go_wp2
  go_ret
  refine ⟨ret_u32 ?_, rfl⟩
  unfold rot
  rw [bits_or_comm]
  rfl

set_option maxHeartbeats 400000 in
theorem turned_7 (x : Int) (w : World) (h0 : 0 ≤ x) (h1 : x ≤ 4294967295) :
    Calls Try.prog 70 #[.int .u32 x, .int .i64 7] w fun e w' => e = .returned (.int .u32 (rot 7 x)) ∧ w = w' := by
  have hb : bits .and .u64 (IntKind.u64.wrap (-7)) 31 = 25 := by decide +kernel
  go_enter Try.func70, Try.ntmps70
  go_wp2
  go_ret
  refine ⟨ret_u32 ?_, rfl⟩
  unfold rot
  rw [bits_or_comm]
  rfl

set_option maxHeartbeats 400000 in
theorem turned_11 (x : Int) (w : World) (h0 : 0 ≤ x) (h1 : x ≤ 4294967295) :
    Calls Try.prog 70 #[.int .u32 x, .int .i64 11] w fun e w' => e = .returned (.int .u32 (rot 11 x)) ∧ w = w' := by
  have hb : bits .and .u64 (IntKind.u64.wrap (-11)) 31 = 21 := by decide +kernel
  go_enter Try.func70, Try.ntmps70
  go_wp2
  go_ret
  refine ⟨ret_u32 ?_, rfl⟩
  unfold rot
  rw [bits_or_comm]
  rfl

set_option maxHeartbeats 400000 in
theorem turned_13 (x : Int) (w : World) (h0 : 0 ≤ x) (h1 : x ≤ 4294967295) :
    Calls Try.prog 70 #[.int .u32 x, .int .i64 13] w fun e w' => e = .returned (.int .u32 (rot 13 x)) ∧ w = w' := by
  have hb : bits .and .u64 (IntKind.u64.wrap (-13)) 31 = 19 := by decide +kernel
  go_enter Try.func70, Try.ntmps70
  go_wp2
  go_ret
  refine ⟨ret_u32 ?_, rfl⟩
  unfold rot
  rw [bits_or_comm]
  rfl

set_option maxHeartbeats 400000 in
theorem turned_17 (x : Int) (w : World) (h0 : 0 ≤ x) (h1 : x ≤ 4294967295) :
    Calls Try.prog 70 #[.int .u32 x, .int .i64 17] w fun e w' => e = .returned (.int .u32 (rot 17 x)) ∧ w = w' := by
  have hb : bits .and .u64 (IntKind.u64.wrap (-17)) 31 = 15 := by decide +kernel
  go_enter Try.func70, Try.ntmps70
  go_wp2
  go_ret
  refine ⟨ret_u32 ?_, rfl⟩
  unfold rot
  rw [bits_or_comm]
  rfl

set_option maxHeartbeats 400000 in
theorem turned_18 (x : Int) (w : World) (h0 : 0 ≤ x) (h1 : x ≤ 4294967295) :
    Calls Try.prog 70 #[.int .u32 x, .int .i64 18] w fun e w' => e = .returned (.int .u32 (rot 18 x)) ∧ w = w' := by
  have hb : bits .and .u64 (IntKind.u64.wrap (-18)) 31 = 14 := by decide +kernel
  go_enter Try.func70, Try.ntmps70
  go_wp2
  go_ret
  refine ⟨ret_u32 ?_, rfl⟩
  unfold rot
  rw [bits_or_comm]
  rfl

set_option maxHeartbeats 400000 in
theorem turned_19 (x : Int) (w : World) (h0 : 0 ≤ x) (h1 : x ≤ 4294967295) :
    Calls Try.prog 70 #[.int .u32 x, .int .i64 19] w fun e w' => e = .returned (.int .u32 (rot 19 x)) ∧ w = w' := by
  have hb : bits .and .u64 (IntKind.u64.wrap (-19)) 31 = 13 := by decide +kernel
  go_enter Try.func70, Try.ntmps70
  go_wp2
  go_ret
  refine ⟨ret_u32 ?_, rfl⟩
  unfold rot
  rw [bits_or_comm]
  rfl

set_option maxHeartbeats 400000 in
theorem turned_22 (x : Int) (w : World) (h0 : 0 ≤ x) (h1 : x ≤ 4294967295) :
    Calls Try.prog 70 #[.int .u32 x, .int .i64 22] w fun e w' => e = .returned (.int .u32 (rot 22 x)) ∧ w = w' := by
  have hb : bits .and .u64 (IntKind.u64.wrap (-22)) 31 = 10 := by decide +kernel
  go_enter Try.func70, Try.ntmps70
  go_wp2
  go_ret
  refine ⟨ret_u32 ?_, rfl⟩
  unfold rot
  rw [bits_or_comm]
  rfl

set_option maxHeartbeats 400000 in
theorem turned_25 (x : Int) (w : World) (h0 : 0 ≤ x) (h1 : x ≤ 4294967295) :
    Calls Try.prog 70 #[.int .u32 x, .int .i64 25] w fun e w' => e = .returned (.int .u32 (rot 25 x)) ∧ w = w' := by
  have hb : bits .and .u64 (IntKind.u64.wrap (-25)) 31 = 7 := by decide +kernel
  go_enter Try.func70, Try.ntmps70
  go_wp2
  go_ret
  refine ⟨ret_u32 ?_, rfl⟩
  unfold rot
  rw [bits_or_comm]
  rfl

theorem turned_any (x n : Int) (w : World) (h0 : 0 ≤ x) (h1 : x ≤ 4294967295) (hn : n = 2 ∨ n = 6 ∨ n = 7 ∨ n = 11 ∨ n = 13 ∨ n = 17 ∨ n = 18 ∨ n = 19 ∨ n = 22 ∨ n = 25) :
    Calls Try.prog 70 #[.int .u32 x, .int .i64 n] w fun e w' => e = .returned (.int .u32 (rot n.toNat x)) ∧ w' = w := by
  rcases hn with rfl | rfl | rfl | rfl | rfl | rfl | rfl | rfl | rfl | rfl
  · exact (turned_2 x w h0 h1).mono fun e w' ⟨h, k⟩ => ⟨h, k.symm⟩
  · exact (turned_6 x w h0 h1).mono fun e w' ⟨h, k⟩ => ⟨h, k.symm⟩
  · exact (turned_7 x w h0 h1).mono fun e w' ⟨h, k⟩ => ⟨h, k.symm⟩
  · exact (turned_11 x w h0 h1).mono fun e w' ⟨h, k⟩ => ⟨h, k.symm⟩
  · exact (turned_13 x w h0 h1).mono fun e w' ⟨h, k⟩ => ⟨h, k.symm⟩
  · exact (turned_17 x w h0 h1).mono fun e w' ⟨h, k⟩ => ⟨h, k.symm⟩
  · exact (turned_18 x w h0 h1).mono fun e w' ⟨h, k⟩ => ⟨h, k.symm⟩
  · exact (turned_19 x w h0 h1).mono fun e w' ⟨h, k⟩ => ⟨h, k.symm⟩
  · exact (turned_22 x w h0 h1).mono fun e w' ⟨h, k⟩ => ⟨h, k.symm⟩
  · exact (turned_25 x w h0 h1).mono fun e w' ⟨h, k⟩ => ⟨h, k.symm⟩

set_option maxHeartbeats 400000 in
theorem right_7 (x : Int) (w : World) (h0 : 0 ≤ x) (h1 : x ≤ 4294967295) :
    Calls Try.prog 64 #[.int .u32 x, .int .u64 7] w fun e w' => e = .returned (.int .u32 (rot 7 x)) ∧ w = w' := by
  go_enter Try.func64, Try.ntmps64
  go_wp2
  go_ret
  exact ⟨rfl, rfl⟩
end Go.Proofs.Ytpacfijkhhjfeaa
