/- msg.core: how it lies; (core).may. -/
import Derived.Test.YtpacfijkhhjfeaaFrame
namespace Go.Proofs.Ytpacfijkhhjfeaa
set_option linter.unusedVariables false
set_option linter.unusedSimpArgs false
open Go.RowKit

/-- client, kind, id, gen, name -/
structure Core where
  client : Int
  kind : Int
  id : Int
  gen : Int
  name : List Int

def coreCells (c : Core) : List Value := .int .i64 c.client :: .int .i64 c.kind :: .int .u64 c.id :: .int .u64 c.gen :: c.name.map (Value.int .u8)

def mayBe (c : Core) (lo hi : Int) (n m : Nat) : Bool := decide (1 ≤ c.client ∧ c.client ≤ 255 ∧ lo ≤ c.kind ∧ c.kind ≤ hi ∧ n ≤ 128 ∧ m ≤ 8192)

set_option maxHeartbeats 2000000 in
set_option maxRecDepth 100000 in
theorem may_calls (c : Core) (lo hi : Int) (a1 a2 : Option Addr) (n1 c1 n2 c2 : Nat) (w : World) (hn1 : (n1 : Int) ≤ 9223372036854775807) (hn2 : (n2 : Int) ≤ 9223372036854775807) :
    Calls Try.prog 20 #[.agg (coreCells c).toArray, .int .i64 lo, .int .i64 hi, .slice a1 n1 c1, .slice a2 n2 c2] w fun e w' => e = .returned (.bool (mayBe c lo hi n1 n2)) ∧ Below w.heap.size w w' := by
  have hblk : (w.alloc (.cells (coreCells c).toArray 56)).heap[w.heap.size]? = some (.cells (coreCells c).toArray 56 (0, 0)) := heap_alloc_new w _
  have h0 : (w.alloc (.cells (coreCells c).toArray 56)).cell? ⟨w.heap.size, 0, none⟩ = some (.int .i64 c.client) := by rw [cell_of_row _ _ _ _ _ _ hblk]; rfl
  have h1 : (w.alloc (.cells (coreCells c).toArray 56)).cell? ⟨w.heap.size, 1, none⟩ = some (.int .i64 c.kind) := by rw [cell_of_row _ _ _ _ _ _ hblk]; rfl
  have hb : Below w.heap.size w (w.alloc (.cells (coreCells c).toArray 56)) := (Below.refl w.heap.size w).alloc (Nat.le_refl _) _
  have HB := Lib.hid hb
  clear hblk hb
  generalize hcs : (coreCells c).toArray = cs at *
  go_enter Try.func20, Try.ntmps20
  go_wp2_with fail
  all_goals go_ret
  all_goals refine ⟨?_, HB.out⟩
  all_goals first
    | exact congrArg (fun b => Ending.returned (.bool b)) (show false = mayBe c lo hi n1 n2 by (refine Eq.symm ?_; rw [mayBe, decide_eq_false_iff_not]; omega))
    | exact congrArg (fun b => Ending.returned (.bool b)) (show decide ((n2 : Int) ≤ 8192) = mayBe c lo hi n1 n2 by (rw [mayBe, decide_eq_decide]; omega))
end Go.Proofs.Ytpacfijkhhjfeaa
