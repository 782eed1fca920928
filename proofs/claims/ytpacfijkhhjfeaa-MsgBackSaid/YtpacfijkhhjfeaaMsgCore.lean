/- (Request).core, (Reply).core. -/
import Derived.Test.YtpacfijkhhjfeaaMsgMay
import Derived.Deep.MidRow
namespace Go.Proofs.Ytpacfijkhhjfeaa
set_option linter.unusedVariables false
set_option linter.unusedSimpArgs false
open Go.RowKit

theorem size_name : (Try.prog.info? 24).map (·.size) = some 16 := by kernel_rfl
theorem size_core : (Try.prog.info? 56).map (·.size) = some 20 := by kernel_rfl

theorem sixteen {α : Type} {l : List α} (h : l.length = 16) : ∃ a b c d e f g i j k m n o p q r, l = [a, b, c, d, e, f, g, i, j, k, m, n, o, p, q, r] := by
  match l, h with
  | [a, b, c, d, e, f, g, i, j, k, m, n, o, p, q, r], _ => exact ⟨a, b, c, d, e, f, g, i, j, k, m, n, o, p, q, r, rfl⟩

def requestCells (c : Core) (vn vd : Value) : List Value := .int .i64 c.client :: .int .u64 c.id :: .int .i64 c.kind :: (c.name.map (Value.int .u8) ++ [.int .u64 c.gen, vn, vd])

set_option maxHeartbeats 4000000 in
set_option maxRecDepth 100000 in
theorem request_core_calls (c : Core) (vn vd : Value) (w : World) (hn : c.name.length = 16) :
    Calls Try.prog 19 #[.agg (requestCells c vn vd).toArray] w fun e w' => e = .returned (.agg (coreCells c).toArray) ∧ Below w.heap.size w w' := by
  obtain ⟨c1, c2, c3, c4, nm⟩ := c
  obtain ⟨n0, n1, n2, n3, n4, n5, n6, n7, n8, n9, n10, n11, n12, n13, n14, n15, rfl⟩ := sixteen hn
  clear hn
  simp only [requestCells, coreCells, List.map_cons, List.map_nil, List.cons_append, List.nil_append]
  have hblk : ∀ (cs : Array Value) (o : Obj), ((w.alloc (.cells cs 28)).alloc o).heap[w.heap.size]? = some (.cells cs 28 (0, 0)) := fun cs o => by
    rw [Below.heap_alloc _ _ _ (by simp)]; exact heap_alloc_new w _
  have hcell : ∀ (cs : Array Value) (o : Obj) (i : Nat), ((w.alloc (.cells cs 28)).alloc o).cell? ⟨w.heap.size, i, none⟩ = cs[i]? := fun cs o i => cell_of_row _ _ _ _ _ _ (hblk cs o)
  generalize hcs : [Value.int .i64 c1, Value.int .u64 c3, Value.int .i64 c2, Value.int .u8 n0, Value.int .u8 n1, Value.int .u8 n2, Value.int .u8 n3, Value.int .u8 n4, Value.int .u8 n5, Value.int .u8 n6, Value.int .u8 n7, Value.int .u8 n8, Value.int .u8 n9, Value.int .u8 n10, Value.int .u8 n11, Value.int .u8 n12, Value.int .u8 n13, Value.int .u8 n14, Value.int .u8 n15, Value.int .u64 c4, vn, vd].toArray = cs
  have HC := Lib.hid hcell
  have f0 : ∀ o : Obj, ((w.alloc (.cells cs 28)).alloc o).cell? ⟨w.heap.size, 0, none⟩ = some (.int .i64 c1) := fun o => by rw [hcell, ← hcs]; rfl
  have f1 : ∀ o : Obj, ((w.alloc (.cells cs 28)).alloc o).cell? ⟨w.heap.size, 1, none⟩ = some (.int .u64 c3) := fun o => by rw [hcell, ← hcs]; rfl
  have f2 : ∀ o : Obj, ((w.alloc (.cells cs 28)).alloc o).cell? ⟨w.heap.size, 2, none⟩ = some (.int .i64 c2) := fun o => by rw [hcell, ← hcs]; rfl
  have f19 : ∀ o : Obj, ((w.alloc (.cells cs 28)).alloc o).cell? ⟨w.heap.size, 19, none⟩ = some (.int .u64 c4) := fun o => by rw [hcell, ← hcs]; rfl
  have HCS := Lib.hid hcs
  clear hblk hcell hcs
  go_enter Try.func19, Try.ntmps19
  go_wp2_with (first
    | (with_reducible refine wpList_store_row rfl 56 (.tmp 2) (.tmp 13) rfl (w.heap.size + 1) _ rfl rfl 56 _ (heap_alloc2_new w _ _) ?a1 ?a2 ?a3 ?_)
    | with_reducible refine wpList_load_mid rfl 24 (.tmp 11) rfl w.heap.size 3 rfl [.int .u8 n0, .int .u8 n1, .int .u8 n2, .int .u8 n3, .int .u8 n4, .int .u8 n5, .int .u8 n6, .int .u8 n7, .int .u8 n8, .int .u8 n9, .int .u8 n10, .int .u8 n11, .int .u8 n12, .int .u8 n13, .int .u8 n14, .int .u8 n15] _ ?c1 Try.underlying24 rfl ?c2 ?_)
  case c1 =>
    intro j v hj
    rw [HC.out, ← HCS.out]
    match j, hj with
    | 0, hj => simpa using hj
    | 1, hj => simpa using hj
    | 2, hj => simpa using hj
    | 3, hj => simpa using hj
    | 4, hj => simpa using hj
    | 5, hj => simpa using hj
    | 6, hj => simpa using hj
    | 7, hj => simpa using hj
    | 8, hj => simpa using hj
    | 9, hj => simpa using hj
    | 10, hj => simpa using hj
    | 11, hj => simpa using hj
    | 12, hj => simpa using hj
    | 13, hj => simpa using hj
    | 14, hj => simpa using hj
    | 15, hj => simpa using hj
    | j + 16, hj => simp at hj
  case c2 => exact size_name
  case a1 => exact size_core
  case a2 => rfl
  case a3 => simp [Value.oneCell']
  refine bodyPost_ret (results_cell_row (fn := Try.f19) rfl _ _ (w.heap.size + 1) 56 _ (0, 0) _ rfl (setRow_heap _ _ _ _ _ _ (heap_alloc2_new w _ _)) Try.underlying56 rfl ?_) rfl ⟨rfl, below_setRow (((Below.refl w.heap.size w).alloc (Nat.le_refl _) _).alloc (by simp) _) (by omega) _⟩
  exact size_core

def replyCells (c : Core) (vn vd : Value) : List Value := [.int .i64 c.client, .int .u64 c.id, .int .i64 c.kind, .int .u64 c.gen, vn, vd]

set_option maxHeartbeats 4000000 in
set_option maxRecDepth 100000 in
theorem reply_core_calls (c : Core) (vn vd : Value) (w : World) (hn : c.name = List.replicate 16 0) :
    Calls Try.prog 29 #[.agg (replyCells c vn vd).toArray] w fun e w' => e = .returned (.agg (coreCells c).toArray) ∧ Below w.heap.size w w' := by
  obtain ⟨c1, c2, c3, c4, nm⟩ := c
  simp only at hn
  subst hn
  have hcell : ∀ (cs : Array Value) (o : Obj) (i : Nat), ((w.alloc (.cells cs 30)).alloc o).cell? ⟨w.heap.size, i, none⟩ = cs[i]? := fun cs o i => cell_of_row _ _ _ _ _ (0, 0) (by
    rw [Below.heap_alloc _ _ _ (by simp)]; exact heap_alloc_new w _)
  have f0 : ∀ o : Obj, ((w.alloc (.cells (replyCells ⟨c1, c2, c3, c4, List.replicate 16 0⟩ vn vd).toArray 30)).alloc o).cell? ⟨w.heap.size, 0, none⟩ = some (.int .i64 c1) := fun o => by rw [hcell]; rfl
  have f1 : ∀ o : Obj, ((w.alloc (.cells (replyCells ⟨c1, c2, c3, c4, List.replicate 16 0⟩ vn vd).toArray 30)).alloc o).cell? ⟨w.heap.size, 1, none⟩ = some (.int .u64 c3) := fun o => by rw [hcell]; rfl
  have f2 : ∀ o : Obj, ((w.alloc (.cells (replyCells ⟨c1, c2, c3, c4, List.replicate 16 0⟩ vn vd).toArray 30)).alloc o).cell? ⟨w.heap.size, 2, none⟩ = some (.int .i64 c2) := fun o => by rw [hcell]; rfl
  have f3 : ∀ o : Obj, ((w.alloc (.cells (replyCells ⟨c1, c2, c3, c4, List.replicate 16 0⟩ vn vd).toArray 30)).alloc o).cell? ⟨w.heap.size, 3, none⟩ = some (.int .u64 c4) := fun o => by rw [hcell]; rfl
  clear hcell
  generalize (replyCells ⟨c1, c2, c3, c4, List.replicate 16 0⟩ vn vd).toArray = cs at *
  go_enter Try.func29, Try.ntmps29
  go_wp2_with (first
    | (with_reducible refine wpList_store_row rfl 56 (.tmp 2) (.tmp 12) rfl (w.heap.size + 1) _ rfl rfl 56 _ (heap_alloc2_new w _ _) ?a1 ?a2 ?a3 ?_))
  case a1 => exact size_core
  case a2 => rfl
  case a3 => simp [Value.oneCell']
  refine bodyPost_ret (results_cell_row (fn := Try.f29) rfl _ _ (w.heap.size + 1) 56 _ (0, 0) _ rfl (setRow_heap _ _ _ _ _ _ (heap_alloc2_new w _ _)) Try.underlying56 rfl ?_) rfl ⟨rfl, below_setRow (((Below.refl w.heap.size w).alloc (Nat.le_refl _) _).alloc (by simp) _) (by omega) _⟩
  exact size_core
end Go.Proofs.Ytpacfijkhhjfeaa
