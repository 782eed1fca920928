/- Arrays of numbers that lie in a block of their own: plain laws on worlds. -/
import Derived.Below
import Derived.WalkKit
import Derived.Laws.Rows
import Derived.Laws.Tables
import Derived.Laws.OwnMore
import Derived.Laws.IdiomCopy
import Derived.Lib.Hide
import Derived.BigQuiet
import Derived.Deep.QuietTactic
namespace Go.Proofs.Ytpacfijkhhjfeaa
set_option linter.unusedVariables false
set_option linter.unusedSimpArgs false
open Go.RowKit

/-- block g holds the numbers l, of the kind k, as an array of the type T -/
def isArr (w : World) (g : Nat) (T : TypeId) (k : IntKind) (l : List Int) : Prop := w.heap[g]? = some (.cells (l.map (Value.int k)).toArray T (0, 0))

section
variable {w : World} {g : Nat} {T : TypeId} {k : IntKind} {l : List Int}

theorem isArr.lt (h : isArr w g T k l) : g < w.heap.size := (Array.getElem?_eq_some_iff.1 h).1

theorem isArr.cell (h : isArr w g T k l) (i : Nat) (hi : i < l.length) : w.cell? ⟨g, i, none⟩ = some (.int k (l.getD i 0)) := by
  rw [cell_of_row w g i _ T (0, 0) h]
  simp [List.getD, hi]

theorem isArr.frozen (h : isArr w g T k l) (i : Nat) : w.frozen? ⟨g, i, none⟩ = false := frozen_of_row w g i _ T h

theorem isArr.drew (h : isArr w g T k l) : isArr w.drew g T k l := h
theorem isArr.drewN (h : isArr w g T k l) (n : Nat) : isArr (w.drewN n) g T k l := by
  induction n with
  | zero => exact h
  | succ n ih => exact ih.drew

theorem isArr.set (h : isArr w g T k l) (i : Nat) (x : Int) : isArr (w.setCell ⟨g, i, none⟩ (.int k x)) g T k (l.set i x) := by
  unfold isArr at h ⊢
  rw [heap_setCell_same w g i _ T _ h]
  simp [List.map_set]

theorem isArr.setCell (h : isArr w g T k l) (a : Addr) (ha : a.block ≠ g) (v : Value) : isArr (w.setCell a v) g T k l := by
  unfold isArr at h ⊢
  rw [Below.heap_setCell _ _ _ _ (Ne.symm ha)]; exact h

theorem isArr.alloc (h : isArr w g T k l) (o : Obj) : isArr (w.alloc o) g T k l := by
  have := h.lt
  unfold isArr at h ⊢
  rw [Below.heap_alloc w o g this]; exact h

theorem isArr.below {B : Nat} {w' : World} (h : isArr w g T k l) (hb : Below B w w') (hg : g < B) : isArr w' g T k l := by
  unfold isArr at h ⊢
  rw [hb.block g hg]; exact h

theorem isArr.new (w : World) (T : TypeId) (k : IntKind) (l : List Int) : isArr (w.alloc (.cells (l.map (Value.int k)).toArray T)) w.heap.size T k l := heap_alloc_new w _
end

theorem add_plain (b o j : Nat) : (⟨b, o, none⟩ : Addr).add j = ⟨b, o + j, none⟩ := by
  unfold Addr.add
  split <;> simp_all

theorem heap_setCells_other (b : Nat) : ∀ (vs : List Value) (o : Nat) (w : World) (k : Nat), k ≠ b → (w.setCells b o vs).heap[k]? = w.heap[k]?
  | [], _, _, _, _ => rfl
  | v :: r, o, w, k, hk => by
    rw [World.setCells, heap_setCells_other b r (o + 1) _ k hk]
    exact Below.heap_setCell _ _ _ _ hk

theorem size_setCells (b : Nat) : ∀ (vs : List Value) (o : Nat) (w : World), (w.setCells b o vs).heap.size = w.heap.size
  | [], _, _ => rfl
  | v :: r, o, w => by rw [World.setCells, size_setCells b r (o + 1)]; simp

theorem isArr.setCells {w : World} {g : Nat} {T : TypeId} {k : IntKind} {l : List Int} (h : isArr w g T k l) {b : Nat} (hb : g ≠ b) (o : Nat) (vs : List Value) : isArr (w.setCells b o vs) g T k l := by
  unfold isArr at h ⊢
  rw [heap_setCells_other b vs o w g hb]; exact h

theorem below_setCells {B b : Nat} {w0 : World} (hB : B ≤ b) : ∀ (vs : List Value) (o : Nat) (w : World), Below B w0 w → Below B w0 (w.setCells b o vs)
  | [], _, _, h => h
  | v :: r, o, w, h => below_setCells hB r (o + 1) _ (h.setCell hB _)

theorem below_drewN {B : Nat} {w0 w : World} (h : Below B w0 w) (n : Nat) : Below B w0 (w.drewN n) := ⟨h.os, h.tape, h.output, h.size, h.block⟩

/-- a call that leaves the world alone, within a region that reads, behind other such regions -/
theorem quiet_more {P : Program} {f : FuncId} {args : Array Value} {w : World} {a n : Nat} {v : Value} (h : ∀ W : World, Calls P f args W fun e w' => e = .returned v ∧ w' = W) :
    Calls P f args (w.drewN (a + n)) fun e w'' => e = .returned v ∧ ∃ m, w'' = w.drewN (a + m) :=
  (h _).mono fun _ _ ⟨he, hm⟩ => ⟨he, n, hm⟩

/-- a literal of an array, its cells known -/
theorem wpList_build_to {P : Program} {ops : Array Oper} {rest : List Oper} {o : Oper} {a : Act} {w : World} {Q : Exit → Act → World → Prop} (hg : o.guard = none) (t : TypeId) (parts : Array (Nat × Operand)) (ho : o.op = .build t parts)
    (cells : Array Value) (hb : P.built t (parts.map fun (i, x) => (i, a.eval x)).toList = some cells) (h : wpList P ops Q rest (a.put o.dst (.agg cells)) w) : wpList P ops Q (o :: rest) a w := by
  refine wpList_build hg t parts ho (by rw [hb]; rfl) ?_
  rw [hb]
  exact h

/-- a piece of an array, behind a pointer -/
theorem run_slice_arr {P : Program} (w : World) (t e : TypeId) (n : Nat) (ht : P.underlying t = some (.array n e)) (he : ∀ u : World, (sizeOf e).run P u = .ok 1 u) (g o l h : Nat) (x y : Int) (hx : x = l) (hy : y = h) (h1 : l ≤ h) (h2 : h ≤ n) (h3 : l < n) (kx ky : IntKind) :
    (Instr.sliceAt t (.pointer (some ⟨g, o, none⟩)) (some (.int kx x)) (some (.int ky y)) none).run P w = .ok (.slice (some ⟨g, o + l, none⟩) (h - l) (n - l)) w := by
  subst hx hy
  have hadd : (⟨g, o, none⟩ : Addr).add (l * 1) = ⟨g, o + l, none⟩ := by unfold Addr.add; split <;> simp_all
  have hne : ¬ n = l := by omega
  simp [Instr.sliceAt, Instr.sureAddr, run_underlying ht, Instr.sliceBounds, run_sliceBound, h1, h2, he, hne, Sem.run_bind, Result.andThen]
  simpa using hadd

theorem run_slice_arr_l {P : Program} (w : World) (t e : TypeId) (n : Nat) (ht : P.underlying t = some (.array n e)) (he : ∀ u : World, (sizeOf e).run P u = .ok 1 u) (g o l : Nat) (x : Int) (hx : x = l) (h3 : l < n) (kx : IntKind) :
    (Instr.sliceAt t (.pointer (some ⟨g, o, none⟩)) (some (.int kx x)) none none).run P w = .ok (.slice (some ⟨g, o + l, none⟩) (n - l) (n - l)) w := by
  subst hx
  have hadd : (⟨g, o, none⟩ : Addr).add (l * 1) = ⟨g, o + l, none⟩ := by unfold Addr.add; split <;> simp_all
  have hne : ¬ n = l := by omega
  simp [Instr.sliceAt, Instr.sureAddr, run_underlying ht, Instr.sliceBounds, run_sliceBound, (by omega : l ≤ n), he, hne, Sem.run_bind, Result.andThen]
  simpa using hadd
end Go.Proofs.Ytpacfijkhhjfeaa
