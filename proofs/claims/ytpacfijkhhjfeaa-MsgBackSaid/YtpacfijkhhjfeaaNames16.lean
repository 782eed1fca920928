/- Slices of arrays of bytes (names of 16 bytes, of 32): what a slice reads as. -/
import Derived.Test.YtpacfijkhhjfeaaFrame
import Derived.Test.YtpacfijkhhjfeaaAppend
import Derived.Deep.MidRow
namespace Go.Proofs.Ytpacfijkhhjfeaa
set_option linter.unusedVariables false
set_option linter.unusedSimpArgs false
open Go.RowKit

/-- the slice v reads, in w, as the arrays ns, each of k bytes -/
def isNames (w : World) (k : Nat) (v : Value) (ns : List (List Int)) : Prop :=
  ∃ (a : Option Addr) (c : Nat), v = .slice a ns.length c ∧ ns.length ≤ c ∧ (∀ n ∈ ns, n.length = k) ∧
    (ns ≠ [] → ∃ b off, a = some ⟨b, off, none⟩ ∧ b < w.heap.size ∧ ∀ i, i < ns.length → w.rangeAt b (off + i * k) ((ns.getD i []).map (Value.int .u8)))

theorem rangeAt_block {w w' : World} {b o : Nat} {cs : List Value} (h : w.rangeAt b o cs) (hb : w'.heap[b]? = w.heap[b]?) : w'.rangeAt b o cs := fun j v hj => by
  rw [cell_block (w := w) hb]
  exact h j v hj

theorem isNames.kept {w w' : World} {k : Nat} {v : Value} {ns : List (List Int)} (h : isNames w k v ns) (hs : w.heap.size ≤ w'.heap.size) (hk : ∀ b, b < w.heap.size → (∀ a n c, v = .slice (some a) n c → a.block = b → w'.heap[b]? = w.heap[b]?)) : isNames w' k v ns := by
  obtain ⟨a, c, rfl, hc, hn, hr⟩ := h
  refine ⟨a, c, rfl, hc, hn, fun hl => ?_⟩
  obtain ⟨b, off, rfl, hb, hcell⟩ := hr hl
  exact ⟨b, off, rfl, Nat.lt_of_lt_of_le hb hs, fun i hi => rangeAt_block (hcell i hi) (hk _ hb _ _ _ rfl rfl)⟩

theorem isNames.below {w w' : World} {B : Nat} {k : Nat} {v : Value} {ns : List (List Int)} (h : isNames w k v ns) (hb : Below B w w') (hB : w.heap.size ≤ B) : isNames w' k v ns :=
  h.kept hb.size fun b hlt _ _ _ _ _ => hb.block b (Nat.lt_of_lt_of_le hlt hB)

theorem isNames.length {w : World} {k : Nat} {v : Value} {ns : List (List Int)} (h : isNames w k v ns) (i : Nat) (hi : i < ns.length) : (ns.getD i []).length = k := by
  obtain ⟨a, c, rfl, hc, hn, hr⟩ := h
  have : ns.getD i [] ∈ ns := by simp [List.getD, hi]
  exact hn _ this

theorem run_slice_arr_all {P : Program} (w : World) (t e : TypeId) (n : Nat) (ht : P.underlying t = some (.array n e)) (he : ∀ u : World, (sizeOf e).run P u = .ok 1 u) (g o : Nat) :
    (Instr.sliceAt t (.pointer (some ⟨g, o, none⟩)) none none none).run P w = .ok (.slice (some ⟨g, o, none⟩) n n) w := by
  have hadd : (⟨g, o, none⟩ : Addr).add 0 = ⟨g, o, none⟩ := by unfold Addr.add; split <;> simp_all
  simp [Instr.sliceAt, Instr.sureAddr, run_underlying ht, Instr.sliceBounds, run_sliceBound, he, Sem.run_bind, Result.andThen]
  intro _
  exact hadd

theorem flat_length {k : Nat} : ∀ {ns : List (List Int)}, (∀ n ∈ ns, n.length = k) → ns.flatten.length = ns.length * k
  | [], _ => by simp
  | n :: r, h => by
    rw [List.flatten_cons, List.length_append, flat_length (fun m hm => h m (List.mem_cons_of_mem _ hm)), h n (List.mem_cons_self ..), List.length_cons, Nat.succ_mul]
    omega

theorem take_succ_getD {ns : List (List Int)} {i : Nat} (hi : i < ns.length) : ns.take (i + 1) = ns.take i ++ [ns.getD i []] := by
  rw [List.take_succ_eq_append_getElem hi]
  simp [List.getD, hi]

theorem flat_take {ns : List (List Int)} {i : Nat} (hi : i < ns.length) : (ns.take (i + 1)).flatten = (ns.take i).flatten ++ ns.getD i [] := by
  rw [take_succ_getD hi, List.flatten_append]
  simp
end Go.Proofs.Ytpacfijkhhjfeaa
