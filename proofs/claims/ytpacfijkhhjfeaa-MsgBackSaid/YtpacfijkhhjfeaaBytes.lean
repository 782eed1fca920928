/- Slices of bytes: what a slice reads as; laws on worlds. -/
import Derived.Test.YtpacfijkhhjfeaaArr
import Derived.DataElems
namespace Go.Proofs.Ytpacfijkhhjfeaa
set_option linter.unusedVariables false
set_option linter.unusedSimpArgs false
open Go.RowKit

/-- the slice v reads, in the world w, as the numbers l of the kind k; all lies in blocks of w -/
def isRow (w : World) (k : IntKind) (v : Value) (l : List Int) : Prop :=
  ∃ (a : Option Addr) (c : Nat), v = .slice a l.length c ∧ l.length ≤ c ∧ (l ≠ [] → ∃ b, a = some b ∧ b.block < w.heap.size ∧ ∀ j, j < l.length → w.cell? (b.add j) = some (.int k (l.getD j 0)))

def isByte (l : List Int) : Prop := ∀ x ∈ l, 0 ≤ x ∧ x ≤ 255

theorem cell_block {w w' : World} {a : Addr} (h : w'.heap[a.block]? = w.heap[a.block]?) : w'.cell? a = w.cell? a := by
  unfold World.cell?
  rw [h]

theorem add_block (a : Addr) (j : Nat) : (a.add j).block = a.block := by
  unfold Addr.add
  split <;> rfl

theorem isRow.kept {w w' : World} {k : IntKind} {v : Value} {l : List Int} (h : isRow w k v l) (hs : w.heap.size ≤ w'.heap.size) (hk : ∀ b, b < w.heap.size → (∀ a n c, v = .slice (some a) n c → a.block = b → w'.heap[b]? = w.heap[b]?)) : isRow w' k v l := by
  obtain ⟨a, c, rfl, hc, hr⟩ := h
  refine ⟨a, c, rfl, hc, fun hl => ?_⟩
  obtain ⟨b, rfl, hb, hcell⟩ := hr hl
  refine ⟨b, rfl, Nat.lt_of_lt_of_le hb hs, fun j hj => ?_⟩
  rw [cell_block (w := w) (by rw [add_block]; exact hk _ hb b _ _ rfl rfl)]
  exact hcell j hj

theorem isRow.below {w w' : World} {B : Nat} {k : IntKind} {v : Value} {l : List Int} (h : isRow w k v l) (hb : Below B w w') (hB : w.heap.size ≤ B) : isRow w' k v l :=
  h.kept hb.size fun b hlt _ _ _ _ _ => hb.block b (Nat.lt_of_lt_of_le hlt hB)

/-- the piece of a row behind its first d -/
theorem isRow.drop {w : World} {k : IntKind} {a : Option Addr} {n c : Nat} {l : List Int} (h : isRow w k (.slice a n c) l) (d : Nat) (hd : d ≤ l.length) :
    isRow w k (.slice (if c = d then a else a.map (·.add (d * 1))) (n - d) (c - d)) (l.drop d) := by
  obtain ⟨a, c, hv, hc, hr⟩ := h
  cases hv
  refine ⟨_, _, by rw [List.length_drop], by simp; omega, fun hl => ?_⟩
  have hlt : d < l.length := by
    rcases Nat.lt_or_ge d l.length with h | h
    · exact h
    · exact absurd (List.drop_eq_nil_of_le h) hl
  obtain ⟨b, rfl, hb, hcell⟩ := hr (by intro hh; simp [hh] at hlt)
  refine ⟨b.add d, ?_, by rw [add_block]; exact hb, fun j hj => ?_⟩
  · rw [if_neg (by omega)]; simp
  · rw [Addr.add_add, hcell _ (by simp at hj; omega)]
    simp [List.getD]

theorem getD_byte {l : List Int} (h : isByte l) (i : Nat) : 0 ≤ l.getD i 0 ∧ l.getD i 0 ≤ 255 := by
  rcases Nat.lt_or_ge i l.length with hi | hi
  · exact h _ (by simp [List.getD, hi])
  · simp [List.getD, List.getElem?_eq_none hi]
theorem isByte.drop {l : List Int} (h : isByte l) (d : Nat) : isByte (l.drop d) := fun x hx => h x (List.mem_of_mem_drop hx)
theorem isByte.take {l : List Int} (h : isByte l) (d : Nat) : isByte (l.take d) := fun x hx => h x (List.mem_of_mem_take hx)
theorem isByte.set {l : List Int} (h : isByte l) (i : Nat) (x : Int) (hx : 0 ≤ x ∧ x ≤ 255) : isByte (l.set i x) := fun y hy => by
  rcases List.mem_or_eq_of_mem_set hy with h1 | h1
  · exact h y h1
  · rw [h1]; exact hx
theorem isByte.append {l m : List Int} (h : isByte l) (h' : isByte m) : isByte (l ++ m) := fun y hy => by
  rcases List.mem_append.1 hy with h1 | h1
  · exact h y h1
  · exact h' y h1
theorem isByte.replicate (n : Nat) : isByte (List.replicate n 0) := fun y hy => by
  rw [List.eq_of_mem_replicate hy]; omega
theorem isByte.cons {x : Int} {l : List Int} (hx : 0 ≤ x ∧ x ≤ 255) (h : isByte l) : isByte (x :: l) := fun y hy => by
  rcases List.mem_cons.1 hy with h1 | h1
  · rw [h1]; exact hx
  · exact h y h1
theorem isByte.nil : isByte [] := fun y hy => by cases hy
end Go.Proofs.Ytpacfijkhhjfeaa
