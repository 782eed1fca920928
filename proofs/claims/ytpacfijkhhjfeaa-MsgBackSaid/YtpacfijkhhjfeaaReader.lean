/- wire.Reader: how one lies; its small methods. -/
import Derived.Test.YtpacfijkhhjfeaaNames16
import Derived.WideLaws
import Derived.LaidEql
import Derived.BigQuiet
import Derived.Deep.QuietTactic
namespace Go.Proofs.Ytpacfijkhhjfeaa
set_option linter.unusedVariables false
set_option linter.unusedSimpArgs false
open Go.RowKit
variable {lo : Nat}

/-- what is wrong: 0 nothing, else an error's number -/
def errV (e : Int) : Value := if e = 0 then .nilIface else .iface 31 (.int .i64 e)
theorem errV_zero : errV 0 = .nilIface := rfl
theorem errV_some {e : Int} (h : e ≠ 0) : errV e = .iface 31 (.int .i64 e) := if_neg h

/-- a Reader lies in block g: what is left of its bytes, and what is wrong -/
def RdAt (lo : Nat) (w : World) (g : Nat) (l : List Int) (e : Int) : Prop :=
  ∃ v, w.heap[g]? = some (.cells #[v, errV e] 95 (0, 0)) ∧ isRow w .u8 v l ∧ NilOk v ∧ ∀ a n c, v = .slice (some a) n c → lo ≤ a.block ∧ a.block < g

theorem RdAt.lt {w : World} {g : Nat} {l : List Int} {e : Int} (h : RdAt lo w g l e) : g < w.heap.size := by
  obtain ⟨v, h, -⟩ := h
  exact (Array.getElem?_eq_some_iff.1 h).1

theorem RdAt.kept {w w' : World} {g : Nat} {l : List Int} {e : Int} (h : RdAt lo w g l e) (hb : Below (g + 1) w w') : RdAt lo w' g l e := by
  obtain ⟨v, h1, h2, h3, h4⟩ := h
  exact ⟨v, (hb.block g (Nat.lt_succ_self g)).trans h1, h2.kept hb.size fun b _ a n c hv hab => hb.block b (by have := (h4 a n c hv).2; omega), h3, h4⟩

theorem owns.slice {w : World} {B : Nat} {v : Value} {l : List Int} (h : owns w B v l) : ∃ a n c, v = .slice a n c := by
  rcases h.form with ⟨rfl, _⟩ | ⟨g, c', rfl, _⟩
  · exact ⟨_, _, _, rfl⟩
  · exact ⟨_, _, _, rfl⟩

theorem nil_isRow (w : World) : isRow w .u8 (.slice none 0 0) [] := ⟨none, 0, rfl, Nat.le_refl _, fun h => absurd rfl h⟩
theorem nil_nilOk : NilOk (.slice none 0 0) := fun n c h => by cases h; exact ⟨rfl, rfl⟩

set_option maxHeartbeats 1000000 in
set_option maxRecDepth 100000 in
theorem reader_new_calls (v : Value) (l : List Int) (w : World) (hv : isRow w .u8 v l) (hnil : NilOk v) (hl : l.length ≤ 2 ^ 46) :
    Calls Try.prog 40 #[v] w fun e w' => ∃ g, e = .returned (.pointer (some ⟨g, 0, none⟩)) ∧ w.heap.size ≤ g ∧ RdAt w.heap.size w' g l 0 ∧ Below w.heap.size w w' := by
  have HV := Lib.hid hv
  have HI := Lib.hid hnil
  have HL := Lib.hid hl
  clear hv hnil hl
  go_enter Try.func40, Try.ntmps40
  go_wp2_with fail
  refine (clone_calls v l w HV.out HI.out HL.out).mono ?_
  rintro e w1 ⟨v1, rfl, ho1, hg1, -⟩
  have HO := Lib.hid ho1
  have HB := Lib.hid (below_of_grown hg1)
  have hs := hg1.size
  clear ho1 hg1
  obtain ⟨a1, n1, c1, rfl⟩ := HO.out.slice
  go_wp2_with fail
  go_ret
  refine ⟨w1.heap.size, rfl, hs, ⟨_, heap_alloc_new w1 _, ?_, HO.out.nilOk, ?_⟩, HB.out.alloc hs _⟩
  · exact HO.out.row.kept (by simp) fun b hb _ _ _ _ _ => Below.heap_alloc w1 _ _ hb
  · intro a n c hv
    cases hv
    rcases HO.out.form with ⟨h, _⟩ | ⟨g, c', h, hge, hlt, _⟩
    · cases h
    · cases h; exact ⟨hge, hlt⟩

set_option maxHeartbeats 1000000 in
set_option maxRecDepth 100000 in
theorem fine_calls (g : Nat) (l : List Int) (e : Int) (w : World) (h : RdAt lo w g l e) :
    Calls Try.prog 52 #[.pointer (some ⟨g, 0, none⟩)] w fun x w' => x = .returned (.bool (decide (e = 0))) ∧ w = w' := by
  obtain ⟨v, h1, -⟩ := h
  have hc1 := cell_of_row _ _ 1 _ _ _ h1
  clear h1
  by_cases he : e = 0
  · subst he
    have hc : w.cell? ⟨g, 1, none⟩ = some .nilIface := hc1
    clear hc1
    go_enter Try.func52, Try.ntmps52
    go_wp2_with fail
    go_ret
    exact ⟨rfl, rfl⟩
  · have hc : w.cell? ⟨g, 1, none⟩ = some (.iface 31 (.int .i64 e)) := by rw [← errV_some he]; exact hc1
    clear hc1
    go_enter Try.func52, Try.ntmps52
    go_wp2_with fail
    go_ret
    exact ⟨by rw [decide_eq_false he]; rfl, rfl⟩

set_option maxHeartbeats 1000000 in
set_option maxRecDepth 100000 in
theorem left_calls (g : Nat) (l : List Int) (e : Int) (w : World) (h : RdAt lo w g l e) :
    Calls Try.prog 58 #[.pointer (some ⟨g, 0, none⟩)] w fun x w' => x = .returned (.int .i64 l.length) ∧ w = w' := by
  obtain ⟨v, h1, ⟨a, c, rfl, -⟩, -⟩ := h
  have hc := cell_of_row _ _ 0 _ _ _ h1
  clear h1
  go_enter Try.func58, Try.ntmps58
  go_wp2_with fail
  go_ret
  exact ⟨rfl, rfl⟩

theorem two_cells {w : World} {g : Nat} {v : Value} {e bad : Int} (h : w.heap[g]? = some (.cells #[v, errV e] 95 (0, 0))) (hbad : bad ≠ 0) :
    RdAt lo ((w.setCell ⟨g, 0, none⟩ (.slice none 0 0)).setCell ⟨g, 1, none⟩ (.iface 31 (.int .i64 bad))) g [] bad := by
  refine ⟨.slice none 0 0, ?_, nil_isRow _, nil_nilOk, fun a n c h => by cases h⟩
  rw [heap_setCell_same _ g 1 _ _ _ (heap_setCell_same w g 0 _ _ _ h), errV_some hbad]
  rfl

theorem grown_setCell {w w' : World} {g : Nat} (h : w.grownBy w' (some g)) (i : Nat) (v : Value) : w.grownBy (w'.setCell ⟨g, i, none⟩ v) (some g) :=
  ⟨h.os, h.tape, h.output, by simpa using h.size, fun k hk hne => (Below.heap_setCell w' ⟨g, i, none⟩ v k (fun he => hne (by rw [he]))).trans (h.block k hk hne)⟩

theorem two_grown (w : World) (g : Nat) (x y : Value) : w.grownBy ((w.setCell ⟨g, 0, none⟩ x).setCell ⟨g, 1, none⟩ y) (some g) := grown_setCell (grown_setCell (World.grownBy.refl w (some g)) 0 x) 1 y

set_option maxHeartbeats 1000000 in
set_option maxRecDepth 100000 in
theorem fail_calls (g : Nat) (l : List Int) (e bad : Int) (hbad : bad ≠ 0) (w : World) (h : RdAt lo w g l e) :
    Calls Try.prog 54 #[.pointer (some ⟨g, 0, none⟩), .int .i64 bad] w fun x w' => x = .returned (.tuple #[]) ∧ RdAt lo w' g [] bad ∧ w.grownBy w' (some g) ∧ w'.heap.size = w.heap.size := by
  obtain ⟨v, h1, -⟩ := h
  have hc0 := cell_of_row _ _ 0 _ _ _ h1
  have hc1 := cell_of_row _ _ 1 _ _ _ h1
  have hf0 := frozen_of_row _ _ 0 _ _ h1
  have hf1 := frozen_of_row _ _ 1 _ _ h1
  have H1 := Lib.hid h1
  clear h1
  go_enter Try.func54, Try.ntmps54
  go_wp2_with fail
  go_end0
  exact ⟨rfl, two_cells H1.out hbad, two_grown w g _ _, by simp⟩
end Go.Proofs.Ytpacfijkhhjfeaa
