/- (*Reader).take. -/
import Derived.Test.YtpacfijkhhjfeaaReader
namespace Go.Proofs.Ytpacfijkhhjfeaa
set_option linter.unusedVariables false
set_option linter.unusedSimpArgs false
open Go.RowKit
variable {lo : Nat}

/-- what n bytes taken out of l are, what is left, and what is wrong then -/
def gotL (n : Int) (l : List Int) (e : Int) : List Int := if 1 ≤ n ∧ e = 0 ∧ n ≤ l.length then l.take n.toNat else []
def restL (n : Int) (l : List Int) (e : Int) : List Int := if n < 1 ∨ e ≠ 0 then l else if n ≤ l.length then l.drop n.toNat else []
def wrongL (n : Int) (l : List Int) (e : Int) : Int := if n < 1 ∨ e ≠ 0 then e else if n ≤ l.length then 0 else 10

/-- behind a take -/
def Took (lo : Nat) (w : World) (g : Nat) (n : Int) (l : List Int) (e : Int) (x : Ending) (w' : World) : Prop :=
  ∃ out b, x = .returned (.tuple #[out, .bool b]) ∧ isRow w' .u8 out (gotL n l e) ∧ NilOk out ∧ (∀ a m c, out = .slice (some a) m c → a.block < g) ∧ RdAt lo w' g (restL n l e) (wrongL n l e) ∧ w.grownBy w' (some g) ∧ w'.heap.size = w.heap.size

theorem took_none {w : World} {g : Nat} {n : Int} {l : List Int} {e : Int} (h : n < 1 ∨ e ≠ 0) (hr : RdAt lo w g l e) : Took lo w g n l e (.returned (.tuple #[.slice none 0 0, .bool false])) w := by
  refine ⟨_, _, rfl, ?_, nil_nilOk, (fun a n c h => by cases h), ?_, World.grownBy.refl _ _, rfl⟩
  · unfold gotL; rw [if_neg (by omega)]; exact nil_isRow w
  · unfold restL wrongL; rw [if_pos h, if_pos h]; exact hr

theorem took_some {w : World} {g : Nat} {n : Nat} {l : List Int} {b : Addr} {c : Nat} (i1 : (1 : Int) ≤ n) (i2 : (n : Int) ≤ l.length) (h1 : w.heap[g]? = some (.cells #[.slice (some b) l.length c, errV 0] 95 (0, 0))) (hc : l.length ≤ c) (hb : b.block < w.heap.size)
    (hcell : ∀ j, j < l.length → w.cell? (b.add j) = some (.int .u8 (l.getD j 0))) (h4 : ∀ a m k, Value.slice (some b) l.length c = .slice (some a) m k → lo ≤ a.block ∧ a.block < g) {b' : Addr} {c' : Nat} (hb' : c = n ∧ b' = b ∨ b' = b.add n ∧ c' = c - n) :
    Took lo w g n l 0 (.returned (.tuple #[.slice (some b) n n, .bool true])) (w.setCell ⟨g, 0, none⟩ (.slice (some b') (l.length - n) c')) := by
  have hlt : b.block < g := (h4 _ _ _ rfl).2
  have hge : lo ≤ b.block := (h4 _ _ _ rfl).1
  have hn : n ≤ l.length := by omega
  have hcell' : ∀ (v : Value) (j : Nat), j < l.length → (w.setCell ⟨g, 0, none⟩ v).cell? (b.add j) = some (.int .u8 (l.getD j 0)) := fun v j hj => by
    rw [cell_block (w := w) (Below.heap_setCell _ _ _ _ (by rw [add_block]; show b.block ≠ g; omega))]
    exact hcell j hj
  have hlen : (l.take n).length = n := by rw [List.length_take]; exact Nat.min_eq_left hn
  refine ⟨_, _, rfl, ?_, nilOk_some _ _ _, (fun a m k h => by cases h; exact hlt), ?_, grown_setCell (World.grownBy.refl w (some g)) 0 _, by simp⟩
  · unfold gotL
    rw [if_pos ⟨i1, rfl, i2⟩, Int.toNat_natCast]
    refine ⟨_, n, by rw [hlen], by rw [hlen]; exact Nat.le_refl _, fun _ => ⟨_, rfl, by simpa using hb, fun j hj => ?_⟩⟩
    rw [hlen] at hj
    rw [hcell' _ j (by omega)]
    simp [List.getD, List.getElem?_take_of_lt hj]
  · unfold restL wrongL
    have hc0 : ¬ ((n : Int) < 1 ∨ (0 : Int) ≠ 0) := by omega
    simp only [if_neg hc0, if_pos i2, Int.toNat_natCast]
    refine ⟨.slice (some b') (l.length - n) c', ?_, ?_, nilOk_some _ _ _, ?_⟩
    · rw [heap_setCell_same w g 0 _ _ _ h1]; rfl
    · refine ⟨_, c', by rw [List.length_drop], ?_, fun hne => ⟨_, rfl, ?_, fun j hj => ?_⟩⟩
      · rw [List.length_drop]; rcases hb' with ⟨h, _⟩ | ⟨_, h⟩ <;> omega
      · rcases hb' with ⟨_, h⟩ | ⟨h, _⟩ <;> rw [h] <;> simpa [add_block] using hb
      · rw [List.length_drop] at hj
        rcases hb' with ⟨h, _⟩ | ⟨h, _⟩
        · omega
        · rw [h, Addr.add_add, hcell' _ _ (by omega)]
          simp [List.getD]
    · intro a m k h
      cases h
      rcases hb' with ⟨_, rfl⟩ | ⟨rfl, _⟩
      · exact ⟨hge, hlt⟩
      · rw [add_block]; exact ⟨hge, hlt⟩

set_option maxHeartbeats 1000000 in
set_option maxRecDepth 100000 in
theorem take_few (g : Nat) (l : List Int) (e n : Int) (w : World) (h : Hid (RdAt lo w g l e)) (hn : n < 1) :
    Calls Try.prog 50 #[.pointer (some ⟨g, 0, none⟩), .int .i64 n] w (Took lo w g n l e) := by
  go_enter Try.func50, Try.ntmps50
  go_wp2_with fail
  go_ret2
  exact took_none (.inl hn) h.out

set_option maxHeartbeats 1000000 in
set_option maxRecDepth 100000 in
theorem take_wrong (g : Nat) (l : List Int) (e n : Int) (w : World) (h : Hid (RdAt lo w g l e)) (hn : 1 ≤ n) (he : Hid (e ≠ 0)) :
    Calls Try.prog 50 #[.pointer (some ⟨g, 0, none⟩), .int .i64 n] w (Took lo w g n l e) := by
  go_enter Try.func50, Try.ntmps50
  go_wp2_with fail
  refine (fine_calls g l e w h.out).mono ?_
  rintro x w1 ⟨rfl, rfl⟩
  rw [decide_eq_false he.out]
  go_wp2_with fail
  go_ret2
  exact took_none (.inr he.out) h.out

set_option maxHeartbeats 1000000 in
set_option maxRecDepth 100000 in
theorem take_short (g : Nat) (l : List Int) (n : Int) (w : World) (h : Hid (RdAt lo w g l 0)) (hn : 1 ≤ n) (hl : (l.length : Int) < n) :
    Calls Try.prog 50 #[.pointer (some ⟨g, 0, none⟩), .int .i64 n] w (Took lo w g n l 0) := by
  go_enter Try.func50, Try.ntmps50
  go_wp2_with fail
  refine (fine_calls g l 0 w h.out).mono ?_
  rintro x w1 ⟨rfl, rfl⟩
  rw [decide_eq_true rfl]
  go_wp2_with fail
  refine (left_calls g l 0 w h.out).mono ?_
  rintro x w1 ⟨rfl, rfl⟩
  go_wp2_with fail
  refine (fail_calls g l 0 10 (by decide) w h.out).mono ?_
  rintro x w1 ⟨rfl, hr, hg, hs⟩
  have HR := Lib.hid hr
  have HG := Lib.hid hg
  have HS := Lib.hid hs
  clear hr hg hs
  go_wp2_with fail
  go_ret2
  refine ⟨_, _, rfl, ?_, nil_nilOk, (fun a m c h => by cases h), ?_, HG.out, HS.out⟩
  · unfold gotL; rw [if_neg (by omega)]; exact nil_isRow w1
  · unfold restL wrongL; rw [if_neg (by omega), if_neg (by omega), if_neg (by omega), if_neg (by omega)]; exact HR.out

set_option maxHeartbeats 1000000 in
set_option maxRecDepth 100000 in
theorem take_ok (g : Nat) (l : List Int) (n : Nat) (w : World) (h : Hid (RdAt lo w g l 0)) (hn : 1 ≤ n) (hl : n ≤ l.length) (hl2 : l.length ≤ 2 ^ 46) :
    Calls Try.prog 50 #[.pointer (some ⟨g, 0, none⟩), .int .i64 n] w (Took lo w g n l 0) := by
  have i1 : (1 : Int) ≤ n := by omega
  have i2 : (n : Int) ≤ l.length := by omega
  obtain ⟨v, h1, ⟨a, c, rfl, hc, hr⟩, -, h4⟩ := h.out
  have hc0 := cell_of_row _ _ 0 _ _ _ h1
  have hf0 := frozen_of_row _ _ 0 _ _ h1
  obtain ⟨b, rfl, hb, hcell⟩ := hr (by intro h; rw [h] at hl; simp at hl; omega)
  have H1 := Lib.hid h1
  have HC := Lib.hid hcell
  have H4 := Lib.hid h4
  clear h1 hcell hr h4
  go_enter Try.func50, Try.ntmps50
  go_wp2_with fail
  refine (fine_calls g l 0 w h.out).mono ?_
  rintro x w1 ⟨rfl, rfl⟩
  rw [decide_eq_true rfl]
  go_wp2_with fail
  refine (left_calls g l 0 w h.out).mono ?_
  rintro x w1 ⟨rfl, rfl⟩
  go_wp2_with fail
  all_goals go_ret2
  all_goals exact took_some i1 i2 H1.out hc hb HC.out H4.out (by first | exact Or.inl ⟨‹_›, rfl⟩ | exact Or.inr ⟨rfl, rfl⟩)

/-- (*Reader).take, whatever is asked of it -/
theorem rtake_calls (g : Nat) (l : List Int) (e n : Int) (w : World) (h : RdAt lo w g l e) (hl : l.length ≤ 2 ^ 46) :
    Calls Try.prog 50 #[.pointer (some ⟨g, 0, none⟩), .int .i64 n] w (Took lo w g n l e) := by
  by_cases hn : n < 1
  · exact take_few g l e n w h hn
  · by_cases he : e = 0
    · subst he
      by_cases hs : (l.length : Int) < n
      · exact take_short g l n w h (by omega) hs
      · obtain ⟨m, rfl⟩ := Int.eq_ofNat_of_zero_le (show 0 ≤ n by omega)
        exact take_ok g l m w h (by omega) (by omega) hl
    · exact take_wrong g l e n w h (by omega) he
end Go.Proofs.Ytpacfijkhhjfeaa
