/- slices.Clone of bytes. -/
import Derived.Test.YtpacfijkhhjfeaaChecked
import Derived.WalkLawsBesides
import Derived.Test.YtpacfijkhhjfeaaBytes
import Derived.RegionTactic
import Derived.BigRegion
import Derived.Lib.SliceRun
import Derived.Deep.QuietTactic
import Derived.OwnWalk
import Derived.Maps.AppendAt
namespace Go.Proofs.Ytpacfijkhhjfeaa
set_option linter.unusedVariables false
set_option linter.unusedSimpArgs false
open Go.RowKit

/-- a slice at no address is the nil one -/
def NilOk (v : Value) : Prop := ∀ n c, v = .slice none n c → n = 0 ∧ c = 0

/-- v is a slice of the call's own, in blocks from B on, that holds the bytes l -/
def owns (w : World) (B : Nat) (v : Value) (l : List Int) : Prop := w.ownsRow B 5 1 v l.length (l.map (Value.int .u8))

theorem info_u8 : (Try.prog.info? 5).map (fun i => (i.zero, i.size, i.bytes)) = some (some (.int .u8 0), 1, 1) := by kernel_rfl

theorem owns.form {w : World} {B : Nat} {v : Value} {l : List Int} (h : owns w B v l) :
    (v = .slice none 0 0 ∧ l = []) ∨ ∃ g c, v = .slice (some ⟨g, 0, none⟩) l.length c ∧ B ≤ g ∧ g < w.heap.size ∧ l.length ≤ c := by
  obtain ⟨h1, h2⟩ := h
  rcases h2 with ⟨rfl, h3⟩ | ⟨g, c, cur, rfl, hg, hb, hc, _⟩
  · exact Or.inl ⟨rfl, List.eq_nil_of_length_eq_zero h3⟩
  · exact Or.inr ⟨g, c, rfl, hg, (Array.getElem?_eq_some_iff.1 hb).1, hc⟩

theorem owns.nilOk {w : World} {B : Nat} {v : Value} {l : List Int} (h : owns w B v l) : NilOk v := by
  intro n c he
  rcases h.form with ⟨rfl, rfl⟩ | ⟨g, c', rfl, _⟩
  · cases he; exact ⟨rfl, rfl⟩
  · cases he

theorem owns.row {w : World} {B : Nat} {v : Value} {l : List Int} (h : owns w B v l) : isRow w .u8 v l := by
  rcases h.form with ⟨rfl, rfl⟩ | ⟨g, c, rfl, hg, hlt, hc⟩
  · exact ⟨none, 0, rfl, Nat.le_refl _, fun h => absurd rfl h⟩
  · refine ⟨_, c, rfl, hc, fun _ => ⟨_, rfl, hlt, fun j hj => ?_⟩⟩
    exact World.ownsRow.cells h rfl j _ (by simp [List.getD, hj])

theorem owns.kept {w w' : World} {B : Nat} {v : Value} {l : List Int} {row : Option Nat} (h : owns w B v l) (hg : w.grownBy w' row) (hne : v.ownBlock = none ∨ v.ownBlock ≠ row) : owns w' B v l := World.ownsRow.kept h hg hne

set_option maxHeartbeats 1000000 in
set_option maxRecDepth 100000 in
theorem clone_calls (v : Value) (l : List Int) (w : World) (hv : isRow w .u8 v l) (hnil : NilOk v) (hl : l.length ≤ 2 ^ 46) :
    Calls Try.prog 46 #[v] w fun e w' => ∃ v', e = .returned v' ∧ owns w' w.heap.size v' l ∧ w.grownBy w' none ∧ (v' = .slice none 0 0 ↔ v = .slice none 0 0) := by
  obtain ⟨i0, hi, hz0, hz1, hz2⟩ := info_parts info_u8
  obtain ⟨a, c, rfl, hc, hr⟩ := hv
  have HL := Lib.hid hl
  clear hl
  rcases a with _ | a
  · obtain ⟨h1, h2⟩ := hnil _ _ rfl
    have hl0 := List.eq_nil_of_length_eq_zero h1
    subst hl0 h2
    simp only [List.length_nil]
    have hq : ∀ u : World, (binOp .eql 26 (.slice none 0 0) (.slice none 0 0)).run Try.prog u = .ok (.bool true) u := fun u => Lib.run_eql_slice_nil u _ _ none 0 0 0 0 Try.underlying26
    go_enter Try.func46, Try.ntmps46
    go_wp2_with fail
    go_ret
    exact ⟨_, rfl, World.ownsRow_nil _ _ _ _, World.grownBy.refl _ _, by simp⟩
  · have HR := Lib.hid hr
    clear hr
    have hq : ∀ u : World, (binOp .eql 26 (.slice (some a) l.length c) (.slice none 0 0)).run Try.prog u = .ok (.bool false) u := fun u => Lib.run_eql_slice_nil u _ _ (some a) l.length c 0 0 Try.underlying26
    go_enter Try.func46, Try.ntmps46
    have hsrc : ∀ j u, (l.map (Value.int .u8))[j]? = some u → w.cell? (a.add j) = some u := by
      intro j u hj
      rcases Nat.lt_or_ge j l.length with h | h
      · obtain ⟨b, hb, _, hcell⟩ := HR.out (by intro hh; rw [hh] at h; simp at h)
        cases hb
        rw [hcell j h]
        rw [← hj]
        simp [List.getD, h]
      · rw [List.getElem?_eq_none (by simpa using h)] at hj; cases hj
    have hblk : l ≠ [] → a.block < w.heap.size := fun h => by
      obtain ⟨b, hb, h1, _⟩ := HR.out h
      cases hb
      exact h1
    have HS : Hid (∀ j u, (l.map (Value.int .u8))[j]? = some u → w.cell? (a.add j) = some u) := hsrc
    clear hsrc hblk
    go_wp2_with (at_builtin; refine wpList_append_own_at _ rfl (.tmp 5) (.tmp 6) 26 rfl w.heap.size 5 i0 (.int .u8 0) 1 1 Try.underlying26 hi hz0 hz1 hz2 rfl (by decide) _ 0 [] rfl (World.ownsRow_made w #[] 0 (Nat.le_refl _) (Nat.zero_le _) rfl) a l.length c (l.map (Value.int .u8)) rfl ?c1 ?c2 ?c3 ?c4 ?c5 ?c6 ?_)
    case c1 => simp
    case c2 =>
      intro j u hj
      have h1 := HS.out j u hj
      rw [← h1]
      have hlt : a.block < w.heap.size := by
        have := World.block_lt_of_cell? w _ h1
        rwa [add_block] at this
      exact cell_block (by rw [add_block]; exact Below.heap_alloc w _ _ hlt)
    case c3 => intro u hu; obtain ⟨y, _, rfl⟩ := List.mem_map.1 hu; rfl
    case c4 => have := HL.out; unfold maxLen; omega
    case c5 => have := HL.out; omega
    case c6 => simp
    intro v' w' hown hgrow hnil2 _
    go_wp2_with fail
    go_ret
    refine ⟨_, rfl, hown, ?_, by simpa using hnil2⟩
    have hb := (Below.refl w.heap.size w).alloc (Nat.le_refl _) (.cells #[] 5)
    exact ⟨hgrow.os.trans hb.os, hgrow.tape.trans hb.tape, hgrow.output.trans hb.output, Nat.le_trans hb.size hgrow.size,
      fun k hk _ => (hgrow.block k (Nat.lt_of_lt_of_le hk hb.size) (by simp [Value.ownBlock]; omega)).trans (hb.block k hk)⟩
end Go.Proofs.Ytpacfijkhhjfeaa
