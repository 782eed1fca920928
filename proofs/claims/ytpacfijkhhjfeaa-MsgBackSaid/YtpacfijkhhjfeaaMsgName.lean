/- msg.name. -/
import Derived.Test.YtpacfijkhhjfeaaReadRaw
import Derived.Test.YtpacfijkhhjfeaaMsgHead
import Derived.Deep.RegionHeld3
import Derived.Laws.CopyOwn
namespace Go.Proofs.Ytpacfijkhhjfeaa
set_option linter.unusedVariables false
set_option linter.unusedSimpArgs false
open Go.RowKit
variable {lo : Nat}

/-- a name, as it is read: its bytes, or none *)-/
def nameOf (l : List Int) (e : Int) : List Int := if e = 0 ∧ 16 ≤ l.length then l.take 16 else List.replicate 16 0

theorem got16 (l : List Int) (e : Int) : ((gotL 16 l e).length = 16 ∧ nameOf l e = gotL 16 l e) ∨ (gotL 16 l e = [] ∧ nameOf l e = List.replicate 16 0) := by
  unfold gotL nameOf
  by_cases h : e = 0 ∧ 16 ≤ l.length
  · left
    rw [if_pos h, if_pos ⟨by decide, h.1, by omega⟩]
    exact ⟨by simp; omega, rfl⟩
  · right
    rw [if_neg h, if_neg (by omega)]
    exact ⟨rfl, rfl⟩

theorem nameOf_length (l : List Int) (e : Int) : (nameOf l e).length = 16 := by
  rcases got16 l e with ⟨h1, h2⟩ | ⟨_, h2⟩ <;> rw [h2]
  · exact h1
  · rfl

theorem nameOf_byte {l : List Int} {e : Int} (h : isByte l) : isByte (nameOf l e) := by
  unfold nameOf
  split
  · exact h.take _
  · exact isByte.replicate _

theorem nameOf_splice (l : List Int) (e : Int) : splice ((List.replicate 16 0).map (Value.int .u8)) 0 ((gotL 16 l e).map (Value.int .u8)) = (nameOf l e).map (Value.int .u8) := by
  rcases got16 l e with ⟨h1, h2⟩ | ⟨h1, h2⟩
  · rw [h2]
    unfold splice
    rw [List.length_map, h1]
    simp
  · rw [h1, h2]
    rfl

theorem grown_of_below {w w' : World} (h : Below w.heap.size w w') (r : Option Nat) : w.grownBy w' r := ⟨h.os, h.tape, h.output, h.size, fun k hk _ => h.block k hk⟩

theorem rangeAt_of_list {w : World} {b : Nat} {cs : List Value} {t : TypeId} {fr : Nat × Nat} (hb : w.heap[b]? = some (.cells cs.toArray t fr)) : w.rangeAt b 0 cs := fun j v hj => by
  rw [cell_of_row _ _ _ _ _ _ hb]
  simpa using hj

theorem two_lt (w : World) (A B : Obj) : w.heap.size < ((w.alloc A).alloc B).drew.heap.size ∧ w.heap.size + 1 < ((w.alloc A).alloc B).drew.heap.size := by
  show w.heap.size < ((w.alloc A).alloc B).heap.size ∧ w.heap.size + 1 < ((w.alloc A).alloc B).heap.size
  simp only [World.size_alloc]
  omega

theorem two_new (w : World) (A B : Obj) : ((w.alloc A).alloc B).heap[w.heap.size]? = some A ∧ ((w.alloc A).alloc B).heap[w.heap.size + 1]? = some B :=
  ⟨by rw [Below.heap_alloc _ _ _ (by simp)]; exact heap_alloc_new w _, heap_alloc2_new w A B⟩

set_option maxHeartbeats 1000000 in
set_option maxRecDepth 100000 in
theorem name_calls (g : Nat) (l : List Int) (e : Int) (w : World) (h : RdAt lo w g l e) (hl : l.length ≤ 2 ^ 46) :
    Calls Try.prog 42 #[.pointer (some ⟨g, 0, none⟩)] w fun x w' => x = .returned (.agg ((nameOf l e).map (Value.int .u8)).toArray) ∧ RdAt lo w' g (restL 16 l e) (wrongL 16 l e) ∧ w.grownBy w' (some g) := by
  have H := Lib.hid h
  have HL := Lib.hid hl
  have hg := h.lt
  clear h hl
  have hsl := fun u : World => run_slice_arr_all (P := Try.prog) u 24 5 16 Try.underlying24 Try.sizeOf5 (w.heap.size + 1) 0
  have HT := Lib.hid (two_new w (.cells ((List.replicate 16 0).map (Value.int .u8)).toArray 24) (.cells ((List.replicate 16 0).map (Value.int .u8)).toArray 24))
  go_enter Try.func42, Try.ntmps42
  go_wp2_with fail
  go_region_law (first
      | (go_simp; go_at_call 51; (apply Calls.mono (raw_calls g l e 16 _ (H.out.kept ((below2 w _ _).mono hg)) HL.out); (rintro x w1 ⟨v1, rfl, ho1, hr1, hg1⟩); (obtain ⟨a1, c1, rfl, hc1, hrw1⟩ := ho1.row); have hx0 := (hg1.block w.heap.size (two_lt w _ _).1 (by simp; omega)).trans HT.out.1; have hx1 := (hg1.block (w.heap.size + 1) (two_lt w _ _).2 (by simp; omega)).trans HT.out.2))
      | (have tok := ho1; (apply step_copy_splice rfl (.tmp 4) (.tmp 6) 26 26 (off := 0) (elem := 5) (t := 24) (cur := (List.replicate 16 0).map (Value.int .u8)) (cs := (gotL 16 l e).map (Value.int .u8)) (B := w.heap.size + 1) (w0 := w1) (g := w.heap.size + 1); (case ho => exact rfl); (case hu => exact Try.underlying26); (case hsz => kernel_rfl); (case hd => exact rfl); (case hs => exact rfl); (case hg => exact hx1); (case hn => rw [List.length_map]; rcases got16 l e with ⟨h1, _⟩ | ⟨h1, _⟩ <;> rw [h1] <;> rfl); (case hpos => intro hp; rw [List.length_map] at hp; obtain ⟨b1, rfl, _, hc1⟩ := hrw1 (by intro h0; rw [h0] at hp; simp at hp); exact ⟨rfl, b1, rfl, fun j v hj => by (rcases Nat.lt_or_ge j (gotL 16 l e).length with hlt | hge; (rw [hc1 j hlt, ← hj]; simp [List.getD, hlt]); (rw [List.getElem?_eq_none (by simpa using hge)] at hj; cases hj))⟩); (case hfit => rw [List.length_map, List.length_map]; rcases got16 l e with ⟨h1, _⟩ | ⟨h1, _⟩ <;> rw [h1] <;> decide); (case h1 => intro v hv; obtain ⟨y, _, rfl⟩ := List.mem_map.1 hv; rfl); (case hb => exact Below.refl _ _); (case hBg => exact Nat.le_refl _); intro w2 hx2 hb2)))
  have hx2' := hx2.out
  rw [nameOf_splice] at hx2'
  have hx3 := (hb2.block w.heap.size (Nat.lt_succ_self _)).trans hx0
  have hg2 : w.grownBy w2 (some g) := grown_below (grown_grown (grown_of_below ((below2 w _ _)) (some g)) hg1) (hb2.mono (Nat.le_refl _)) (Nat.le_succ _)
  have hr2 : RdAt lo w2 g (restL 16 l e) (wrongL 16 l e) := hr1.kept (hb2.mono (by omega))
  obtain ⟨nm, hnm⟩ : ∃ nm, nm = (nameOf l e).map (Value.int .u8) := ⟨_, rfl⟩
  rw [← hnm] at hx2'
  have HNM := Lib.hid hnm
  have hnl : nm.length = 16 := by rw [hnm, List.length_map, nameOf_length]
  have hall : (nm.toArray.all fun x => x.oneCell') = true := by rw [hnm, List.all_toArray, List.all_map]; exact List.all_eq_true.2 fun _ _ => rfl
  have HX2 := Lib.hid hx2'
  have HX3 := Lib.hid hx3
  have HG2 := Lib.hid hg2
  have HR2 := Lib.hid hr2
  have HNL := Lib.hid hnl
  have HALL := Lib.hid hall
  have hs2 : w.heap.size + 1 ≤ w2.heap.size := (Array.getElem?_eq_some_iff.1 hx2').1 |> Nat.le_of_lt
  clear hx2' hx3 hg2 hr2 hnl hall hx2 hb2 hx0 hx1 hg1 hr1 ho1 hnm hrw1 hc1
  go_wp2_with (first
    | (with_reducible refine wpList_load_mid rfl 24 (.tmp 3) rfl (w.heap.size + 1) 0 rfl nm _ (rangeAt_of_list HX2.out) Try.underlying24 rfl ?c2 ?_)
    | (with_reducible refine wpList_store_row rfl 24 (.tmp 2) (.tmp 8) rfl w.heap.size _ rfl rfl 24 _ HX3.out ?a1 ?a2 ?a3 ?_))
  case c2 => rw [HNL.out]; exact size_name
  case a1 => rw [List.size_toArray, HNL.out]; exact size_name
  case a2 => exact HNL.out.symm
  case a3 => exact HALL.out
  refine bodyPost_ret (results_cell_row (fn := Try.f42) rfl _ _ w.heap.size 24 _ (0, 0) _ rfl (setRow_heap _ _ _ _ _ _ HX3.out) Try.underlying24 rfl ?_) rfl ⟨by rw [← HNM.out], HR2.out.kept (below_setRow (Below.refl _ _) hg _), grown_below HG2.out (below_setRow (Below.refl _ _) (Nat.le_refl w.heap.size) _) (Nat.le_refl _)⟩
  rw [List.size_toArray, HNL.out]; exact size_name
end Go.Proofs.Ytpacfijkhhjfeaa
