/- The contracts of sha.constants and sha.begin; how a Hash lies in memory. -/
import Derived.Test.YtpacfijkhhjfeaaShaSched
import Derived.Deep.QuietTactic
import Derived.BigQuiet
namespace Go.Proofs.Ytpacfijkhhjfeaa
set_option linter.unusedVariables false
set_option linter.unusedSimpArgs false
open Go.RowKit

set_option maxHeartbeats 1000000 in
set_option maxRecDepth 100000 in
theorem constants_calls (w : World) :
    Calls Try.prog 69 #[] w fun e w' => e = .returned (.agg (kL.map (Value.int .u32)).toArray) ∧ Below w.heap.size w w' := by
  have hk : (kL.map (Value.int .u32)).toArray.size = 64 := rfl
  have h1 : ((kL.map (Value.int .u32)).toArray.all (·.oneCell')) = true := by rw [List.all_toArray, List.all_map]; exact List.all_eq_true.2 fun _ _ => rfl
  go_enter Try.func69, Try.ntmps69
  go_wp2_with (first
    | (refine wpList_build_to rfl 116 _ rfl (kL.map (Value.int .u32)).toArray ?hb ?_)
    | (with_reducible refine wpList_store_row rfl 116 (.tmp 0) (.tmp 1) rfl w.heap.size _ rfl rfl 116 _ (heap_alloc_new w _) ?hi2 ?hi3 ?hi4 ?_))
  case hb => kernel_rfl
  case hi2 => rw [size_w64, hk]
  case hi3 => rfl
  case hi4 => exact h1
  refine bodyPost_ret (results_cell_row (fn := Try.f69) rfl _ _ w.heap.size 116 _ (0, 0) _ rfl (setRow_heap _ _ _ _ _ _ (heap_alloc_new w _)) Try.underlying116 rfl ?_) rfl ⟨rfl, below_setRow ((Below.refl _ _).alloc (Nat.le_refl _) _) (Nat.le_refl _) _⟩
  rw [size_w64, hk]

theorem size_s8 : (Try.prog.info? 131).map (·.size) = some 8 := by kernel_rfl

set_option maxHeartbeats 1000000 in
set_option maxRecDepth 100000 in
theorem begin_calls (w : World) :
    Calls Try.prog 66 #[] w fun e w' => e = .returned (.agg (s0L.map (Value.int .u32)).toArray) ∧ Below w.heap.size w w' := by
  go_enter Try.func66, Try.ntmps66
  go_wp2
  refine bodyPost_ret (results_cell_row (fn := Try.f66) rfl _ _ w.heap.size 131 _ (0, 0) _ rfl (heap_alloc_new w _) Try.underlying131 rfl ?_) rfl ⟨rfl, (Below.refl _ _).alloc (Nat.le_refl _) _⟩
  rw [size_s8]; rfl

/-- the Hash in block g: whether it was made, its state, the bytes that are not yet taken in, how many there were -/
def hashCells (m : Bool) (s r : List Int) (n : Int) : List Value := Value.bool m :: (s.map (Value.int .u32) ++ (r.map (Value.int .u8) ++ [Value.int .u64 n]))
def HashAt (w : World) (g : Nat) (m : Bool) (s r : List Int) (n : Int) : Prop := w.heap[g]? = some (.cells (hashCells m s r n).toArray 135 (0, 0))

theorem HashAt.lt {w : World} {g : Nat} {m : Bool} {s r : List Int} {n : Int} (h : HashAt w g m s r n) : g < w.heap.size := (Array.getElem?_eq_some_iff.1 h).1

theorem HashAt.state {w : World} {g : Nat} {m : Bool} {s r : List Int} {n : Int} (h : HashAt w g m s r n) (hs : s.length = 8) (i : Nat) (hi : i < 8) : w.cell? ⟨g, 1 + i, none⟩ = some (.int .u32 (s.getD i 0)) := by
  rw [cell_of_row w g _ _ _ (0, 0) h]
  simp only [hashCells, List.getElem?_toArray]
  rw [Nat.add_comm, List.getElem?_cons_succ, List.getElem?_append_left (by simp; omega)]
  simp [List.getD, hs, hi]

theorem HashAt.rest {w : World} {g : Nat} {m : Bool} {s r : List Int} {n : Int} (h : HashAt w g m s r n) (hs : s.length = 8) (i : Nat) (hi : i < r.length) : w.cell? ⟨g, 9 + i, none⟩ = some (.int .u8 (r.getD i 0)) := by
  rw [cell_of_row w g _ _ _ (0, 0) h]
  simp only [hashCells, List.getElem?_toArray]
  rw [show 9 + i = (8 + i) + 1 by omega, List.getElem?_cons_succ, List.getElem?_append_right (by simp; omega), List.length_map, hs, show 8 + i - 8 = i by omega, List.getElem?_append_left (by simpa using hi)]
  simp [List.getD, hi]

theorem HashAt.frozen {w : World} {g : Nat} {m : Bool} {s r : List Int} {n : Int} (h : HashAt w g m s r n) (i : Nat) : w.frozen? ⟨g, i, none⟩ = false := frozen_of_row w g i _ _ h

theorem HashAt.setState {w : World} {g : Nat} {m : Bool} {s r : List Int} {n : Int} (h : HashAt w g m s r n) (hs : s.length = 8) (i : Nat) (hi : i < 8) (x : Int) : HashAt (w.setCell ⟨g, 1 + i, none⟩ (.int .u32 x)) g m (s.set i x) r n := by
  unfold HashAt at h ⊢
  rw [heap_setCell_same w g _ _ _ _ h]
  congr 2
  simp only [hashCells, List.setIfInBounds_toArray]
  rw [Nat.add_comm, List.set_cons_succ, List.set_append_left _ _ (by simp; omega), List.map_set]

theorem HashAt.below {w w' : World} {B g : Nat} {m : Bool} {s r : List Int} {n : Int} (h : HashAt w g m s r n) (hb : Below B w w') (hg : g < B) : HashAt w' g m s r n := by
  unfold HashAt at h ⊢
  rw [hb.block g hg]; exact h

end Go.Proofs.Ytpacfijkhhjfeaa
