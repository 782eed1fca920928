/- What a Hash holds behind bytes that were fed to it: plain. -/
import Derived.Test.YtpacfijkhhjfeaaShaTake
import Derived.Test.YtpacfijkhhjfeaaBytes
namespace Go.Proofs.Ytpacfijkhhjfeaa
set_option linter.unusedVariables false
set_option linter.unusedSimpArgs false
open Go.RowKit

/-- state, rest, count -/
structure Fed where
  s : List Int
  r : List Int
  n : Nat

def feed1 (q : Fed) (x : Int) : Fed :=
  let r := q.r.set (q.n % 64) x
  ⟨if (q.n + 1) % 64 = 0 then takeL q.s (fun i => r.getD i 0) else q.s, r, q.n + 1⟩
def feed (q : Fed) (l : List Int) : Fed := l.foldl feed1 q
def fed0 : Fed := ⟨s0L, List.replicate 64 0, 0⟩

def laid (r : List Int) (o : Nat) : List Int → List Int
  | [] => r
  | x :: t => laid (r.set o x) (o + 1) t

theorem feed_nil (q : Fed) : feed q [] = q := rfl
theorem feed_cons (q : Fed) (x : Int) (t : List Int) : feed q (x :: t) = feed (feed1 q x) t := rfl
theorem feed_append (q : Fed) (a b : List Int) : feed q (a ++ b) = feed (feed q a) b := List.foldl_append

theorem laid_length : ∀ (l r : List Int) (o : Nat), (laid r o l).length = r.length
  | [], _, _ => rfl
  | x :: t, r, o => by rw [laid, laid_length t]; simp

theorem feed_n : ∀ (l : List Int) (q : Fed), (feed q l).n = q.n + l.length
  | [], q => rfl
  | x :: t, q => by rw [feed_cons, feed_n t]; simp [feed1]; omega

/-- within a block: the bytes lie there, and at the block's end it is taken in -/
theorem feed_within : ∀ (l : List Int) (q : Fed), q.n % 64 + l.length ≤ 64 → l ≠ [] →
    feed q l = ⟨if (q.n + l.length) % 64 = 0 then takeL q.s (fun i => (laid q.r (q.n % 64) l).getD i 0) else q.s, laid q.r (q.n % 64) l, q.n + l.length⟩
  | [x], q, _, _ => rfl
  | x :: y :: t, q, h, _ => by
    have h1 : q.n % 64 + 1 < 64 := by simp at h; omega
    have h2 : (q.n + 1) % 64 = q.n % 64 + 1 := by omega
    have h3 : ¬ (q.n + 1) % 64 = 0 := by omega
    rw [feed_cons, feed_within (y :: t) (feed1 q x) (by simp [feed1, h2] at h ⊢; omega) (by simp)]
    simp only [feed1, h2, laid, if_neg h3, List.length_cons]
    simp only [Nat.succ_ne_zero, if_false, Nat.add_assoc, Nat.add_comm 1]

structure okFed (q : Fed) : Prop where
  s : okS q.s
  r : q.r.length = 64
  b : isByte q.r

theorem laid_byte : ∀ (l r : List Int) (o : Nat), isByte r → isByte l → isByte (laid r o l)
  | [], _, _, h, _ => h
  | x :: t, r, o, h, h' => laid_byte t _ _ (h.set o x (h' x (by simp))) (fun y hy => h' y (by simp [hy]))

theorem feed1_ok {q : Fed} (h : okFed q) (x : Int) (hx : 0 ≤ x ∧ x ≤ 255) : okFed (feed1 q x) := by
  refine ⟨?_, by simpa [feed1] using h.r, h.b.set _ _ hx⟩
  simp only [feed1]
  split
  · exact takeL_ok _ h.s
  · exact h.s

theorem feed_ok : ∀ (l : List Int) {q : Fed}, okFed q → isByte l → okFed (feed q l)
  | [], q, h, _ => h
  | x :: t, q, h, hl => by
    rw [feed_cons]
    exact feed_ok t (feed1_ok h x (hl x (by simp))) (fun y hy => hl y (by simp [hy]))

theorem fed0_ok : okFed fed0 := ⟨s0L_ok, rfl, isByte.replicate 64⟩

theorem HashAt.setRest {w : World} {g : Nat} {m : Bool} {s r : List Int} {n : Int} (h : HashAt w g m s r n) (hs : s.length = 8) (i : Nat) (hi : i < r.length) (x : Int) : HashAt (w.setCell ⟨g, 9 + i, none⟩ (.int .u8 x)) g m s (r.set i x) n := by
  unfold HashAt at h ⊢
  rw [heap_setCell_same w g _ _ _ _ h]
  congr 2
  simp only [hashCells, List.setIfInBounds_toArray]
  rw [show 9 + i = (8 + i) + 1 by omega, List.set_cons_succ, List.set_append_right _ _ (by simp; omega), List.length_map, hs, show 8 + i - 8 = i by omega, List.set_append_left _ _ (by simpa using hi), List.map_set]

theorem HashAt.laid {g : Nat} {m : Bool} {s : List Int} {n : Int} (hs : s.length = 8) : ∀ (l : List Int) {w : World} {r : List Int} (o : Nat), HashAt w g m s r n → o + l.length ≤ r.length → HashAt (w.setCells g (9 + o) (l.map (Value.int .u8))) g m s (laid r o l) n
  | [], _, _, _, h, _ => h
  | x :: t, w, r, o, h, ho => by
    rw [List.map_cons, World.setCells, Go.Proofs.Ytpacfijkhhjfeaa.laid, Nat.add_assoc]
    exact HashAt.laid hs t (o + 1) (h.setRest hs o (by simp at ho; omega) x) (by simp at ho ⊢; omega)

theorem HashAt.count {w : World} {g : Nat} {m : Bool} {s r : List Int} {n : Int} (h : HashAt w g m s r n) (hs : s.length = 8) (hr : r.length = 64) : w.cell? ⟨g, 73, none⟩ = some (.int .u64 n) := by
  rw [cell_of_row w g _ _ _ (0, 0) h]
  simp only [hashCells, List.getElem?_toArray]
  rw [List.getElem?_cons_succ, List.getElem?_append_right (by simp; omega), List.getElem?_append_right (by simp; omega)]
  simp [hs, hr]

theorem HashAt.setCount {w : World} {g : Nat} {m : Bool} {s r : List Int} {n : Int} (h : HashAt w g m s r n) (hs : s.length = 8) (hr : r.length = 64) (x : Int) : HashAt (w.setCell ⟨g, 73, none⟩ (.int .u64 x)) g m s r x := by
  unfold HashAt at h ⊢
  rw [heap_setCell_same w g _ _ _ _ h]
  congr 2
  simp only [hashCells, List.setIfInBounds_toArray]
  rw [List.set_cons_succ, List.set_append_right _ _ (by simp; omega), List.set_append_right _ _ (by simp; omega)]
  simp [hs, hr]

theorem HashAt.madeIs {w : World} {g : Nat} {m : Bool} {s r : List Int} {n : Int} (h : HashAt w g m s r n) : w.cell? ⟨g, 0, none⟩ = some (.bool m) := by
  rw [cell_of_row w g _ _ _ (0, 0) h]
  rfl

theorem begin_row : (Value.agg (s0L.map (Value.int .u32)).toArray) = .agg (s0L.map (Value.int .u32)).toArray := rfl

set_option maxHeartbeats 1000000 in
set_option maxRecDepth 100000 in
theorem new_calls (w : World) :
    Calls Try.prog 61 #[] w fun e w' => ∃ g, e = .returned (.pointer (some ⟨g, 0, none⟩)) ∧ w.heap.size ≤ g ∧ HashAt w' g true s0L (List.replicate 64 0) 0 ∧ Below w.heap.size w w' := by
  go_enter Try.func61, Try.ntmps61
  go_wp2_with fail
  refine (begin_calls w).mono ?_
  rintro e w1 ⟨rfl, hb1⟩
  go_wp2_with (refine wpList_build_to rfl 135 _ rfl (hashCells true s0L (List.replicate 64 0) 0).toArray ?hb ?_)
  case hb => kernel_rfl
  go_ret
  exact ⟨w1.heap.size, rfl, hb1.size, heap_alloc_new w1 _, hb1.alloc hb1.size _⟩
end Go.Proofs.Ytpacfijkhhjfeaa
