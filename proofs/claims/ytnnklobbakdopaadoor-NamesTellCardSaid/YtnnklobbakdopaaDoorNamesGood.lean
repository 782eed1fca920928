/- The contract of names.good. -/
import Derived.Test.YtnnklobbakdopaaDoorNamesLetter
import Derived.Lib.OthersKept
namespace Go.Proofs.YtnnklobbakdopaaDoor
set_option linter.unusedVariables false
set_option linter.unusedSimpArgs false
open Go.RowKit

/-- are all letters, from a place on? -/
def lettersFrom (s : ByteArray) : Nat → Nat → Bool
  | 0, _ => true
  | fuel + 1, pos => if pos < s.size then letterB (Utf8.decode s pos).1 && lettersFrom s fuel (pos + (Utf8.decode s pos).2) else true

def goodB (s : ByteArray) : Bool :=
  !s.data.toList.isEmpty && !(Lib.contains [45, 46] (List.take 1 s.data.toList)) && !(Lib.hasSuffix s.data.toList [46]) && lettersFrom s s.size 0
   && !(Lib.contains s.data.toList [46, 46]) && !(Lib.hasSuffix s.data.toList [46, 108, 111, 99, 107])

theorem lettersFrom_end (s : ByteArray) (fuel pos : Nat) (h : ¬ pos < s.size) : lettersFrom s fuel pos = true := by
  cases fuel with
  | zero => rfl
  | succ f => simp [lettersFrom, h]
theorem lettersFrom_no (s : ByteArray) (f pos : Nat) (h : pos < s.size) (hl : (!letterB (Utf8.decode s pos).1) = true) : lettersFrom s (f + 1) pos = false := by
  simp at hl
  simp [lettersFrom, h, hl]
theorem lettersFrom_yes (s : ByteArray) (f pos : Nat) (h : pos < s.size) (hl : (!letterB (Utf8.decode s pos).1) = false) : lettersFrom s (f + 1) pos = lettersFrom s f (pos + (Utf8.decode s pos).2) := by
  simp at hl
  simp [lettersFrom, h, hl]

theorem width_pos (s : ByteArray) (pos : Nat) (h : pos < s.size) : 1 ≤ (Utf8.decode s pos).2 := by
  by_cases ha : (s[pos]'h).toNat < 128
  · rw [decode_ascii s pos h ha]
    exact Nat.le_refl _
  · exact (decode_high s pos h (by omega)).2

set_option maxHeartbeats 400000 in
theorem good_empty (s : ByteArray) (w : World) (he : s.toList = []) :
    Calls Tryd.prog 19 #[.string s] w fun e w' => e = .returned (.bool false) ∧ w = w' := by
  go_enter Tryd.func19, Tryd.ntmps19
  go_wp2_with fail
  go_ret
  exact ⟨rfl, rfl⟩

set_option maxHeartbeats 400000 in
theorem good_first (s : ByteArray) (w : World) (h1 : 1 ≤ (s.size : Int)) (hs : s.size < 4294967281) (he : s.toList.isEmpty = false) (hc : Lib.contains [45, 46] (List.take 1 s.data.toList) = true) (hS : w.ShapedOpen Tryd.prog) :
    Calls Tryd.prog 19 #[.string s] w fun e w' => e = .returned (.bool false) ∧ w = w' := by
  have HS := Lib.hid hS; clear hS
  go_enter Tryd.func19, Tryd.ntmps19
  go_wp2_with fail
  refine (Tryd.strings_Contains_shaped _ _ _ HS.out (by simp [ByteArray.size])).mono ?_
  rintro e w' ⟨rfl, rfl⟩
  go_wp2_with fail
  go_ret
  exact ⟨rfl, rfl⟩

set_option maxHeartbeats 400000 in
theorem good_last (s : ByteArray) (w : World) (h1 : 1 ≤ (s.size : Int)) (hs : s.size < 4294967281) (he : s.toList.isEmpty = false) (hc : Lib.contains [45, 46] (List.take 1 s.data.toList) = false)
    (hd : Lib.hasSuffix s.data.toList [46] = true) (hS : w.ShapedOpen Tryd.prog) :
    Calls Tryd.prog 19 #[.string s] w fun e w' => e = .returned (.bool false) ∧ w = w' := by
  have HS := Lib.hid hS; clear hS
  go_enter Tryd.func19, Tryd.ntmps19
  go_wp2_with fail
  refine (Tryd.strings_Contains_shaped _ _ _ HS.out (by simp [ByteArray.size])).mono ?_
  rintro e w' ⟨rfl, rfl⟩
  go_wp2_with fail
  refine (Tryd.strings_HasSuffix _ _ _ (by omega)).mono ?_
  rintro e w' ⟨rfl, rfl⟩
  go_wp2_with fail
  go_ret
  exact ⟨rfl, rfl⟩

set_option maxHeartbeats 1000000 in
theorem good_rest (s : ByteArray) (w : World) (h1 : 1 ≤ (s.size : Int)) (hs : s.size < 4294967281) (he : s.toList.isEmpty = false) (hc : Lib.contains [45, 46] (List.take 1 s.data.toList) = false)
    (hd : Lib.hasSuffix s.data.toList [46] = false) (hS : w.ShapedOpen Tryd.prog) :
    Calls Tryd.prog 19 #[.string s] w fun e w' => e = .returned (.bool (lettersFrom s s.size 0 && !(Lib.contains s.data.toList [46, 46]) && !(Lib.hasSuffix s.data.toList [46, 108, 111, 99, 107]))) ∧ Below w.heap.size w w' := by
  have HS := Lib.hid hS; clear hS
  go_enter Tryd.func19, Tryd.ntmps19
  go_wp2_with fail
  refine (Tryd.strings_Contains_shaped _ _ _ HS.out (by simp [ByteArray.size])).mono ?_
  rintro e w' ⟨rfl, rfl⟩
  go_wp2_with fail
  refine (Tryd.strings_HasSuffix _ _ _ (by omega)).mono ?_
  rintro e w' ⟨rfl, rfl⟩
  go_wp2_with fail
  clear he hc hd
  go_loopw [4] (fun c wr => ∃ (pos fuel : Nat), wr.heap[w'.heap.size]? = some (.stringIter s pos) ∧ Below w'.heap.size w' wr ∧ Hid (lettersFrom s fuel pos = lettersFrom s s.size 0) ∧ s.size ≤ pos + fuel) (fun _ wr => s.size - wr.iterPos w'.heap.size)
  case atStart =>
    refine ⟨0, s.size, World.iter_heap w' s 0, (Below.refl _ _).alloc (Nat.le_refl _) _, rfl, by omega⟩
  case round =>
    obtain ⟨pos, fuel, hit, hbw, hacc, hfu⟩ := hrel
    have hsz : w'.heap.size < wr.heap.size := (Array.getElem?_eq_some_iff.1 hit).1
    have HSr := Lib.hid (shaped_below HS.out hbw)
    by_cases hp : pos < s.size
    · have hnx : ∀ ty, (Instr.next (.pointer (some ⟨w'.heap.size, 0, none⟩)) true ty).run Tryd.prog wr = _ := fun ty => Lib.run_next_any_at wr w'.heap.size s pos ty hit hp
      have hwd := width_pos s pos hp
      have hit2 := Lib.iterAt_heap wr w'.heap.size s pos (pos + (Utf8.decode s pos).2) hit
      have hbw2 := Lib.below_iterAt hbw (k := w'.heap.size) (by omega) s (pos + (Utf8.decode s pos).2)
      have hsz2 : w'.heap.size < (wr.iterAt w'.heap.size s (pos + (Utf8.decode s pos).2)).heap.size := by rw [Lib.iterAt_size]; omega
      have HSr2 := Lib.hid (shaped_below HS.out hbw2)
      obtain ⟨f, rfl⟩ : ∃ f, fuel = f + 1 := ⟨fuel - 1, by omega⟩
      go_wp2_with fail
      refine (letter_calls _ _ (by omega) HSr2.out).mono ?_
      rintro e W1 ⟨rfl, hb1⟩
      have hit3 : W1.heap[w'.heap.size]? = some (.stringIter s (pos + (Utf8.decode s pos).2)) := (hb1.block _ hsz2).trans hit2
      have hbw3 : Below w'.heap.size w' W1 := hbw2.trans (hb1.mono (by omega))
      go_wp2_with fail
      · have hl : (!letterB (Utf8.decode s pos).1) = true := by assumption
        go_ret
        refine ⟨?_, hbw3⟩
        rw [← hacc.out, lettersFrom_no s f pos hp hl]
        rfl
      · have hl : (!letterB (Utf8.decode s pos).1) = false := by assumption
        refine ⟨⟨_, f, hit3, hbw3, (lettersFrom_yes s f pos hp hl).symm.trans hacc.out, by omega⟩, ?_⟩
        simp only [World.iterPos, hit3, hit]
        omega
    · have hnx : ∀ ty, (Instr.next (.pointer (some ⟨w'.heap.size, 0, none⟩)) true ty).run Tryd.prog wr = _ := fun ty => Lib.run_next_end_at wr w'.heap.size s pos ty hit hp
      go_wp2_with fail
      have hval := hacc.out.symm.trans (lettersFrom_end s fuel pos hp)
      have HV := Lib.hid hval; clear hval
      refine (Tryd.strings_Contains_shaped _ _ _ HSr.out (by omega)).mono ?_
      rintro e W1 ⟨rfl, rfl⟩
      go_wp2_with fail
      · have hcc : Lib.contains s.data.toList [46, 46] = true := by assumption
        go_ret
        refine ⟨?_, hbw⟩
        rw [hcc]
        simp
      · have hcc : ¬ Lib.contains s.data.toList [46, 46] = true := by assumption
        refine (Tryd.strings_HasSuffix _ _ _ (by omega)).mono ?_
        rintro e W1 ⟨rfl, rfl⟩
        go_wp2_with fail
        go_ret
        refine ⟨?_, hbw⟩
        rw [HV.out, Bool.eq_false_iff.2 hcc]
        rfl

theorem good_calls (s : ByteArray) (w : World) (hs : s.size < 4294967281) (hS : w.ShapedOpen Tryd.prog) :
    Calls Tryd.prog 19 #[.string s] w fun e w' => e = .returned (.bool (goodB s)) ∧ Below w.heap.size w w' := by
  by_cases he : s.toList = []
  · refine (good_empty s w he).mono ?_
    rintro e w' ⟨rfl, rfl⟩
    rw [ByteArray.toList_eq] at he
    exact ⟨by simp [goodB, he], Below.refl _ _⟩
  have he' : s.toList.isEmpty = false := by simpa using he
  rw [ByteArray.toList_eq] at he
  have h1 : 1 ≤ (s.size : Int) := by
    have : s.data.toList.length = s.size := Array.length_toList
    have : 0 < s.data.toList.length := List.length_pos_iff.2 he
    omega
  by_cases hc : Lib.contains [45, 46] (List.take 1 s.data.toList) = true
  · refine (good_first s w h1 hs he' hc hS).mono ?_
    rintro e w' ⟨rfl, rfl⟩
    exact ⟨by simp [goodB, hc], Below.refl _ _⟩
  by_cases hd : Lib.hasSuffix s.data.toList [46] = true
  · refine (good_last s w h1 hs he' (by simpa using hc) hd hS).mono ?_
    rintro e w' ⟨rfl, rfl⟩
    exact ⟨by simp [goodB, hd], Below.refl _ _⟩
  · refine (good_rest s w h1 hs he' (by simpa using hc) (by simpa using hd) hS).mono ?_
    rintro e w' ⟨rfl, hb⟩
    refine ⟨?_, hb⟩
    have he2 : s.data.toList.isEmpty = false := by cases h : s.data.toList with
      | nil => exact absurd h he
      | cons _ _ => rfl
    unfold goodB
    rw [he2, Bool.eq_false_iff.2 hc, Bool.eq_false_iff.2 hd]
    rfl
end Go.Proofs.YtnnklobbakdopaaDoor
