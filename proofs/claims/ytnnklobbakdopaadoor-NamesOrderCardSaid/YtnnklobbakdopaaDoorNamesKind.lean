/- The contracts of names.Kind, names.Path and names.Less. -/
import Derived.Test.YtnnklobbakdopaaDoorNamesPart
namespace Go.Proofs.YtnnklobbakdopaaDoor
set_option linter.unusedVariables false
set_option linter.unusedSimpArgs false
open Go.RowKit

def headsL : List UInt8 := [104, 101, 97, 100, 115, 47]
def tagsL : List UInt8 := [116, 97, 103, 115, 47]

def kindV (s : ByteArray) : Int :=
  if 64 < s.size then 0 else if (slashB s).all goodB = false then 0 else if Lib.hasPrefix s.data.toList [104, 101, 97, 100, 115, 47] = true then 1 else if Lib.hasPrefix s.data.toList [116, 97, 103, 115, 47] = true then 2 else 0

theorem ret_int {a b : Int} (h : a = b) : Ending.returned (.int .i64 a) = .returned (.int .i64 b) := by rw [h]

theorem good_hid : Hid (∀ (p : ByteArray) (u : World), p.size < 4294967281 → u.ShapedOpen Tryd.prog → Calls Tryd.prog 19 #[.string p] u fun e u' => e = .returned (.bool (goodB p)) ∧ Below u.heap.size u u') :=
  fun p u h1 h2 => good_calls p u h1 h2
theorem part_hid : Hid (∀ (p : ByteArray) (u : World), p.size < 4294967281 → u.ShapedOpen Tryd.prog → Calls Tryd.prog 11 #[.string p] u fun e u' => e = .returned (.bool (partB p)) ∧ Below u.heap.size u u') :=
  fun p u h1 h2 => (part_calls p u h1 h2).mono fun e u' ⟨h, hu⟩ => ⟨h, by rw [← hu]; exact Below.refl _ _⟩

set_option maxHeartbeats 400000 in
theorem kind_calls (s : ByteArray) (w : World) (hs : s.size < 4294967281) (hS : w.ShapedOpen Tryd.prog) :
    Calls Tryd.prog 9 #[.string s] w fun e w' => e = .returned (.int .i64 (kindV s)) ∧ Below w.heap.size w w' := by
  have HS := Lib.hid hS; clear hS
  go_enter Tryd.func9, Tryd.ntmps9
  go_wp2_with fail
  · have h64 : (s.size : Int) ≤ 64 := by assumption
    refine (all_calls _ (Or.inl rfl) goodB s w hs HS.out good_hid).mono ?_
    rintro e w' ⟨rfl, hb⟩
    cases hg : (slashB s).all goodB
    · go_wp2_with fail
      go_ret
      refine ⟨ret_int ?_, hb⟩
      rw [kindV, if_neg (by omega), if_pos hg]
    · go_wp2_with (go_at_call 20; refine (Tryd.strings_HasPrefix _ _ _).mono ?_; rintro e w' ⟨rfl, rfl⟩)
      · have p1 : Lib.hasPrefix s.data.toList [104, 101, 97, 100, 115, 47] = true := by assumption
        go_ret
        refine ⟨ret_int ?_, hb⟩
        rw [kindV, if_neg (by omega), if_neg (by rw [hg]; simp), if_pos p1]
      · have p1 : Lib.hasPrefix s.data.toList [104, 101, 97, 100, 115, 47] = false := by assumption
        have p2 : Lib.hasPrefix s.data.toList [116, 97, 103, 115, 47] = true := by assumption
        go_ret
        refine ⟨ret_int ?_, hb⟩
        rw [kindV, if_neg (by omega), if_neg (by rw [hg]; simp), if_neg (by rw [p1]; simp), if_pos p2]
      · have p1 : Lib.hasPrefix s.data.toList [104, 101, 97, 100, 115, 47] = false := by assumption
        have p2 : Lib.hasPrefix s.data.toList [116, 97, 103, 115, 47] = false := by assumption
        go_ret
        refine ⟨ret_int ?_, hb⟩
        rw [kindV, if_neg (by omega), if_neg (by rw [hg]; simp), if_neg (by rw [p1]; simp), if_neg (by rw [p2]; simp)]
  · have h64 : 64 < (s.size : Int) := by assumption
    go_ret
    refine ⟨ret_int ?_, Below.refl _ _⟩
    rw [kindV, if_pos (by omega)]

def pathOk (s : ByteArray) : Bool := decide (s.size ≤ 65536) && (slashB s).all partB

set_option maxHeartbeats 400000 in
theorem path_no (s : ByteArray) (w : World) (hs : s.size < 4294967281) (hS : w.ShapedOpen Tryd.prog) (hno : pathOk s = false) :
    Calls Tryd.prog 7 #[.string s] w fun e w' => e = .returned (.tuple #[.slice none 0 0, .bool false]) ∧ Below w.heap.size w w' := by
  have HS := Lib.hid hS; clear hS
  have HNO := Lib.hid hno; clear hno
  go_enter Tryd.func7, Tryd.ntmps7
  go_wp2_with fail
  · have h64 : (s.size : Int) ≤ 65536 := by assumption
    have hall : (slashB s).all partB = false := by
      have := HNO.out
      simp only [pathOk, decide_eq_true (show s.size ≤ 65536 by omega), Bool.true_and] at this
      exact this
    refine (all_calls _ (Or.inr rfl) partB s w hs HS.out part_hid).mono ?_
    rintro e w' ⟨rfl, hb⟩
    go_wp2_with fail
    go_ret2
    exact ⟨rfl, hb⟩
  · go_ret2
    exact ⟨rfl, Below.refl _ _⟩

set_option maxHeartbeats 400000 in
theorem path_yes (s : ByteArray) (w : World) (hS : w.ShapedOpen Tryd.prog) (hyes : pathOk s = true) :
    Calls Tryd.prog 7 #[.string s] w fun e w' => ∃ b, w.heap.size ≤ b ∧ e = .returned (.tuple #[.slice (some ⟨b, 0, none⟩) (slashB s).length (slashB s).length, .bool true]) ∧ (∀ k, k < (slashB s).length → w'.cell? ⟨b, k, none⟩ = some (.string ((slashB s).getD k ByteArray.empty))) ∧ Below w.heap.size w w' := by
  have h1 : s.size ≤ 65536 := by simp [pathOk] at hyes; exact hyes.1
  have hall : (slashB s).all partB = true := by simp only [pathOk, Bool.and_eq_true] at hyes; exact hyes.2
  have HS := Lib.hid hS; clear hS
  have HL := Lib.hid (slashB_length s)
  go_enter Tryd.func7, Tryd.ntmps7
  go_wp2_with fail
  refine (all_calls _ (Or.inr rfl) partB s w (by omega) HS.out part_hid).mono ?_
  rintro e w' ⟨rfl, hb⟩
  have HSr := Lib.hid (shaped_below HS.out hb)
  go_wp2_with fail
  refine (Tryd.strings_Split_shaped _ _ _ HSr.out (by omega) (by simp [ByteArray.size])).mono ?_
  rintro e w2 ⟨rfl, hw2⟩
  have hc0 : ∀ k, k < (slashB s).length → w2.cell? ⟨w'.heap.size, k, none⟩ = some (.string ((slashB s).getD k ByteArray.empty)) := fun k hk => by
    rw [hw2]
    refine (slash_cell s w' k hk).trans ?_
    simp [hk]
  have hb2 : Below w.heap.size w w2 := by rw [hw2]; exact hb.alloc hb.size _
  have HC0 := Lib.hid hc0
  clear hw2 hc0 hall hyes
  go_wp2_with fail
  go_ret2
  exact ⟨_, hb.size, by rw [HL.out]; rfl, HC0.out, hb2⟩

end Go.Proofs.YtnnklobbakdopaaDoor
