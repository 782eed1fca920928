/- The contract of names.letter. -/
import Derived.Test.YtnnklobbakdopaaDoorChecked
import Derived.Test.YtnnklobbakdopaaDoorShelf
import Derived.Test.YtnnklobbakdopaaDoorNamesLib
import Derived.WalkLawsBesides
import Derived.Lib.Hide
namespace Go.Proofs.YtnnklobbakdopaaDoor
set_option linter.unusedVariables false
set_option linter.unusedSimpArgs false
open Go.RowKit

set_option maxHeartbeats 400000 in
theorem letter_in (c : Int) (w : World) (ha : (97 ≤ c ∧ c ≤ 122) ∨ (65 ≤ c ∧ c ≤ 90) ∨ (48 ≤ c ∧ c ≤ 57)) :
    Calls Tryd.prog 25 #[.int .i32 c] w fun e w' => e = .returned (.bool true) ∧ w = w' := by
  rcases ha with ⟨h1, h2⟩ | ⟨h1, h2⟩ | ⟨h1, h2⟩
  all_goals
    go_enter Tryd.func25, Tryd.ntmps25
    go_wp2_with fail
    all_goals first | (go_ret; exact ⟨rfl, rfl⟩) | skip
    go_ways

set_option maxHeartbeats 400000 in
theorem letter_high (c : Int) (w : World) (ha : 128 ≤ c) :
    Calls Tryd.prog 25 #[.int .i32 c] w fun e w' => e = .returned (.bool false) ∧ w = w' := by
  go_enter Tryd.func25, Tryd.ntmps25
  go_wp2_with fail
  go_ret
  exact ⟨rfl, rfl⟩

set_option maxHeartbeats 400000 in
theorem letter_low (c : Int) (w : World) (h0 : 0 ≤ c) (h1 : c < 128) (ha : ¬ ((97 ≤ c ∧ c ≤ 122) ∨ (65 ≤ c ∧ c ≤ 90) ∨ (48 ≤ c ∧ c ≤ 57))) (hS : w.ShapedOpen Tryd.prog) :
    Calls Tryd.prog 25 #[.int .i32 c] w fun e w' => e = .returned (.bool (decide (c = 45) || decide (c = 95) || decide (c = 46))) ∧ Below w.heap.size w w' := by
  have hS' : ∀ o, (w.alloc o).ShapedOpen Tryd.prog := fun o => shaped_below hS ((Below.refl _ _).alloc (Nat.le_refl _) _)
  have HS := Lib.hid hS'; clear hS' hS
  have HA := Lib.hid ha
  have hconv := run_convert_bytes_arg (P := Tryd.prog) (w.alloc (.cells #[.int .u8 c] 5)) 38 5 Tryd.underlying38 Tryd.underlying5 w.heap.size 0 1 1 [c] rfl
    (fun i hi => by obtain rfl : i = 0 := by omega
                    rw [World.cell?_alloc_new]; rfl) 9 Tryd.underlying9
  have hval : Lib.contains [45, 95, 46] (strOfNums [c]).data.toList = (decide (c = 45) || decide (c = 95) || decide (c = 46)) := by
    obtain ⟨n, rfl⟩ := Int.eq_ofNat_of_zero_le h0
    have hn : n < 128 := by omega
    rw [strOfNums_data]
    show Lib.contains [45, 95, 46] [UInt8.ofNat (n : Int).toNat] = _
    rw [Int.toNat_natCast, contains_marks]
    have e : ∀ k : Nat, k < 128 → ∀ m, m < 128 → (decide (UInt8.ofNat k = UInt8.ofNat m)) = decide ((k : Int) = (m : Int)) := by decide +kernel
    rw [show (45 : UInt8) = UInt8.ofNat 45 from rfl, show (95 : UInt8) = UInt8.ofNat 95 from rfl, show (46 : UInt8) = UInt8.ofNat 46 from rfl, e n hn 45 (by omega), e n hn 95 (by omega), e n hn 46 (by omega)]
    rfl
  have HV := Lib.hid hval; clear hval ha
  have hcases : (122 < c) ∨ (c < 97 ∧ 90 < c) ∨ (c < 65 ∧ 57 < c) ∨ c < 48 := by have := HA.out; omega
  clear HA
  rcases hcases with a1 | ⟨a1, a2⟩ | ⟨a1, a2⟩ | a1
  all_goals
    go_enter Tryd.func25, Tryd.ntmps25
    go_wp2_with fail
    refine (Tryd.strings_Contains_shaped _ _ _ (HS.out _) (by simp [ByteArray.size])).mono ?_
    rintro e w' ⟨rfl, rfl⟩
    go_wp2_with fail
    go_ret
    refine ⟨?_, (Below.refl _ _).alloc (Nat.le_refl _) _⟩
    rw [← HV.out]; rfl

theorem letter_calls (c : Int) (w : World) (h0 : 0 ≤ c) (hS : w.ShapedOpen Tryd.prog) :
    Calls Tryd.prog 25 #[.int .i32 c] w fun e w' => e = .returned (.bool (letterB c)) ∧ Below w.heap.size w w' := by
  by_cases ha : (97 ≤ c ∧ c ≤ 122) ∨ (65 ≤ c ∧ c ≤ 90) ∨ (48 ≤ c ∧ c ≤ 57)
  · refine (letter_in c w ha).mono ?_
    rintro e w' ⟨rfl, rfl⟩
    refine ⟨?_, Below.refl _ _⟩
    have hv : letterB c = true := by unfold letterB; simp; omega
    rw [hv]
  by_cases hc : 128 ≤ c
  · refine (letter_high c w hc).mono ?_
    rintro e w' ⟨rfl, rfl⟩
    refine ⟨?_, Below.refl _ _⟩
    have hv : letterB c = false := by unfold letterB; simp; omega
    rw [hv]
  · refine (letter_low c w h0 (by omega) ha hS).mono ?_
    rintro e w' ⟨rfl, hb⟩
    refine ⟨?_, hb⟩
    have hv : letterB c = (decide (c = 45) || decide (c = 95) || decide (c = 46)) := by
      unfold letterB
      rw [decide_eq_false (show ¬ (97 ≤ c ∧ c ≤ 122) by omega), decide_eq_false (show ¬ (65 ≤ c ∧ c ≤ 90) by omega), decide_eq_false (show ¬ (48 ≤ c ∧ c ≤ 57) by omega)]
      rfl
    rw [hv]
end Go.Proofs.YtnnklobbakdopaaDoor
