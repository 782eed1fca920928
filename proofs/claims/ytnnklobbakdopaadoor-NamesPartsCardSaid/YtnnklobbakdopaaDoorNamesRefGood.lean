/- The contracts of coffretref09.letter, good and Part. -/
import Derived.Test.YtnnklobbakdopaaDoorNamesRefParts
namespace Go.Proofs.YtnnklobbakdopaaDoor
set_option linter.unusedVariables false
set_option linter.unusedSimpArgs false
open Go.RowKit

set_option maxHeartbeats 4000000 in
theorem refletter_calls (c : Int) (w : World) :
    Calls Tryd.prog 27 #[.int .u8 c] w fun e w' => e = .returned (.bool (letterB c)) ∧ w = w' := by
  go_enter Tryd.func27, Tryd.ntmps27
  go_wp2_with fail
  all_goals
    go_ret
    refine ⟨ret_bool ?_, rfl⟩
    first
      | (unfold letterB; rfl)
      | (rw [Bool.eq_iff_iff]; simp [letterB]; omega)

/-- a byte, as a number -/
def bI (s : ByteArray) (k : Nat) : Int := (s.data.toList.getD k 0).toNat

theorem bI_at (s : ByteArray) (k : Nat) (h : k < s.size) : bI s k = ((s[k]'h).toNat : Int) := by
  have hl : k < s.data.toList.length := by rw [Array.length_toList]; exact h
  unfold bI
  simp only [List.getD, List.getElem?_eq_getElem hl, Option.getD_some]; rfl

/-- do the first k bytes fit? -/
def okTo (s : ByteArray) : Nat → Bool
  | 0 => true
  | k + 1 => okTo s k && (letterB (bI s k) && !(decide (0 < k) && (bI s k == 46) && (bI s (k - 1) == 46)))

theorem okTo_false (s : ByteArray) : ∀ (n k : Nat), k ≤ n → okTo s k = false → okTo s n = false
  | 0, k, h, h2 => by obtain rfl : k = 0 := by omega
                      exact h2
  | n + 1, k, h, h2 => by
    by_cases e : k = n + 1
    · subst e; exact h2
    · rw [okTo, okTo_false s n k (by omega) h2]; rfl

def refGoodB (s : ByteArray) : Bool :=
  !(s.toList.isEmpty) && !(bI s 0 == 45) && !(bI s 0 == 46) && !(bI s (s.size - 1) == 46) && okTo s s.size && (decide (s.size < 5) || !((s.extract (s.size - 5) s.size).toList == [46, 108, 111, 99, 107]))

theorem refgood_yes (s : ByteArray) (h1 : 0 < s.size) (he : s.toList.isEmpty = false) (t0 : (((s[0]'h1).toNat : Int) == 45) = false) (t1 : (((s[0]'h1).toNat : Int) == 46) = false)
    (t2 : (((s[s.size - 1]'(by omega)).toNat : Int) == 46) = false) : refGoodB s = (okTo s s.size && (decide (s.size < 5) || !((s.extract (s.size - 5) s.size).toList == [46, 108, 111, 99, 107]))) := by
  rw [refGoodB, bI_at s 0 h1, bI_at s (s.size - 1) (by omega), t0, t1, t2, he]; simp

set_option maxHeartbeats 4000000 in
theorem refgood_rest (s : ByteArray) (w : World) (hs : s.size ≤ 70000) (h1 : 0 < s.size) (he : s.toList.isEmpty = false) (t0 : (((s[0]'h1).toNat : Int) == 45) = false) (t1 : (((s[0]'h1).toNat : Int) == 46) = false)
    (t2 : (((s[s.size - 1]'(by omega)).toNat : Int) == 46) = false) :
    Calls Tryd.prog 21 #[.string s] w fun e w' => e = .returned (.bool (refGoodB s)) ∧ w = w' := by
  have HV := Lib.hid (refgood_yes s h1 he t0 t1 t2)
  go_enter Tryd.func21, Tryd.ntmps21
  go_wp2_with fail
  clear t0 t1 t2 he
  go_loop [3] (fun i => ∃ k : Nat, k ≤ s.size ∧ i = .int .i64 k ∧ Hid (okTo s k = true)) (fun i => s.size - (intOf i).toNat)
  case atStart => exact ⟨0, by omega, rfl, rfl⟩
  case round =>
    obtain ⟨k, hk, rfl, hok⟩ := hrel
    by_cases hlt : k < s.size
    · have bk := bI_at s k hlt
      have BK := Lib.hid bk
      have hstep : okTo s (k + 1) = (letterB (bI s k) && !(decide (0 < k) && (bI s k == 46) && (bI s (k - 1) == 46))) := by rw [okTo, hok.out]; simp
      have HS := Lib.hid hstep
      have hno : okTo s (k + 1) = false → refGoodB s = false := fun h => by rw [HV.out, okTo_false s s.size (k + 1) (by omega) h]; rfl
      have HNO := Lib.hid hno
      clear bk hstep hno
      go_wp2_with (go_at_call 27; refine (refletter_calls _ _).mono ?_; rintro e w' ⟨rfl, rfl⟩)
      · have t1 : ((s[k]).toNat : Int) = 46 := by assumption
        have t2 : 0 < k := by assumption
        have t3 : (((s[k - 1]'(by omega)).toNat : Int) == 46) = true := by assumption
        go_ret
        refine ⟨ret_bool ?_, rfl⟩
        rw [HNO.out (by rw [HS.out, BK.out, bI_at s (k - 1) (by omega), t1, t3]; simp [t2])]
      · have t0 : letterB ((s[k]).toNat : Int) = true := by assumption
        have t3 : (((s[k - 1]'(by omega)).toNat : Int) == 46) = false := by assumption
        go_round
        case rel => exact ⟨k + 1, by omega, by go_num, HS.out.trans (by rw [BK.out, bI_at s (k - 1) (by omega), t0, t3]; simp)⟩
        case measure => simp [intOf]; omega
      · have t0 : letterB ((s[k]).toNat : Int) = true := by assumption
        have t1 : ¬ ((s[k]).toNat : Int) = 46 := by assumption
        go_round
        case rel => exact ⟨k + 1, by omega, by go_num, HS.out.trans (by rw [BK.out, t0, beq_eq_false_iff_ne.2 t1]; simp)⟩
        case measure => simp [intOf]; omega
      · have t0 : letterB ((s[k]).toNat : Int) = true := by assumption
        have t1 : ¬ 0 < k := by assumption
        go_round
        case rel => exact ⟨k + 1, by omega, by go_num, HS.out.trans (by rw [BK.out, t0]; simp [t1])⟩
        case measure => simp [intOf]; omega
      · have t0 : ¬ letterB ((s[k]).toNat : Int) = true := by assumption
        go_ret
        refine ⟨ret_bool ?_, rfl⟩
        rw [HNO.out (by rw [HS.out, BK.out, Bool.eq_false_iff.2 t0]; rfl)]
    · have hks : k = s.size := by omega
      have hok2 := hok.out
      rw [hks] at hok2
      have hval := HV.out
      rw [hok2] at hval
      have HV2 := Lib.hid hval
      clear hks hok2 hval
      go_wp2_with fail
      · have t1 : (5 : Int) ≤ s.size := by assumption
        go_ret
        refine ⟨ret_bool ?_, rfl⟩
        rw [HV2.out, Bool.true_and]
        congr 2
        simp
        omega
      · have t1 : (s.size : Int) < 5 := by assumption
        go_ret
        refine ⟨ret_bool ?_, rfl⟩
        rw [HV2.out, decide_eq_true (show s.size < 5 by omega)]
        rfl


set_option maxHeartbeats 4000000 in
theorem refgood_calls (s : ByteArray) (w : World) (hs : s.size ≤ 70000) :
    Calls Tryd.prog 21 #[.string s] w fun e w' => e = .returned (.bool (refGoodB s)) ∧ w = w' := by
  by_cases he : s.toList = []
  · go_enter Tryd.func21, Tryd.ntmps21
    go_wp2_with fail
    go_ret
    refine ⟨ret_bool ?_, rfl⟩
    simp [refGoodB, he]
  have hne : s.toList.isEmpty = false := by simpa using he
  have h1 : 0 < s.size := by
    rw [ByteArray.toList_eq] at he
    have h := List.length_pos_iff.2 he
    rw [Array.length_toList] at h; exact h
  have B0 := Lib.hid (bI_at s 0 (by omega))
  have B1 := Lib.hid (bI_at s (s.size - 1) (by omega))
  clear he
  cases t0 : (((s[0]'h1).toNat : Int) == 45)
  · cases t1 : (((s[0]'h1).toNat : Int) == 46)
    · cases t2 : (((s[s.size - 1]'(by omega)).toNat : Int) == 46)
      · exact refgood_rest s w hs h1 hne t0 t1 t2
      · go_enter Tryd.func21, Tryd.ntmps21
        go_wp2_with fail
        go_ret
        refine ⟨ret_bool ?_, rfl⟩
        rw [refGoodB, B1.out, t2]; simp
    · go_enter Tryd.func21, Tryd.ntmps21
      go_wp2_with fail
      go_ret
      refine ⟨ret_bool ?_, rfl⟩
      rw [refGoodB, B0.out, t1]; simp
  · go_enter Tryd.func21, Tryd.ntmps21
    go_wp2_with fail
    go_ret
    refine ⟨ret_bool ?_, rfl⟩
    rw [refGoodB, B0.out, t0]; simp

/-- has a text's first k bytes neither a slash nor a zero? -/
def plainTo (s : ByteArray) : Nat → Bool
  | 0 => true
  | k + 1 => plainTo s k && !(bI s k == 47 || bI s k == 0)

theorem plainTo_false (s : ByteArray) : ∀ (n k : Nat), k ≤ n → plainTo s k = false → plainTo s n = false
  | 0, k, h, h2 => by obtain rfl : k = 0 := by omega
                      exact h2
  | n + 1, k, h, h2 => by
    by_cases e : k = n + 1
    · subst e; exact h2
    · rw [plainTo, plainTo_false s n k (by omega) h2]; rfl

def refPartB (s : ByteArray) : Bool :=
  !s.toList.isEmpty && !(s.toList == [46]) && !(s.toList == [46, 46]) && decide (s.size ≤ 64) && plainTo s s.size

set_option maxHeartbeats 4000000 in
theorem refpart_rest (s : ByteArray) (w : World) (he : s.toList.isEmpty = false) (t1 : (s.toList == [46]) = false) (t2 : (s.toList == [46, 46]) = false) (h64 : decide (64 < (s.size : Int)) = false) :
    Calls Tryd.prog 12 #[.string s] w fun e w' => e = .returned (.bool (refPartB s)) ∧ w = w' := by
  have hsz : s.size ≤ 64 := by simp at h64; omega
  have HV : Hid (refPartB s = plainTo s s.size) := by unfold refPartB Hid; rw [he, t1, t2, decide_eq_true hsz]; simp
  go_enter Tryd.func12, Tryd.ntmps12
  go_wp2_with fail
  clear he t1 t2 h64
  go_loop [3] (fun i => ∃ k : Nat, k ≤ s.size ∧ i = .int .i64 k ∧ Hid (plainTo s k = true)) (fun i => s.size - (intOf i).toNat)
  case atStart => exact ⟨0, by omega, rfl, rfl⟩
  case round =>
    obtain ⟨k, hk, rfl, hok⟩ := hrel
    by_cases hlt : k < s.size
    · have BK := Lib.hid (bI_at s k hlt)
      have HS : Hid (plainTo s (k + 1) = !(bI s k == 47 || bI s k == 0)) := by unfold Hid; rw [plainTo, hok.out]; simp
      have HNO : Hid (plainTo s (k + 1) = false → refPartB s = false) := fun h => by rw [HV.out, plainTo_false s s.size (k + 1) (by omega) h]
      go_wp2_with fail
      · have t1 : ((s[k]).toNat : Int) = 47 := by assumption
        go_ret
        refine ⟨ret_bool ?_, rfl⟩
        rw [HNO.out (by rw [HS.out, BK.out, t1]; rfl)]
      · have t1 : ¬ ((s[k]).toNat : Int) = 47 := by assumption
        have t2 : (((s[k]).toNat : Int) == 47) = true ∨ (((s[k]).toNat : Int) == 0) = true := by assumption
        go_ret
        refine ⟨ret_bool ?_, rfl⟩
        rw [HNO.out (by rw [HS.out, BK.out]; rcases t2 with t | t <;> rw [t] <;> simp)]
      · have t2 : (((s[k]).toNat : Int) == 47) = false ∧ (((s[k]).toNat : Int) == 0) = false := by assumption
        go_round
        case rel => exact ⟨k + 1, by omega, by go_num, HS.out.trans (by rw [BK.out, t2.1, t2.2]; rfl)⟩
        case measure => simp [intOf]; omega
    · have hks : k = s.size := by omega
      have HV2 : Hid (refPartB s = true) := by rw [hks] at hok; exact HV.out.trans hok.out
      clear hks
      go_wp2_with fail
      go_ret
      exact ⟨ret_bool HV2.out.symm, rfl⟩

set_option maxHeartbeats 4000000 in
theorem refpart_calls (s : ByteArray) (w : World) :
    Calls Tryd.prog 12 #[.string s] w fun e w' => e = .returned (.bool (refPartB s)) ∧ w = w' := by
  cases he : s.toList.isEmpty
  · cases t1 : (s.toList == [46])
    · cases t2 : (s.toList == [46, 46])
      · cases h64 : decide (64 < (s.size : Int))
        · exact refpart_rest s w he t1 t2 h64
        · have HV : Hid (refPartB s = false) := by
            have : ¬ s.size ≤ 64 := by simp at h64; omega
            unfold refPartB Hid; rw [decide_eq_false this]; simp
          go_enter Tryd.func12, Tryd.ntmps12
          go_wp2_with fail
          go_ret
          exact ⟨ret_bool HV.out.symm, rfl⟩
      · have HV : Hid (refPartB s = false) := by unfold refPartB Hid; rw [t2]; simp
        go_enter Tryd.func12, Tryd.ntmps12
        go_wp2_with fail
        go_ret
        exact ⟨ret_bool HV.out.symm, rfl⟩
    · have HV : Hid (refPartB s = false) := by unfold refPartB Hid; rw [t1]; simp
      go_enter Tryd.func12, Tryd.ntmps12
      go_wp2_with fail
      go_ret
      exact ⟨ret_bool HV.out.symm, rfl⟩
  · have HV : Hid (refPartB s = false) := by unfold refPartB Hid; rw [he]; simp
    go_enter Tryd.func12, Tryd.ntmps12
    go_wp2_with fail
    go_ret
    exact ⟨ret_bool HV.out.symm, rfl⟩
end Go.Proofs.YtnnklobbakdopaaDoor
