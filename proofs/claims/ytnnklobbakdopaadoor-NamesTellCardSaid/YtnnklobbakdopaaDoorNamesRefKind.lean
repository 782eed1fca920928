/- The contracts of coffretref09.Kind, Path and Less, and of names.Less. -/
import Derived.Test.YtnnklobbakdopaaDoorNamesRefGood
namespace Go.Proofs.YtnnklobbakdopaaDoor
set_option linter.unusedVariables false
set_option linter.unusedSimpArgs false
open Go.RowKit

def refKindV (s : ByteArray) : Int :=
  if 64 < s.size then 0 else if (partsOf s).all refGoodB = false then 0
  else if 1 < (partsOf s).length ∧ ((partsOf s).getD 0 ⟨#[]⟩).toList = [104, 101, 97, 100, 115] then 1
  else if 1 < (partsOf s).length ∧ ((partsOf s).getD 0 ⟨#[]⟩).toList = [116, 97, 103, 115] then 2 else 0

theorem partsOf_size (s : ByteArray) : ∀ p ∈ partsOf s, p.size ≤ s.size := by
  have h : ∀ k, (∀ p ∈ (partsTo s k).1, p.size ≤ k) ∧ (partsTo s k).2.size ≤ k := by
    intro k
    induction k with
    | zero => exact ⟨by simp [partsTo], Nat.le_refl _⟩
    | succ k ih =>
      unfold partsTo
      split
      · refine ⟨?_, Nat.zero_le _⟩
        intro p hp
        rcases List.mem_append.1 hp with hp | hp
        · have := ih.1 p hp; omega
        · simp at hp; subst hp; have := ih.2; omega
      · refine ⟨fun p hp => by have := ih.1 p hp; omega, ?_⟩
        show ((partsTo s k).2 ++ s.extract k (k + 1)).size ≤ _
        rw [ByteArray.size_append, ByteArray.size_extract]
        have := ih.2; omega
  intro p hp
  rcases List.mem_append.1 hp with hp | hp
  · exact (h s.size).1 p hp
  · simp at hp; subst hp; exact (h s.size).2

theorem partsOf_pos (s : ByteArray) : 0 < (partsOf s).length := by simp [partsOf]

theorem partsOf_len (s : ByteArray) : (partsOf s).length ≤ s.size + 1 := by
  have := (partsTo_le s s.size).1
  rw [partsOf, List.length_append, List.length_singleton]; omega

set_option maxHeartbeats 4000000 in
theorem refkind_calls (s : ByteArray) (w : World) (hs : s.size ≤ 70000) :
    Calls Tryd.prog 10 #[.string s] w fun e w' => e = .returned (.int .i64 (refKindV s)) ∧ Below w.heap.size w w' := by
  go_enter Tryd.func10, Tryd.ntmps10
  go_wp2_with fail
  · have t0 : 64 < (s.size : Int) := by assumption
    go_ret
    refine ⟨ret_int ?_, Below.refl _ _⟩
    rw [refKindV, if_pos (by omega)]
  · have t0 : (s.size : Int) ≤ 64 := by assumption
    refine (refparts_calls s w hs).mono ?_
    rintro e w' ⟨v, rfl, hown, hb⟩
    have hl1 := partsOf_pos s
    have hl2 := partsOf_len s
    obtain ⟨g, cap, rfl, hg1, hg2⟩ := hown.form hl1
    have hcells : ∀ k, k < (partsOf s).length → w'.cell? ⟨g, k, none⟩ = some (.string ((partsOf s).getD k ⟨#[]⟩)) := fun k hk => by
      rw [hown.cellAt k (by omega)]; simp [hk]
    have HC := Lib.hid hcells
    clear hcells hown
    go_wp2_with fail
    go_loop [4] (fun i => ∃ k : Nat, k ≤ (partsOf s).length ∧ i = .int .i64 k ∧ Hid (((partsOf s).take k).all refGoodB = true)) (fun i => (partsOf s).length - (intOf i).toNat)
    case atStart => exact ⟨0, by omega, rfl, rfl⟩
    case round =>
      obtain ⟨k, hk, rfl, hall⟩ := hrel
      by_cases hlt : k < (partsOf s).length
      · have hc := HC.out k hlt
        have hpz : ((partsOf s).getD k ⟨#[]⟩).size ≤ 70000 := by
          have hm : (partsOf s).getD k ⟨#[]⟩ ∈ partsOf s := by simp [List.getD, hlt]
          have := partsOf_size s _ hm
          omega
        have hgk : (partsOf s).getD k ⟨#[]⟩ = (partsOf s)[k] := by simp [List.getD, hlt]
        have HGK := Lib.hid hgk
        clear hgk
        generalize hgp : (partsOf s).getD k ⟨#[]⟩ = p at hc hpz HGK
        clear hgp
        go_wp2_with (go_at_call 21; refine (refgood_calls _ _ hpz).mono ?_; rintro e w' ⟨rfl, rfl⟩)
        · have hl : (!refGoodB p) = true := by assumption
          go_ret
          refine ⟨ret_int ?_, hb⟩
          rw [refKindV, if_neg (by omega), if_pos (all_false refGoodB (partsOf s) k hlt (by rw [← HGK.out]; simpa using hl))]
        · have hl : (!refGoodB p) = false := by assumption
          go_round
          case rel => exact ⟨k + 1, by omega, by go_num, by show ((partsOf s).take (k + 1)).all refGoodB = true; rw [take_all_snoc refGoodB (partsOf s) k hlt hall.out, ← HGK.out]; simpa using hl⟩
          case measure => simp [intOf]; omega
      · have hall2 : ¬ (partsOf s).all refGoodB = false := by
          have h := hall.out
          rw [List.take_of_length_le (by omega)] at h
          rw [h]; simp
        have HA := Lib.hid hall2
        have hc := HC.out 0 hl1
        clear hall2
        have hg0 : (partsOf s).getD 0 ⟨#[]⟩ = (partsOf s)[0] := by simp [List.getD, hl1]
        have HG := Lib.hid hg0
        clear hg0
        go_wp2_with fail
        · have t1 : 1 < ((partsOf s).length : Int) := by assumption
          have t2 : ((partsOf s)[0].toList == [104, 101, 97, 100, 115]) = true := by assumption
          go_ret
          refine ⟨ret_int ?_, hb⟩
          rw [refKindV, if_neg (by omega), if_neg HA.out, HG.out, if_pos ⟨by omega, eq_of_beq t2⟩]
        · have t1 : 1 < ((partsOf s).length : Int) := by assumption
          have t2 : ((partsOf s)[0].toList == [104, 101, 97, 100, 115]) = false := by assumption
          have t3 : ((partsOf s)[0].toList == [116, 97, 103, 115]) = true := by assumption
          go_ret
          refine ⟨ret_int ?_, hb⟩
          rw [refKindV, if_neg (by omega), if_neg HA.out, HG.out, if_neg (fun h => absurd h.2 (ne_of_beq_false t2)), if_pos ⟨by omega, eq_of_beq t3⟩]
        · have t2 : ((partsOf s)[0].toList == [104, 101, 97, 100, 115]) = false := by assumption
          have t3 : ((partsOf s)[0].toList == [116, 97, 103, 115]) = false := by assumption
          go_ret
          refine ⟨ret_int ?_, hb⟩
          rw [refKindV, if_neg (by omega), if_neg HA.out, HG.out, if_neg (fun h => absurd h.2 (ne_of_beq_false t2)), if_neg (fun h => absurd h.2 (ne_of_beq_false t3))]
        · have t1 : ((partsOf s).length : Int) ≤ 1 := by assumption
          go_ret
          refine ⟨ret_int ?_, hb⟩
          rw [refKindV, if_neg (by omega), if_neg HA.out, if_neg (by omega), if_neg (by omega)]

def refPathOk (s : ByteArray) : Bool := decide (s.size ≤ 65536) && (partsOf s).all refPartB

set_option maxHeartbeats 4000000 in
theorem refpath_calls (s : ByteArray) (w : World) (hs : s.size ≤ 70000) :
    Calls Tryd.prog 8 #[.string s] w fun e w' => Below w.heap.size w w' ∧ Hid ((refPathOk s = false → e = .returned (.tuple #[.slice none 0 0, .bool false])) ∧
      (refPathOk s = true → ∃ v, e = .returned (.tuple #[v, .bool true]) ∧ w'.ownsRow w.heap.size 9 1 v (partsOf s).length ((partsOf s).map Value.string))) := by
  go_enter Tryd.func8, Tryd.ntmps8
  go_wp2_with fail
  · have t0 : 65536 < (s.size : Int) := by assumption
    have hno : refPathOk s = false := by rw [refPathOk, decide_eq_false (by omega)]; rfl
    go_ret2
    exact ⟨Below.refl _ _, fun _ => rfl, fun h => by rw [hno] at h; cases h⟩
  · have t0 : (s.size : Int) ≤ 65536 := by assumption
    have hok : refPathOk s = (partsOf s).all refPartB := by rw [refPathOk, decide_eq_true (by omega)]; rfl
    have HOK := Lib.hid hok
    clear hok
    refine (refparts_calls s w hs).mono ?_
    rintro e w' ⟨v, rfl, hown, hb⟩
    have hl1 := partsOf_pos s
    have hl2 := partsOf_len s
    obtain ⟨g, cap, rfl, hg1, hg2⟩ := hown.form hl1
    have hcells : ∀ k, k < (partsOf s).length → w'.cell? ⟨g, k, none⟩ = some (.string ((partsOf s).getD k ⟨#[]⟩)) := fun k hk => by
      rw [hown.cellAt k (by omega)]; simp [hk]
    have HC := Lib.hid hcells
    have HO := Lib.hid hown
    clear hcells hown
    go_wp2_with fail
    go_loop [5] (fun i => ∃ k : Nat, k ≤ (partsOf s).length ∧ i = .int .i64 k ∧ Hid (((partsOf s).take k).all refPartB = true)) (fun i => (partsOf s).length - (intOf i).toNat)
    case atStart => exact ⟨0, by omega, rfl, rfl⟩
    case round =>
      obtain ⟨k, hk, rfl, hall⟩ := hrel
      by_cases hlt : k < (partsOf s).length
      · have hc := HC.out k hlt
        have hgk : (partsOf s).getD k ⟨#[]⟩ = (partsOf s)[k] := by simp [List.getD, hlt]
        have HGK := Lib.hid hgk
        clear hgk
        generalize hgp : (partsOf s).getD k ⟨#[]⟩ = p at hc HGK
        clear hgp
        go_wp2_with (go_at_call 12; refine (refpart_calls _ _).mono ?_; rintro e w' ⟨rfl, rfl⟩)
        · have hl : (!refPartB p) = true := by assumption
          have hno : refPathOk s = false := HOK.out.trans (all_false refPartB (partsOf s) k hlt (by rw [← HGK.out]; simpa using hl))
          go_ret2
          exact ⟨hb, fun _ => rfl, fun h => by rw [hno] at h; cases h⟩
        · have hl : (!refPartB p) = false := by assumption
          go_round
          case rel => exact ⟨k + 1, by omega, by go_num, by show ((partsOf s).take (k + 1)).all refPartB = true; rw [take_all_snoc refPartB (partsOf s) k hlt hall.out, ← HGK.out]; simpa using hl⟩
          case measure => simp [intOf]; omega
      · have hall2 : refPathOk s = true := by
          have h := hall.out
          rw [List.take_of_length_le (by omega)] at h
          exact HOK.out.trans h
        have HA := Lib.hid hall2
        clear hall2
        go_wp2_with fail
        go_ret2
        refine ⟨hb, And.intro (fun h => ?_) (fun _ => ⟨_, rfl, HO.out⟩)⟩
        rw [HA.out] at h
        cases h
theorem less_calls (a b : ByteArray) (w : World) :
    Calls Tryd.prog 14 #[.string a, .string b] w fun e w' => e = .returned (.bool (Op.bytesLess a.toList b.toList)) ∧ w = w' := by
  go_enter Tryd.func14, Tryd.ntmps14
  go_wp2_with fail
  go_ret
  exact ⟨rfl, rfl⟩

theorem drop_byte (a : ByteArray) (k : Nat) (h : k < a.size) : a.toList.drop k = a[k] :: a.toList.drop (k + 1) := by
  rw [ByteArray.toList_eq]
  have hl : k < a.data.toList.length := by rw [Array.length_toList]; exact h
  rw [List.drop_eq_getElem_cons hl]; rfl

theorem drop_end (a : ByteArray) (k : Nat) (h : ¬ k < a.size) : a.toList.drop k = [] := by
  rw [ByteArray.toList_eq]
  exact List.drop_eq_nil_of_le (by rw [Array.length_toList]; exact Nat.le_of_not_lt h)

theorem less_same (a b : ByteArray) (k : Nat) (h1 : k < a.size) (h2 : k < b.size) (h : ((a[k].toNat : Int) != (b[k].toNat : Int)) = false) :
    Op.bytesLess (a.toList.drop k) (b.toList.drop k) = Op.bytesLess (a.toList.drop (k + 1)) (b.toList.drop (k + 1)) := by
  rw [drop_byte a k h1, drop_byte b k h2]
  have e : a[k].toNat = b[k].toNat := Int.ofNat.inj (by simpa using h)
  have e2 : a[k] = b[k] := UInt8.toNat_inj.1 e
  simp [Op.bytesLess, e2]

theorem less_other (a b : ByteArray) (k : Nat) (h1 : k < a.size) (h2 : k < b.size) (h : ((a[k].toNat : Int) != (b[k].toNat : Int)) = true) :
    Op.bytesLess (a.toList.drop k) (b.toList.drop k) = decide (a[k].toNat < b[k].toNat) := by
  rw [drop_byte a k h1, drop_byte b k h2]
  have e : ¬ a[k].toNat = b[k].toNat := by
    intro e
    rw [e] at h
    simp at h
  have e2 : ¬ a[k] = b[k] := fun e2 => e (by rw [e2])
  simp [Op.bytesLess, e2, UInt8.lt_iff_toNat_lt]

theorem less_end (a b : ByteArray) (k : Nat) (h : ¬ (k < a.size ∧ k < b.size)) (hk : k ≤ a.size) (hk2 : k ≤ b.size) :
    Op.bytesLess (a.toList.drop k) (b.toList.drop k) = decide (a.size < b.size) := by
  by_cases h1 : k < a.size
  · have h2 : ¬ k < b.size := fun h2 => h ⟨h1, h2⟩
    rw [drop_byte a k h1, drop_end b k h2, decide_eq_false (by omega)]
    simp [Op.bytesLess]
  · rw [drop_end a k h1]
    by_cases h2 : k < b.size
    · rw [drop_byte b k h2, decide_eq_true (by omega)]
      simp [Op.bytesLess]
    · rw [drop_end b k h2, decide_eq_false (by omega)]
      simp [Op.bytesLess]

set_option maxHeartbeats 4000000 in
theorem refless_calls (a b : ByteArray) (w : World) (ha : a.size ≤ 70000) (hb : b.size ≤ 70000) :
    Calls Tryd.prog 15 #[.string a, .string b] w fun e w' => e = .returned (.bool (Op.bytesLess a.toList b.toList)) ∧ ∃ n, w' = w.drewN n := by
  go_enter Tryd.func15, Tryd.ntmps15
  go_wp2_with fail
  go_loopw [5] (fun i wr => ∃ k n : Nat, k ≤ a.size ∧ k ≤ b.size ∧ i = .int .i64 k ∧ wr = w.drewN n ∧ Hid (Op.bytesLess (a.toList.drop k) (b.toList.drop k) = Op.bytesLess a.toList b.toList)) (fun i _ => a.size - (intOf i).toNat)
  case atStart => exact ⟨0, 0, by omega, by omega, rfl, rfl, rfl⟩
  case round =>
    obtain ⟨k, n, hk1, hk2, rfl, rfl, hl⟩ := hrel
    by_cases h1 : k < a.size
    · by_cases h2 : k < b.size
      · have e1 : (0 : Int) ≤ k := by omega
        have e2 : (k : Int) < a.size := by omega
        have e3 : (k : Int) < b.size := by omega
        cases hne : ((a[k].toNat : Int) != (b[k].toNat : Int))
        · have HL := Lib.hid ((less_same a b k h1 h2 hne).symm.trans hl.out)
          go_wp2_with fail
          go_region
          go_wp2_with fail
          go_roundw
          case rel => exact ⟨k + 1, n + 1, by omega, by omega, by go_num, rfl, HL.out⟩
          case measure => simp [intOf]; omega
        · have HL := Lib.hid (hl.out.symm.trans (less_other a b k h1 h2 hne))
          go_wp2_with fail
          go_region
          go_wp2_with fail
          go_region
          go_wp2_with fail
          go_ret
          exact ⟨ret_bool HL.out.symm, _, rfl⟩
      · have HL := Lib.hid (hl.out.symm.trans (less_end a b k (fun h => h2 h.2) hk1 hk2))
        go_wp2_with fail
        go_ret
        exact ⟨ret_bool HL.out.symm, _, rfl⟩
    · have HL := Lib.hid (hl.out.symm.trans (less_end a b k (fun h => h1 h.1) hk1 hk2))
      go_wp2_with fail
      go_ret
      exact ⟨ret_bool HL.out.symm, _, rfl⟩
end Go.Proofs.YtnnklobbakdopaaDoor
