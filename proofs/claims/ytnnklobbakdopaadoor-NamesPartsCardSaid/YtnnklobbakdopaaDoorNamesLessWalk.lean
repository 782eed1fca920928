/- The walk of NamesLess. -/
import Derived.Test.YtnnklobbakdopaaDoorNamesOne
namespace Go.Proofs.YtnnklobbakdopaaDoor
set_option linter.unusedVariables false
set_option linter.unusedSimpArgs false
open Go.RowKit

/-! ### the order of texts -/
theorem bl_irrefl : ∀ a : List UInt8, Op.bytesLess a a = false
  | [] => rfl
  | x :: a => by simp [Op.bytesLess, bl_irrefl a]

theorem bl_asymm : ∀ a b : List UInt8, Op.bytesLess a b = true → Op.bytesLess b a = false
  | _, [], h => by simp [Op.bytesLess] at h
  | [], _ :: _, _ => rfl
  | x :: a, y :: b, h => by
    simp only [Op.bytesLess, Bool.or_eq_true, decide_eq_true_eq, Bool.and_eq_true, beq_iff_eq] at h
    simp only [Op.bytesLess, Bool.or_eq_false_iff, decide_eq_false_iff_not, Bool.and_eq_false_iff, beq_eq_false_iff_ne]
    simp only [UInt8.lt_iff_toNat_lt] at h ⊢
    rcases h with h | ⟨rfl, h⟩
    · refine ⟨by omega, Or.inl ?_⟩
      rintro rfl; omega
    · exact ⟨by omega, Or.inr (bl_asymm a b h)⟩

theorem bl_total : ∀ a b : List UInt8, Op.bytesLess a b = false → Op.bytesLess b a = false → a = b
  | [], [], _, _ => rfl
  | [], _ :: _, h, _ => by simp [Op.bytesLess] at h
  | _ :: _, [], _, h => by simp [Op.bytesLess] at h
  | x :: a, y :: b, h, k => by
    simp only [Op.bytesLess, Bool.or_eq_false_iff, decide_eq_false_iff_not, Bool.and_eq_false_iff, beq_eq_false_iff_ne, UInt8.lt_iff_toNat_lt] at h k
    have e : x = y := UInt8.toNat_inj.1 (by omega)
    subst e
    rw [bl_total a b (by rcases h.2 with h2 | h2; exact absurd rfl h2; exact h2) (by rcases k.2 with k2 | k2; exact absurd rfl k2; exact k2)]

theorem bl_trans : ∀ a b c : List UInt8, Op.bytesLess a b = true → Op.bytesLess b c = true → Op.bytesLess a c = true
  | _, [], _, h, _ => by simp [Op.bytesLess] at h
  | _, _ :: _, [], _, h => by simp [Op.bytesLess] at h
  | [], _ :: _, _ :: _, _, _ => rfl
  | x :: a, y :: b, z :: c, h, k => by
    simp only [Op.bytesLess, Bool.or_eq_true, decide_eq_true_eq, Bool.and_eq_true, beq_iff_eq, UInt8.lt_iff_toNat_lt] at h k ⊢
    rcases h with h | ⟨rfl, h⟩
    · rcases k with k | ⟨rfl, k⟩
      · left; omega
      · left; exact h
    · rcases k with k | ⟨rfl, k⟩
      · left; exact k
      · right; exact ⟨rfl, bl_trans a b c h k⟩

theorem drewN_below (w : World) (n : Nat) : Below w.heap.size w (w.drewN n) := by
  induction n with
  | zero => exact Below.refl _ _
  | succ n ih => exact ih.drew

theorem refless_below (a b : ByteArray) (w : World) (ha : a.size ≤ 70000) (hb : b.size ≤ 70000) :
    Calls Tryd.prog 15 #[.string a, .string b] w fun e w' => e = .returned (.bool (Op.bytesLess a.toList b.toList)) ∧ Below w.heap.size w w' :=
  (refless_calls a b w ha hb).mono fun e w' ⟨h, n, hn⟩ => ⟨h, by rw [hn]; exact drewN_below w n⟩

set_option maxHeartbeats 4000000 in
theorem namesless_core (a b c : ByteArray) (w : World) (h1 : (a.size : Int) + b.size ≤ 4000) (h2 : (c.size : Int) ≤ 4000) (HS : Hid (w.ShapedOpen Tryd.prog))
    (ab ba bc ac : Bool) (hab : Op.bytesLess a.toList b.toList = ab) (hba : Op.bytesLess b.toList a.toList = ba) (hbc : Op.bytesLess b.toList c.toList = bc) (hac : Op.bytesLess a.toList c.toList = ac)
    (hcase : (ab = true ∧ ba = false) ∨ (ab = false ∧ ba = true) ∨ (ab = false ∧ ba = false ∧ a = b)) (htr : ab = true → bc = true → ac = true) :
    Calls Tryd.prog 5 #[.string a, .string b, .string c] w fun e w' => e = .returned (.bool true) ∧ Below w.heap.size w w' := by
  have hx : Op.bytesLess (⟨#[97]⟩ : ByteArray).toList (⟨#[97, 98]⟩ : ByteArray).toList = true := by decide +kernel
  rcases hcase with ⟨rfl, rfl⟩ | ⟨rfl, rfl⟩ | ⟨rfl, rfl, rfl⟩
  all_goals
    cases hbc' : bc
    all_goals
      rw [hbc'] at hbc htr
      clear hbc'
      first
        | (obtain rfl : ac = true := htr rfl rfl)
        | skip
      clear htr
      go_enter Tryd.func5, Tryd.ntmps5
      go_wp2_with (first
        | (go_at_call 14; refine (less_calls _ _ _).mono ?_; rintro e w' ⟨rfl, rfl⟩)
        | (go_at_call 15; refine (refless_below _ _ _ (by omega) (by omega)).mono ?_; rintro e w1 ⟨rfl, hb1⟩)
        | (go_at_call 13; refine (one_calls _ (shaped_below HS.out (by assumption))).mono ?_; rintro e w2 ⟨rfl, hb2⟩))
      go_ret
      exact ⟨rfl, hb1.trans (hb2.mono hb1.size)⟩

set_option maxHeartbeats 4000000 in
theorem namesless_walk (a b c : ByteArray) (w : World) (ha : a.size ≤ 140737488351232) (hb : b.size ≤ 140737488351232) (hc : c.size ≤ 140737488351232) (hS : w.ShapedOpen Tryd.prog) :
    Calls Tryd.prog 5 #[.string a, .string b, .string c] w fun e w' => e = .returned (.bool true) ∧ Below w.heap.size w w' := by
  by_cases hbig : 4000 < (a.size : Int) + b.size ∨ 4000 < (c.size : Int)
  · have HB := Lib.hid hbig
    clear hbig hS
    go_enter Tryd.func5, Tryd.ntmps5
    go_wp2_with fail
    all_goals first
      | (go_ret; exact ⟨rfl, Below.refl _ _⟩)
      | (exfalso
         have t : (a.size : Int) + b.size ≤ 4000 ∧ (c.size : Int) ≤ 4000 := by assumption
         have := HB.out
         omega)
  · refine namesless_core a b c w (by omega) (by omega) hS _ _ _ _ rfl rfl rfl rfl ?_ (bl_trans _ _ _)
    cases h1 : Op.bytesLess a.toList b.toList
    · cases h2 : Op.bytesLess b.toList a.toList
      · refine Or.inr (Or.inr ⟨rfl, rfl, bytes_inj2 a b ?_⟩)
        have := bl_total _ _ h1 h2
        rwa [ByteArray.toList_eq, ByteArray.toList_eq] at this
      · exact Or.inr (Or.inl ⟨rfl, rfl⟩)
    · exact Or.inl ⟨rfl, bl_asymm _ _ h1⟩
end Go.Proofs.YtnnklobbakdopaaDoor
