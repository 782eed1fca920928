/- The walk of NamesOrder. -/
import Derived.Test.YtnnklobbakdopaaDoorNamesLessWalk
namespace Go.Proofs.YtnnklobbakdopaaDoor
set_option linter.unusedVariables false
set_option linter.unusedSimpArgs false
open Go.RowKit

theorem bl_ahead : ∀ m a b : List UInt8, Op.bytesLess (m ++ a) (m ++ b) = Op.bytesLess a b
  | [], _, _ => rfl
  | x :: m, a, b => by
    have hx : ¬ x < x := by simp [UInt8.lt_iff_toNat_lt]
    simp [Op.bytesLess, bl_ahead m a b, hx]

theorem bl_behind : ∀ a m : List UInt8, Op.bytesLess a (a ++ m) = !m.isEmpty
  | [], [] => rfl
  | [], _ :: _ => rfl
  | x :: a, m => by
    have hx : ¬ x < x := by simp [UInt8.lt_iff_toNat_lt]
    simp [Op.bytesLess, bl_behind a m, hx]

theorem toList_app (a b : ByteArray) : (a ++ b).toList = a.toList ++ b.toList := by
  rw [ByteArray.toList_eq, ByteArray.toList_eq, ByteArray.toList_eq, ByteArray.data_append, Array.toList_append]

set_option maxHeartbeats 4000000 in
theorem namesorder_core (a b m : ByteArray) (w : World) (h1 : (a.size : Int) + b.size ≤ 3000) (h2 : (m.size : Int) ≤ 1000) (HS : Hid (w.ShapedOpen Tryd.prog))
    (ab ba me : Bool) (hab : Op.bytesLess a.toList b.toList = ab) (hba : Op.bytesLess b.toList a.toList = ba) (haa : Op.bytesLess a.toList a.toList = false)
    (hm1 : Op.bytesLess (m ++ a).toList (m ++ b).toList = ab) (hm2 : Op.bytesLess a.toList (a ++ m).toList = !me) (hme : m.toList.isEmpty = me)
    (hcase : (ab = true ∧ ba = false ∧ (a.toList == b.toList) = false) ∨ (ab = false ∧ ba = true ∧ (a.toList == b.toList) = false) ∨ (ab = false ∧ ba = false ∧ (a.toList == b.toList) = true)) :
    Calls Tryd.prog 6 #[.string a, .string b, .string m] w fun e w' => e = .returned (.bool true) ∧ Below w.heap.size w w' := by
  rcases hcase with ⟨rfl, rfl, hne⟩ | ⟨rfl, rfl, hne⟩ | ⟨rfl, rfl, hne⟩
  all_goals
    cases me
    all_goals
      go_enter Tryd.func6, Tryd.ntmps6
      go_wp2_with (first
        | (go_at_call 14; refine (less_calls _ _ _).mono ?_; rintro e w' ⟨rfl, rfl⟩)
        | (go_at_call 13; refine (one_calls _ HS.out).mono ?_; rintro e w2 ⟨rfl, hb2⟩))
      go_ret
      exact ⟨rfl, hb2⟩

set_option maxHeartbeats 4000000 in
theorem namesorder_walk (a b m : ByteArray) (w : World) (ha : a.size ≤ 140737488351232) (hb : b.size ≤ 140737488351232) (hc : m.size ≤ 140737488351232) (hS : w.ShapedOpen Tryd.prog) :
    Calls Tryd.prog 6 #[.string a, .string b, .string m] w fun e w' => e = .returned (.bool true) ∧ Below w.heap.size w w' := by
  by_cases hbig : 3000 < (a.size : Int) + b.size ∨ 1000 < (m.size : Int)
  · have HB := Lib.hid hbig
    clear hbig hS
    go_enter Tryd.func6, Tryd.ntmps6
    go_wp2_with fail
    all_goals first
      | (go_ret; exact ⟨rfl, Below.refl _ _⟩)
      | (exfalso
         have t : (a.size : Int) + b.size ≤ 3000 ∧ (m.size : Int) ≤ 1000 := by assumption
         have := HB.out
         omega)
  · refine namesorder_core a b m w (by omega) (by omega) hS _ _ _ rfl rfl (bl_irrefl _) (by rw [toList_app, toList_app, bl_ahead]) (by rw [toList_app, bl_behind]) rfl ?_
    cases h1 : Op.bytesLess a.toList b.toList
    · cases h2 : Op.bytesLess b.toList a.toList
      · refine Or.inr (Or.inr ⟨rfl, rfl, ?_⟩)
        rw [bl_total _ _ h1 h2]; exact beq_self_eq_true _
      · refine Or.inr (Or.inl ⟨rfl, rfl, ?_⟩)
        refine beq_eq_false_iff_ne.2 fun e => ?_
        rw [e, bl_irrefl] at h2; cases h2
    · refine Or.inl ⟨rfl, bl_asymm _ _ h1, ?_⟩
      refine beq_eq_false_iff_ne.2 fun e => ?_
      rw [e, bl_irrefl] at h1; cases h1
end Go.Proofs.YtnnklobbakdopaaDoor
