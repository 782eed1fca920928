/- The contracts of names.Part, names.all, names.Kind and names.Path. -/
import Derived.Test.YtnnklobbakdopaaDoorNamesGood
namespace Go.Proofs.YtnnklobbakdopaaDoor
set_option linter.unusedVariables false
set_option linter.unusedSimpArgs false
open Go.RowKit

def partB (s : ByteArray) : Bool :=
  !s.toList.isEmpty && !(s.toList == [46]) && !(s.toList == [46, 46]) && decide (s.size ≤ 64) && !(Lib.contains s.data.toList [47]) && !(Lib.contains s.data.toList [0])

theorem ret_bool {a b : Bool} (h : a = b) : Ending.returned (.bool a) = .returned (.bool b) := by rw [h]

set_option maxHeartbeats 400000 in
theorem part_calls (s : ByteArray) (w : World) (hs : s.size < 4294967281) (hS : w.ShapedOpen Tryd.prog) :
    Calls Tryd.prog 11 #[.string s] w fun e w' => e = .returned (.bool (partB s)) ∧ w = w' := by
  have HS := Lib.hid hS; clear hS
  go_enter Tryd.func11, Tryd.ntmps11
  go_wp2_with (go_at_call 22; refine (Tryd.strings_Contains_shaped _ _ _ HS.out (by omega)).mono ?_; rintro e w' ⟨rfl, rfl⟩)
  all_goals
    go_ret
    refine ⟨ret_bool ?_, rfl⟩
    clear HS hs
    first
      | (have h64 : s.size ≤ 64 := by omega
         simp [partB, *]; done)
      | (simp [partB, *]; done)
      | (simp [partB, *]; omega)

def slashB (s : ByteArray) : List ByteArray := Lib.splitB ⟨#[47]⟩ 0 (Lib.countB s ⟨#[47]⟩) s

theorem slashB_length (s : ByteArray) : (slashB s).length = Lib.countB s ⟨#[47]⟩ + 1 := Lib.splitB_all ⟨#[47]⟩ (by simp [ByteArray.size]) 0 _ s rfl

theorem splitB_size (sep : ByteArray) : ∀ (k : Nat) (s p : ByteArray), p ∈ Lib.splitB sep 0 k s → p.size ≤ s.size
  | 0, s, p, h => by simp [Lib.splitB] at h; subst h; exact Nat.le_refl _
  | k + 1, s, p, h => by
    unfold Lib.splitB at h
    split at h
    · simp at h; subst h; exact Nat.le_refl _
    · rcases List.mem_cons.1 h with rfl | h
      · rw [ByteArray.size_extract]; omega
      · have := splitB_size sep k _ p h
        rw [ByteArray.size_extract] at this; omega

theorem slash_cell (s : ByteArray) (w : World) (k : Nat) (hk : k < (slashB s).length) :
    (w.alloc (.cells ((slashB s).map Value.string).toArray 9)).cell? ⟨w.heap.size, k, none⟩ = some (.string ((slashB s)[k])) := by
  rw [World.cell?_alloc_new]
  simp [hk]

theorem take_all_snoc {α : Type} (f : α → Bool) (l : List α) (k : Nat) (hk : k < l.length) (h : (l.take k).all f = true) : (l.take (k + 1)).all f = f l[k] := by
  rw [List.take_succ_eq_append_getElem hk, List.all_append, h]
  simp

theorem all_false {α : Type} (f : α → Bool) (l : List α) (k : Nat) (hk : k < l.length) (h : f l[k] = false) : l.all f = false := by
  rw [Bool.eq_false_iff]
  intro ha
  have := List.all_eq_true.1 ha l[k] (List.getElem_mem hk)
  rw [h] at this
  exact absurd this (by simp)

set_option maxHeartbeats 400000 in
theorem all_calls (F : FuncId) (hFF : F = 19 ∨ F = 11) (f : ByteArray → Bool) (s : ByteArray) (w : World) (hs : s.size < 4294967281) (hS : w.ShapedOpen Tryd.prog)
    (hF : Hid (∀ (p : ByteArray) (u : World), p.size < 4294967281 → u.ShapedOpen Tryd.prog → Calls Tryd.prog F #[.string p] u fun e u' => e = .returned (.bool (f p)) ∧ Below u.heap.size u u')) :
    Calls Tryd.prog 16 #[.string s, .func (.func F) #[] #[]] w fun e w' => e = .returned (.bool ((slashB s).all f)) ∧ Below w.heap.size w w' := by
  rcases hFF with rfl | rfl
  all_goals
    have HS := Lib.hid hS
    have hn := slashB_length s
    have hn63 := Lib.countB_le ⟨#[47]⟩ (by simp [ByteArray.size]) s.size s (Nat.le_refl _)
    have HN := Lib.hid hn
    clear hS hn
    go_enter Tryd.func16, Tryd.ntmps16
    go_wp2_with fail
    refine (Tryd.strings_Split_shaped _ _ _ HS.out hs (by simp [ByteArray.size])).mono ?_
    rintro e w' ⟨rfl, hw'⟩
    have hc0 : ∀ k, k < (slashB s).length → w'.cell? ⟨w.heap.size, k, none⟩ = some (.string ((slashB s).getD k ByteArray.empty)) := fun k hk => by
      rw [hw']
      refine (slash_cell s w k hk).trans ?_
      simp [hk]
    have hb0 : Below w.heap.size w w' := by rw [hw']; exact (Below.refl _ _).alloc (Nat.le_refl _) _
    have hsz0 : w.heap.size < w'.heap.size := by rw [hw']; simp
    have HC0 := Lib.hid hc0
    clear hw' hc0
    go_wp2_with fail
    go_loopw [10] (fun i wr => ∃ k : Nat, k ≤ Lib.countB s ⟨#[47]⟩ + 1 ∧ i = .int .i64 k ∧ Below w'.heap.size w' wr ∧ Hid (((slashB s).take k).all f = true)) (fun i _ => Lib.countB s ⟨#[47]⟩ + 1 - (intOf i).toNat)
    case atStart => exact ⟨0, by omega, rfl, Below.refl _ _, rfl⟩
    case round =>
      obtain ⟨k, hk, rfl, hbw, hall⟩ := hrel
      have HSr := Lib.hid (shaped_below HS.out (hb0.trans (hbw.mono (by omega))))
      by_cases hlt : k < Lib.countB s ⟨#[47]⟩ + 1
      · have hcell : wr.cell? ⟨w.heap.size, k, none⟩ = some (.string ((slashB s).getD k ByteArray.empty)) := by
          rw [hbw.cell (p := ⟨w.heap.size, k, none⟩) hsz0]; exact HC0.out k (by rw [HN.out]; omega)
        have hpz : ((slashB s).getD k ByteArray.empty).size < 4294967281 := by
          have hkl : k < (slashB s).length := by rw [HN.out]; omega
          have hm : (slashB s).getD k ByteArray.empty ∈ slashB s := by simp [List.getD, hkl]
          have := splitB_size _ _ _ _ hm
          omega
        generalize hgp : (slashB s).getD k ByteArray.empty = p at hcell hpz
        have HP := Lib.hid hgp
        clear hgp
        go_wp2_with fail
        refine (hF.out _ _ hpz HSr.out).mono ?_
        rintro e W1 ⟨rfl, hb1⟩
        clear hcell
        have hbw3 : Below w'.heap.size w' W1 := hbw.trans (hb1.mono hbw.size)
        have hb3 : Below w.heap.size w W1 := hb0.trans (hbw3.mono (by omega))
        have hkl : k < (slashB s).length := by rw [HN.out]; omega
        have hpk : (slashB s)[k] = p := by rw [← HP.out]; simp [List.getD, hkl]
        have HPK := Lib.hid hpk
        clear hpk
        go_wp2_with fail
        · have hl : (!f p) = true := by assumption
          go_ret
          refine ⟨ret_bool ?_, hb3⟩
          rw [all_false f (slashB s) k hkl (by rw [HPK.out]; simpa using hl)]
        · have hl : (!f p) = false := by assumption
          refine ⟨⟨k + 1, by omega, by go_num, hbw3, ?_⟩, by simp [intOf]; omega⟩
          show ((slashB s).take (k + 1)).all f = true
          rw [take_all_snoc f (slashB s) k hkl hall.out, HPK.out]
          simpa using hl
      · have hall2 : (slashB s).all f = true := by
          have h := hall.out
          rwa [List.take_of_length_le (by rw [HN.out]; omega)] at h
        have HA := Lib.hid hall2
        clear hall2
        go_wp2_with fail
        go_ret
        exact ⟨ret_bool HA.out.symm, hb0.trans (hbw.mono (by omega))⟩

end Go.Proofs.YtnnklobbakdopaaDoor
