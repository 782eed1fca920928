/- The walk of NamesTell. -/
import Derived.Test.YtnnklobbakdopaaDoorNamesLessWalk
namespace Go.Proofs.YtnnklobbakdopaaDoor
set_option linter.unusedVariables false
set_option linter.unusedSimpArgs false
open Go.RowKit

/-- names.Path where it tells parts, in the document's words. -/
theorem path_yes2 (s : ByteArray) (w : World) (hS : w.ShapedOpen Tryd.prog) (hyes : refPathOk s = true) :
    Calls Tryd.prog 7 #[.string s] w fun e w' => ∃ b, e = .returned (.tuple #[.slice (some ⟨b, 0, none⟩) (partsOf s).length (partsOf s).length, .bool true]) ∧ b < w'.heap.size ∧ (∀ k, k < (partsOf s).length → w'.cell? ⟨b, k, none⟩ = some (.string ((partsOf s).getD k ⟨#[]⟩))) ∧ Below w.heap.size w w' := by
  rw [← path_same] at hyes
  refine (path_yes s w hS hyes).mono ?_
  rintro e w' ⟨b, _, rfl, hc, hb⟩
  rw [parts_same] at hc ⊢
  exact ⟨b, rfl, World.block_lt_of_cell? _ _ (hc 0 (partsOf_pos s)), hc, hb⟩

theorem refpath_yes (s : ByteArray) (w : World) (hs : s.size ≤ 70000) (hyes : refPathOk s = true) :
    Calls Tryd.prog 8 #[.string s] w fun e w' => ∃ g cap, e = .returned (.tuple #[.slice (some ⟨g, 0, none⟩) (partsOf s).length cap, .bool true]) ∧ g < w'.heap.size ∧ (∀ k, k < (partsOf s).length → w'.cell? ⟨g, k, none⟩ = some (.string ((partsOf s).getD k ⟨#[]⟩))) ∧ Below w.heap.size w w' := by
  refine (refpath_calls s w hs).mono ?_
  rintro e w' ⟨hb, h⟩
  obtain ⟨v, rfl, hown⟩ := h.2 hyes
  obtain ⟨g, cap, rfl, _, hg⟩ := hown.form (partsOf_pos s)
  refine ⟨g, cap, rfl, hg, fun k hk => ?_, hb⟩
  rw [hown.cellAt k (by omega)]; simp [hk]

theorem kind_calls2 (s : ByteArray) (w : World) (hs : s.size < 4294967281) (hS : w.ShapedOpen Tryd.prog) :
    Calls Tryd.prog 9 #[.string s] w fun e w' => e = .returned (.int .i64 (refKindV s)) ∧ Below w.heap.size w w' := by
  rw [← kind_same]; exact kind_calls s w hs hS
theorem part_calls2 (s : ByteArray) (w : World) (hs : s.size < 4294967281) (hS : w.ShapedOpen Tryd.prog) :
    Calls Tryd.prog 11 #[.string s] w fun e w' => e = .returned (.bool (refPartB s)) ∧ w = w' := by
  rw [← part_same]; exact part_calls s w hs hS

set_option maxHeartbeats 800000 in
theorem namestell_walk (s : ByteArray) (w : World) (hs : s.size ≤ 140737488351232) (hS : w.ShapedOpen Tryd.prog) :
    Calls Tryd.prog 3 #[.string s] w fun e w' => e = .returned (.bool true) ∧ Below w.heap.size w w' := by
  have HS := Lib.hid hS; clear hS
  have hcase : ∃ p : ByteArray, p.size ≤ 3000 ∧ (((3000 : Int) < s.size ∧ s.extract 0 3000 = p) ∨ ((s.size : Int) ≤ 3000 ∧ p = s)) := by
    by_cases hlong : 3000 < (s.size : Int)
    · exact ⟨_, by rw [ByteArray.size_extract]; omega, Or.inl ⟨hlong, rfl⟩⟩
    · exact ⟨s, by omega, Or.inr ⟨by omega, rfl⟩⟩
  obtain ⟨p, hpz, hcase⟩ := hcase
  rcases hcase with ⟨hl3, hp⟩ | ⟨hl3, rfl⟩
  all_goals
    cases hok : refPathOk p
    · have hok2 : pathOk p = false := by rw [path_same]; exact hok
      have HOK := Lib.hid hok
      have HOK2 := Lib.hid hok2
      clear hok hok2
      go_enter Tryd.func3, Tryd.ntmps3
      go_wp2_with fail
      refine (path_no p w (by omega) HS.out HOK2.out).mono ?_
      rintro e w1 ⟨rfl, hb1⟩
      go_wp2_with fail
      refine (refpath_calls p w1 (by omega)).mono ?_
      rintro e w2 ⟨hb2, he⟩
      obtain rfl := he.1 HOK.out
      clear he
      go_wp2_with fail
      go_loop [7] (fun i => i = .int .i64 0) (fun _ => 0)
      case atStart => rfl
      case round =>
        obtain rfl := hrel
        have hbw0 := hb1.trans (hb2.mono hb1.size)
        go_wp2_with fail
        refine (kind_calls2 p w2 (by omega) (shaped_below HS.out hbw0)).mono ?_
        rintro e w3 ⟨rfl, hb3⟩
        have hbw3 := hbw0.trans (hb3.mono hbw0.size)
        go_wp2_with fail
        refine (refkind_calls p w3 (by omega)).mono ?_
        rintro e w4 ⟨rfl, hb4⟩
        have hbw4 := hbw3.trans (hb4.mono hbw3.size)
        go_wp2_with fail
        refine (part_calls2 p w4 (by omega) (shaped_below HS.out hbw4)).mono ?_
        rintro e w5 ⟨rfl, rfl⟩
        go_wp2_with fail
        refine (refpart_calls p _).mono ?_
        rintro e w5 ⟨rfl, rfl⟩
        go_wp2_with fail
        refine (one_calls _ (shaped_below HS.out hbw4)).mono ?_
        rintro e w5 ⟨rfl, hb5⟩
        go_wp2_with fail
        go_ret
        exact ⟨rfl, hbw4.trans (hb5.mono hbw4.size)⟩
    · have HOK := Lib.hid hok
      clear hok
      have hl1 := partsOf_pos p
      have hl2 := partsOf_len p
      go_enter Tryd.func3, Tryd.ntmps3
      go_wp2_with fail
      refine (path_yes2 p w HS.out HOK.out).mono ?_
      rintro e w1 ⟨b, rfl, hbw, hc1, hb1⟩
      have HC1 := Lib.hid hc1; clear hc1
      go_wp2_with fail
      refine (refpath_yes p w1 (by omega) HOK.out).mono ?_
      rintro e w2 ⟨g, cap, rfl, hgw, hc2, hb2⟩
      have HC2 := Lib.hid hc2; clear hc2
      go_wp2_with fail
      go_loopw [7] (fun i wr => ∃ k n : Nat, k ≤ (partsOf p).length ∧ i = .int .i64 k ∧ wr = w2.drewN n) (fun i _ => (partsOf p).length - (intOf i).toNat)
      case atStart => exact ⟨0, 0, by omega, rfl, rfl⟩
      case round =>
        obtain ⟨k, n, hk, rfl, rfl⟩ := hrel
        have hbw0 := (hb1.trans (hb2.mono hb1.size)).trans ((drewN_below w2 n).mono (Nat.le_trans hb1.size hb2.size))
        by_cases hlt : k < (partsOf p).length
        · have e1 := (hb2.cell (p := ⟨b, k, none⟩) hbw).trans (HC1.out k hlt)
          have e2 := HC2.out k hlt
          generalize (partsOf p).getD k ⟨#[]⟩ = x at e1 e2
          go_wp2_with fail
          go_region
          go_wp2_with fail
          go_roundw
          case rel => exact ⟨k + 1, n + 1, by omega, by go_num, rfl⟩
          case measure => simp [intOf]; omega
        · go_wp2_with fail
          refine (kind_calls2 p (w2.drewN n) (by omega) (shaped_below HS.out hbw0)).mono ?_
          rintro e w3 ⟨rfl, hb3⟩
          have hbw3 := hbw0.trans (hb3.mono hbw0.size)
          go_wp2_with fail
          refine (refkind_calls p w3 (by omega)).mono ?_
          rintro e w4 ⟨rfl, hb4⟩
          have hbw4 := hbw3.trans (hb4.mono hbw3.size)
          go_wp2_with fail
          refine (part_calls2 p w4 (by omega) (shaped_below HS.out hbw4)).mono ?_
          rintro e w5 ⟨rfl, rfl⟩
          go_wp2_with fail
          refine (refpart_calls p _).mono ?_
          rintro e w5 ⟨rfl, rfl⟩
          go_wp2_with fail
          refine (one_calls _ (shaped_below HS.out hbw4)).mono ?_
          rintro e w5 ⟨rfl, hb5⟩
          go_wp2_with fail
          go_ret
          exact ⟨rfl, hbw4.trans (hb5.mono hbw4.size)⟩
end Go.Proofs.YtnnklobbakdopaaDoor
