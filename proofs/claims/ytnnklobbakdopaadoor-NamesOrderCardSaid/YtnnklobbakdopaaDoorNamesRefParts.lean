/- The contract of coffretref09.parts: a text, parted at each slash. -/
import Derived.Test.YtnnklobbakdopaaDoorNamesKind
import Derived.OwnWalk
import Derived.RegionTactic
import Derived.ChangeAlike
import Derived.BigRegion
import Derived.Deep.AppendLies
import Derived.Deep.RegionHeld3
import Derived.BigQuiet
import Derived.Deep.QuietTactic
namespace Go.Proofs.YtnnklobbakdopaaDoor
set_option linter.unusedVariables false
set_option linter.unusedSimpArgs false
open Go.RowKit

/-- The pieces behind which a slash came, and the piece that is being gathered, of the first k bytes. -/
def partsTo (s : ByteArray) : Nat → List ByteArray × ByteArray
  | 0 => ([], ⟨#[]⟩)
  | k + 1 => if s.data.toList.getD k 0 = 47 then ((partsTo s k).1 ++ [(partsTo s k).2], ⟨#[]⟩) else ((partsTo s k).1, (partsTo s k).2 ++ s.extract k (k + 1))

theorem partsTo_le (s : ByteArray) : ∀ k, (partsTo s k).1.length ≤ k ∧ (partsTo s k).2.size ≤ k
  | 0 => ⟨Nat.le_refl _, Nat.le_refl _⟩
  | k + 1 => by
    have := partsTo_le s k
    unfold partsTo
    split
    · refine ⟨by rw [List.length_append, List.length_singleton]; omega, Nat.zero_le _⟩
    · refine ⟨by show (partsTo s k).1.length ≤ _; omega, ?_⟩
      show ((partsTo s k).2 ++ s.extract k (k + 1)).size ≤ _
      rw [ByteArray.size_append, ByteArray.size_extract]; omega

def partsOf (s : ByteArray) : List ByteArray := (partsTo s s.size).1 ++ [(partsTo s s.size).2]

theorem partsTo_slash (s : ByteArray) (k : Nat) (done : List ByteArray) (cur : ByteArray) (hlt : k < s.size) (h : (((s[k]).toNat : Int) == 47) = true) (hto : partsTo s k = (done, cur)) :
    partsTo s (k + 1) = (done ++ [cur], ⟨#[]⟩) := by
  have h47 : s.data.toList.getD k 0 = 47 := by
    have e : s.data.toList.getD k 0 = s[k] := by
      have hl : k < s.data.toList.length := by rw [Array.length_toList]; exact hlt
      simp only [List.getD, List.getElem?_eq_getElem hl, Option.getD_some]; rfl
    rw [e]
    have := eq_of_beq h
    exact UInt8.toNat_inj.1 (by show s[k].toNat = 47; omega)
  rw [partsTo, if_pos h47, hto]

theorem partsTo_other (s : ByteArray) (k : Nat) (done : List ByteArray) (cur : ByteArray) (hlt : k < s.size) (h : (((s[k]).toNat : Int) == 47) = false) (hto : partsTo s k = (done, cur)) :
    partsTo s (k + 1) = (done, cur ++ s.extract k (k + 1)) := by
  have h47 : ¬ s.data.toList.getD k 0 = 47 := by
    have e : s.data.toList.getD k 0 = s[k] := by
      have hl : k < s.data.toList.length := by rw [Array.length_toList]; exact hlt
      simp only [List.getD, List.getElem?_eq_getElem hl, Option.getD_some]; rfl
    rw [e]
    intro e2
    rw [e2] at h
    exact absurd h (by decide)
  rw [partsTo, if_neg h47, hto]

theorem Tryd.info9 : (Tryd.prog.info? 9).map (fun i => (i.zero, i.size, i.bytes)) = some (some (.string ⟨#[]⟩), 1, 16) := by kernel_rfl

set_option maxHeartbeats 1000000 in
theorem refparts_calls (s : ByteArray) (w : World) (hs : s.size ≤ 70000) :
    Calls Tryd.prog 18 #[.string s] w fun e w' => ∃ v, e = .returned v ∧ w'.ownsRow w.heap.size 9 1 v (partsOf s).length ((partsOf s).map Value.string) ∧ Below w.heap.size w w' := by
  obtain ⟨i0, hi, hz0, hz1, hz2⟩ := info_parts Tryd.info9
  go_enter Tryd.func18, Tryd.ntmps18
  go_wp2_with fail
  go_loopw [3, 4] (fun v i wr => ∃ (k : Nat) (done : List ByteArray) (cur : ByteArray), k ≤ s.size ∧ i = .int .i64 k ∧ Hid (partsTo s k = (done, cur)) ∧
      wr.ownsRow w.heap.size 9 1 v (done.length + 1) ((done ++ [cur]).map Value.string) ∧ Below w.heap.size w wr ∧ done.length ≤ k ∧ cur.size ≤ k)
    (fun _ i _ => s.size - (intOf i).toNat)
  case atStart =>
    refine ⟨0, [], ⟨#[]⟩, by omega, rfl, rfl, World.ownsRow_lit w #[.string ⟨#[]⟩] 1 (Nat.le_refl _) (by unfold maxLen; omega) rfl, (Below.refl _ _).alloc (Nat.le_refl _) _, by simp, by simp [ByteArray.size]⟩
  case round =>
    obtain ⟨k, done, cur, hk, rfl, hto, hown, hb, hl1, hl2⟩ := hrel
    obtain ⟨g, cap, rfl, hg1, hg2⟩ := hown.form (by omega)
    by_cases hlt : k < s.size
    · have hcell := hown.cellAt done.length (by omega)
      have hfr := hown.frozenAt done.length
      rw [show ((done ++ [cur]).map Value.string)[done.length]? = some (.string cur) by simp] at hcell
      go_wp2_with (at_builtin; refine wpList_append_own _ rfl (.tmp 16) (.tmp 17) 22 rfl w.heap.size 9 i0 (.string ⟨#[]⟩) 1 16 Tryd.underlying22 hi hz0 hz1 hz2 rfl (by decide) _ _ _ rfl (hown.alloc _) ⟨wr.heap.size, 0, none⟩ 1 1 [.string ⟨#[]⟩] rfl rfl ?c1 ?c2 ?c3 ?c4 ?c5 ?_)
      case c1 =>
        intro j u hj
        match j, hj with
        | 0, hj => simp at hj; subst hj; simp [Addr.add]
      case c2 => intro u hu; simp at hu; subst hu; rfl
      case c3 => unfold maxLen; omega
      case c4 => omega
      case c5 => simp; omega
      · intro v' w1 hown' hgrow _
        have hb1 : Below w.heap.size w w1 := (hb.alloc hb.size _).grown hgrow (by simp; omega) (by intro k hk; simp [Value.ownBlock] at hk; omega)
        have hown2 : w1.ownsRow w.heap.size 9 1 v' ((done ++ [cur]).length + 1) (((done ++ [cur]) ++ [(⟨#[]⟩ : ByteArray)]).map Value.string) := by
          rw [List.length_append, List.length_singleton]
          simpa using hown'
        clear hown hown' hgrow hcell hfr
        have hs47 : (((s[k]).toNat : Int) == 47) = true := by assumption
        go_wp2_with fail
        go_roundw
        case rel => exact ⟨k + 1, done ++ [cur], ⟨#[]⟩, by omega, by go_num, partsTo_slash s k done cur hlt hs47 hto.out, hown2, hb1, by simp; omega, by simp [ByteArray.size]⟩
        case measure => simp [intOf]; omega
      · have e1 : (0 : Int) ≤ k := by omega
        have e2 : (k : Int) ≤ k + 1 := by omega
        have e3 : (k : Int) + 1 ≤ s.size := by omega
        have e4 : ((k : Int) + 1).toNat = k + 1 := by omega
        have hs47 : (((s[k]).toNat : Int) == 47) = false := by assumption
        go_region
        have hst := hown.stored done.length (.string (cur ++ s.extract k (k + 1)))
        have hown2 : (wr.setCell ⟨g, done.length, none⟩ (.string (cur ++ s.extract k (k + 1)))).ownsRow w.heap.size 9 1 (.slice (some ⟨g, 0, none⟩) (done.length + 1) cap) (done.length + 1) ((done ++ [cur ++ s.extract k (k + 1)]).map Value.string) := by
          have h := hst.1
          rwa [show ((done ++ [cur]).map Value.string).set done.length (.string (cur ++ s.extract k (k + 1))) = (done ++ [cur ++ s.extract k (k + 1)]).map Value.string by
            rw [List.map_append, List.map_append, List.set_append_right _ _ (by simp)]; simp] at h
        have hb1 : Below w.heap.size w ((wr.setCell ⟨g, done.length, none⟩ (.string (cur ++ s.extract k (k + 1)))).drew) := (hb.setCell hg1 _).drew
        clear hst hown hcell hfr
        go_wp2_with fail
        go_roundw
        case rel => exact ⟨k + 1, done, cur ++ s.extract k (k + 1), by omega, by go_num, partsTo_other s k done cur hlt hs47 hto.out, hown2, hb1, by omega, by rw [ByteArray.size_append, ByteArray.size_extract]; omega⟩
        case measure => simp [intOf]; omega
    · have hks : k = s.size := by omega
      have hpo : partsOf s = done ++ [cur] := by rw [partsOf, ← hks, hto.out]
      have HPO := Lib.hid hpo
      clear hpo hks
      go_wp2_with fail
      go_ret
      refine ⟨_, rfl, ?_, hb⟩
      rw [HPO.out, List.length_append, List.length_singleton]
      exact hown
end Go.Proofs.YtnnklobbakdopaaDoor
