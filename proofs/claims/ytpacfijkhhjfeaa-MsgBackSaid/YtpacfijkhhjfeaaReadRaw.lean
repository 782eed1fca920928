/- (*Reader).Raw, Wrong, Sized. -/
import Derived.Test.YtpacfijkhhjfeaaReadNum
import Derived.Test.YtpacfijkhhjfeaaErrIs
namespace Go.Proofs.Ytpacfijkhhjfeaa
set_option linter.unusedVariables false
set_option linter.unusedSimpArgs false
open Go.RowKit
variable {lo : Nat}

theorem grown_below {w w1 w2 : World} {r : Option Nat} {B : Nat} (h : w.grownBy w1 r) (hb : Below B w1 w2) (hB : w.heap.size ≤ B) : w.grownBy w2 r :=
  ⟨hb.os.trans h.os, hb.tape.trans h.tape, hb.output.trans h.output, Nat.le_trans h.size hb.size, fun k hk hne => (hb.block k (Nat.lt_of_lt_of_le hk hB)).trans (h.block k hk hne)⟩
theorem grown_grown {w w1 w2 : World} {r : Option Nat} (h : w.grownBy w1 r) (hb : w1.grownBy w2 r) : w.grownBy w2 r :=
  ⟨hb.os.trans h.os, hb.tape.trans h.tape, hb.output.trans h.output, Nat.le_trans h.size hb.size, fun k hk hne => (hb.block k (Nat.lt_of_lt_of_le hk h.size) hne).trans (h.block k hk hne)⟩

theorem gotL_byte {n : Int} {l : List Int} {e : Int} (h : isByte l) : isByte (gotL n l e) := by
  unfold gotL; split
  · exact h.take _
  · exact isByte.nil
theorem restL_byte {n : Int} {l : List Int} {e : Int} (h : isByte l) : isByte (restL n l e) := by
  unfold restL; split
  · exact h
  · split
    · exact h.drop _
    · exact isByte.nil
theorem gotL_le (n : Int) (l : List Int) (e : Int) : (gotL n l e).length ≤ l.length := by
  unfold gotL; split
  · rw [List.length_take]; exact Nat.min_le_right _ _
  · exact Nat.zero_le _
theorem restL_le (n : Int) (l : List Int) (e : Int) : (restL n l e).length ≤ l.length := by
  unfold restL; split
  · exact Nat.le_refl _
  · split
    · rw [List.length_drop]; exact Nat.sub_le _ _
    · exact Nat.zero_le _

set_option maxHeartbeats 1000000 in
set_option maxRecDepth 100000 in
theorem raw_calls (g : Nat) (l : List Int) (e n : Int) (w : World) (h : RdAt lo w g l e) (hl : l.length ≤ 2 ^ 46) :
    Calls Try.prog 51 #[.pointer (some ⟨g, 0, none⟩), .int .i64 n] w fun x w' => ∃ v', x = .returned v' ∧ owns w' w.heap.size v' (gotL n l e) ∧ RdAt lo w' g (restL n l e) (wrongL n l e) ∧ w.grownBy w' (some g) := by
  have H := Lib.hid h
  have HL := Lib.hid hl
  clear h hl
  go_enter Try.func51, Try.ntmps51
  go_wp2_with fail
  refine (rtake_calls g l e n w H.out HL.out).mono ?_
  rintro x w1 ⟨out, b, rfl, hrow, hnil, hlt, hr, hg, hs⟩
  have HR := Lib.hid hr
  have HG := Lib.hid hg
  have HS := Lib.hid hs
  have HROW := Lib.hid hrow
  have HN := Lib.hid hnil
  clear hr hg hs hrow hnil hlt
  go_wp2_with fail
  refine (clone_calls out _ w1 HROW.out HN.out (Nat.le_trans (gotL_le _ _ _) HL.out)).mono ?_
  rintro x w2 ⟨v2, rfl, ho, hg2, -⟩
  have HO := Lib.hid ho
  have HG2 := Lib.hid (below_of_grown hg2)
  clear ho hg2
  go_wp2_with fail
  go_ret
  have h1 := HS.out
  exact ⟨_, rfl, by rw [← HS.out]; exact HO.out, HR.out.kept (HG2.out.mono HR.out.lt), grown_below HG.out HG2.out (by omega)⟩

set_option maxHeartbeats 1000000 in
set_option maxRecDepth 100000 in
theorem wrong_calls (g : Nat) (l : List Int) (e : Int) (w : World) (h : RdAt lo w g l e) (he : e = 0 ∨ e = 3 ∨ e = 10) :
    Calls Try.prog 43 #[.pointer (some ⟨g, 0, none⟩)] w fun x w' => x = .returned (.int .i64 e) ∧ w = w' := by
  have H := Lib.hid h
  obtain ⟨v, h1, -⟩ := h
  have hc := cell_of_row _ _ 1 _ _ _ h1
  clear h1
  rcases he with rfl | rfl | rfl
  · clear hc
    go_enter Try.func43, Try.ntmps43
    go_wp2_with fail
    refine (fine_calls g l 0 w H.out).mono ?_
    rintro x w1 ⟨rfl, rfl⟩
    rw [decide_eq_true rfl]
    go_wp2_with fail
    go_ret
    exact ⟨rfl, rfl⟩
  · have hc1 : w.cell? ⟨g, 1, none⟩ = some (.iface 31 (.int .i64 3)) := hc
    clear hc
    go_enter Try.func43, Try.ntmps43
    go_wp2_with fail
    refine (fine_calls g l 3 w H.out).mono ?_
    rintro x w1 ⟨rfl, rfl⟩
    rw [decide_eq_false (by decide)]
    go_wp2_with fail
    refine (errors_is_calls 3 3 w).mono ?_
    rintro x w1 ⟨rfl, rfl⟩
    rw [show ((3 : Int) == 3) = true from rfl]
    go_wp2_with fail
    go_ret
    exact ⟨rfl, rfl⟩
  · have hc1 : w.cell? ⟨g, 1, none⟩ = some (.iface 31 (.int .i64 10)) := hc
    clear hc
    go_enter Try.func43, Try.ntmps43
    go_wp2_with fail
    refine (fine_calls g l 10 w H.out).mono ?_
    rintro x w1 ⟨rfl, rfl⟩
    rw [decide_eq_false (by decide)]
    go_wp2_with fail
    refine (errors_is_calls 10 3 w).mono ?_
    rintro x w1 ⟨rfl, rfl⟩
    rw [show ((10 : Int) == 3) = false from rfl]
    go_wp2_with fail
    go_ret
    exact ⟨rfl, rfl⟩

/-- what a sized text is, what is left, what is wrong then -/
def sizedGot (l : List Int) (e : Int) : List Int := if numOf (gotL 4 l e) ≤ 65536 then gotL (numOf (gotL 4 l e)) (restL 4 l e) (wrongL 4 l e) else []
def sizedRest (l : List Int) (e : Int) : List Int := if numOf (gotL 4 l e) ≤ 65536 then restL (numOf (gotL 4 l e)) (restL 4 l e) (wrongL 4 l e) else []
def sizedWrong (l : List Int) (e : Int) : Int := if numOf (gotL 4 l e) ≤ 65536 then wrongL (numOf (gotL 4 l e)) (restL 4 l e) (wrongL 4 l e) else 3

set_option maxHeartbeats 1000000 in
set_option maxRecDepth 100000 in
theorem rsized_calls (g : Nat) (l : List Int) (e : Int) (w : World) (h : RdAt lo w g l e) (hl : l.length ≤ 2 ^ 46) (hb : isByte l) :
    Calls Try.prog 44 #[.pointer (some ⟨g, 0, none⟩)] w fun x w' => ∃ v', x = .returned v' ∧ owns w' w.heap.size v' (sizedGot l e) ∧ RdAt lo w' g (sizedRest l e) (sizedWrong l e) ∧ w.grownBy w' (some g) := by
  have H := Lib.hid h
  have HL := Lib.hid hl
  have HB := Lib.hid hb
  clear h hl hb
  obtain ⟨n, hn⟩ : ∃ n, n = numOf (gotL 4 l e) := ⟨_, rfl⟩
  have hn0 : 0 ≤ n := by rw [hn]; exact (numOf_bd _ _ rfl (gotL_byte HB.out)).1
  have HN := Lib.hid hn
  clear hn
  by_cases hbig : n ≤ 65536
  all_goals
    go_enter Try.func44, Try.ntmps44
    go_wp2_with fail
    refine (num_calls g l e 4 w H.out HL.out HB.out (by decide) (by decide)).mono ?_
    rintro x w1 ⟨rfl, hr, hg, hs⟩
    have HR := Lib.hid hr
    have HG := Lib.hid hg
    have HS := Lib.hid hs
    clear hr hg hs
    rw [← show n = numOf (gotL ((4 : Nat) : Int) l e) from HN.out]
    go_wp2_with fail
  · refine (raw_calls g _ _ n w1 HR.out (Nat.le_trans (restL_le _ _ _) HL.out)).mono ?_
    rintro x w2 ⟨v2, rfl, ho, hr2, hg2⟩
    have HO := Lib.hid ho
    have HR2 := Lib.hid hr2
    have HG2 := Lib.hid hg2
    clear ho hr2 hg2
    go_wp2_with fail
    go_ret
    refine ⟨_, rfl, ?_, ?_, grown_grown HG.out HG2.out⟩
    · unfold sizedGot; rw [← HN.out, if_pos hbig, ← HS.out]; exact HO.out
    · unfold sizedRest sizedWrong; rw [← HN.out, if_pos hbig, if_pos hbig]; exact HR2.out
  · refine (fail_calls g _ _ 3 (by decide) w1 HR.out).mono ?_
    rintro x w2 ⟨rfl, hr2, hg2, hs2⟩
    have HR2 := Lib.hid hr2
    have HG2 := Lib.hid hg2
    clear hr2 hg2 hs2
    go_wp2_with fail
    go_ret
    refine ⟨_, rfl, ?_, ?_, grown_grown HG.out HG2.out⟩
    · unfold sizedGot; rw [← HN.out, if_neg (by omega)]; exact World.ownsRow_nil _ _ _ _
    · unfold sizedRest sizedWrong; rw [← HN.out, if_neg (by omega), if_neg (by omega)]; exact HR2.out
end Go.Proofs.Ytpacfijkhhjfeaa
