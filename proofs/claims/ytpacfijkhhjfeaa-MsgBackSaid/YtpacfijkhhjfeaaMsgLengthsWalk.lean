/- coffretlaw20.MsgLengths: the walk. -/
import Derived.Test.YtpacfijkhhjfeaaMsgOne
import Derived.Test.YtpacfijkhhjfeaaMsgOpen
namespace Go.Proofs.Ytpacfijkhhjfeaa
set_option linter.unusedVariables false
set_option linter.unusedSimpArgs false
open Go.RowKit

/-- PutRequest, whatever it is of: bytes of the right length, or none and an error -/
theorem put_request_any (c : Core) (an ad : Option Addr) (cn cd : Nat) (ns : List (List Int)) (d : List Int) (w0 w : World) (h : ArgOk w0 c an ad cn cd ns d) (hb : Below w0.heap.size w0 w) :
    Calls Try.prog 6 #[.agg (requestCells c (.slice an ns.length cn) (.slice ad d.length cd)).toArray] w fun e w' => ∃ (a : Option Addr) (n cp : Nat) (x : Int), e = .returned (.tuple #[.slice a n cp, .int .i64 x]) ∧ Below w.heap.size w w' ∧
      (x = 2 ∧ n = 0 ∨ x = 0 ∧ n = 52 + 16 * ns.length + d.length ∧ ns.length ≤ 128 ∧ d.length ≤ 8192) := by
  cases hm : mayBe c 1 6 ns.length d.length with
  | false =>
    refine (put_request_no c an ad cn cd ns d w h.name h.small hm).mono ?_
    rintro e w' ⟨rfl, hb'⟩
    exact ⟨none, 0, 0, 2, rfl, hb', .inl ⟨rfl, rfl⟩⟩
  | true =>
    have hbd := mayBe_bd hm
    refine (put_request_yes c an ad cn cd ns d w h.name h.small h.id h.gen (h.names.below hb (Nat.le_refl _)) (h.data.below hb (Nat.le_refl _)) h.dataN h.nameB h.namesB h.dataB hm).mono ?_
    rintro e w' ⟨v', rfl, ho, hb'⟩
    obtain ⟨a, cp, rfl, -, -⟩ := ho.row
    refine ⟨a, _, cp, 0, rfl, hb', .inr ⟨rfl, ?_, hbd.2.2.2.2.1, hbd.2.2.2.2.2⟩⟩
    obtain ⟨_, _, _, _, hn16, _⟩ := h.names
    rw [frameL_length, tailL_length hn16, headL_length, if_pos rfl, h.name]
    omega

theorem put_reply_any (c : Core) (an ad : Option Addr) (cn cd : Nat) (ns : List (List Int)) (d : List Int) (w0 w : World) (hz : c.name = List.replicate 16 0) (h : ArgOk w0 c an ad cn cd ns d) (hb : Below w0.heap.size w0 w) :
    Calls Try.prog 9 #[.agg (replyCells c (.slice an ns.length cn) (.slice ad d.length cd)).toArray] w fun e w' => ∃ (a : Option Addr) (n cp : Nat) (x : Int), e = .returned (.tuple #[.slice a n cp, .int .i64 x]) ∧ Below w.heap.size w w' ∧
      (x = 2 ∧ n = 0 ∨ x = 0 ∧ n = 36 + 16 * ns.length + d.length ∧ ns.length ≤ 128 ∧ d.length ≤ 8192) := by
  cases hm : mayBe c 0 9 ns.length d.length with
  | false =>
    refine (put_reply_no c an ad cn cd ns d w hz h.small hm).mono ?_
    rintro e w' ⟨rfl, hb'⟩
    exact ⟨none, 0, 0, 2, rfl, hb', .inl ⟨rfl, rfl⟩⟩
  | true =>
    have hbd := mayBe_bd hm
    refine (put_reply_yes c an ad cn cd ns d w hz h.small h.id h.gen (h.names.below hb (Nat.le_refl _)) (h.data.below hb (Nat.le_refl _)) h.dataN h.nameB h.namesB h.dataB hm).mono ?_
    rintro e w' ⟨v', rfl, ho, hb'⟩
    obtain ⟨a, cp, rfl, -, -⟩ := ho.row
    refine ⟨a, _, cp, 0, rfl, hb', .inr ⟨rfl, ?_, hbd.2.2.2.2.1, hbd.2.2.2.2.2⟩⟩
    obtain ⟨_, _, _, _, hn16, _⟩ := h.names
    rw [frameL_length, tailL_length hn16, headL_length, if_neg (by decide)]
    omega

set_option maxHeartbeats 4000000 in
set_option maxRecDepth 100000 in
theorem lengths_walk (c : Core) (an ad : Option Addr) (cn cd : Nat) (ns : List (List Int)) (d : List Int) (c' : Core) (an' ad' : Option Addr) (cn' cd' : Nat) (ns' : List (List Int)) (d' : List Int) (w : World)
    (h : ArgOk w c an ad cn cd ns d) (hz : c'.name = List.replicate 16 0) (h' : ArgOk w c' an' ad' cn' cd' ns' d') :
    Calls Try.prog 4 #[.agg (requestCells c (.slice an ns.length cn) (.slice ad d.length cd)).toArray, .agg (replyCells c' (.slice an' ns'.length cn') (.slice ad' d'.length cd')).toArray] w fun e w' => e = .returned (.bool true) ∧ Below w.heap.size w w' := by
  have HA := Lib.hid h
  have HA' := Lib.hid h'
  have HZ := Lib.hid hz
  have b1 := h.small.2
  have b2 := h'.small.2
  have i1 : (0 : Int) ≤ d.length := by omega
  have i2 : (0 : Int) ≤ d'.length := by omega
  have j1 : (d.length : Int) ≤ 9223372036854775807 := by omega
  have j2 : (d'.length : Int) ≤ 9223372036854775807 := by omega
  have q20 := requestCells_20 c (.slice an ns.length cn) (.slice ad d.length cd) h.name
  have q21 := requestCells_21 c (.slice an ns.length cn) (.slice ad d.length cd) h.name
  have q22 := requestCells_size c (.slice an ns.length cn) (.slice ad d.length cd) h.name
  have HP := Lib.hid (fun u hu => put_request_any c an ad cn cd ns d w u HA.out hu)
  have HP' := Lib.hid (fun u hu => put_reply_any c' an' ad' cn' cd' ns' d' w u HZ.out HA'.out hu)
  obtain ⟨cr, hcr⟩ : ∃ cr, cr = (requestCells c (.slice an ns.length cn) (.slice ad d.length cd)).toArray := ⟨_, rfl⟩
  obtain ⟨cp, hcp⟩ : ∃ cp, cp = (replyCells c' (.slice an' ns'.length cn') (.slice ad' d'.length cd')).toArray := ⟨_, rfl⟩
  have p4 : cp[4]? = some (.slice an' ns'.length cn') := by rw [hcp]; rfl
  have p5 : cp[5]? = some (.slice ad' d'.length cd') := by rw [hcp]; rfl
  have p6 : cp.size = 6 := by rw [hcp]; rfl
  rw [← hcr] at q20 q21 q22 HP ⊢
  rw [← hcp] at HP' ⊢
  have hx1 : ((w.alloc (.cells cr 28)).alloc (.cells cp 30)).heap[w.heap.size]? = some (.cells cr 28 (0, 0)) := by rw [Below.heap_alloc _ _ _ (by simp)]; exact heap_alloc_new w _
  have hx2 : ((w.alloc (.cells cr 28)).alloc (.cells cp 30)).heap[w.heap.size + 1]? = some (.cells cp 30 (0, 0)) := heap_alloc2_new w _ _
  have hb0 : Below w.heap.size w ((w.alloc (.cells cr 28)).alloc (.cells cp 30)) := ((Below.refl _ _).alloc (Nat.le_refl _) _).alloc (by simp) _
  have hsr : (Try.prog.info? 28).map (·.size) = some cr.size := by rw [q22]; exact size_request
  have hsp : (Try.prog.info? 30).map (·.size) = some cp.size := by rw [p6]; exact size_reply
  have HSR := Lib.hid hsr
  have HSP := Lib.hid hsp
  have Q20 := Lib.hid q20
  have Q21 := Lib.hid q21
  have P4 := Lib.hid p4
  have P5 := Lib.hid p5
  clear h h' hz b1 b2 q20 q21 q22 p4 p5 p6 hcr hcp hsr hsp
  go_enter Try.func4, Try.ntmps4
  go_upto_region 1 with (fail)
  generalize (w.alloc (.cells cr 28)).alloc (.cells cp 30) = w2 at *
  have k21 := cell_of_row _ _ 21 _ _ _ hx1
  rw [Q21.out] at k21
  have k5 := cell_of_row _ _ 5 _ _ _ hx2
  rw [P5.out] at k5
  have HX1 := Lib.hid hx1
  have HX2 := Lib.hid hx2
  have HB0 := Lib.hid hb0
  clear hx1 hx2 hb0
  by_cases hd1 : 12000 < (d.length : Int)
  · go_wp2_with fail
    go_ret
    exact ⟨rfl, HB0.out⟩
  by_cases hd2 : 12000 < (d'.length : Int)
  · go_wp2_with fail
    go_ret
    exact ⟨rfl, HB0.out⟩
  have hlt2 : w.heap.size + 1 < w2.heap.size := (Array.getElem?_eq_some_iff.1 HX2.out).1
  go_wp2_with (with_reducible refine wpList_load_row rfl 28 (.tmp 2) rfl w.heap.size rfl 28 cr (0, 0) _ HX1.out Try.underlying28 rfl HSR.out ?_)
  refine (HP.out w2 HB0.out).mono ?_
  rintro e w3 ⟨a3, n3, c3, x3, rfl, hb3, ho3⟩
  have HX13 := Lib.hid ((hb3.block _ (by omega)).trans HX1.out)
  have HX23 := Lib.hid ((hb3.block _ (by omega)).trans HX2.out)
  have HB3 := Lib.hid (HB0.out.trans (hb3.mono HB0.out.size))
  have hlt3 := Nat.lt_of_lt_of_le hlt2 hb3.size
  have HO3 := Lib.hid ho3
  clear hb3 ho3
  go_wp2_with (with_reducible refine wpList_load_row rfl 30 (.tmp 3) rfl (w.heap.size + 1) rfl 30 cp (0, 0) _ HX23.out Try.underlying30 rfl HSP.out ?_)
  refine (HP'.out w3 HB3.out).mono ?_
  rintro e w4 ⟨a4, n4, c4, x4, rfl, hb4, ho4⟩
  have hx14 := (hb4.block w.heap.size (by omega)).trans HX13.out
  have hx24 := (hb4.block (w.heap.size + 1) (by omega)).trans HX23.out
  have HB4 := Lib.hid (HB3.out.trans (hb4.mono HB3.out.size))
  have m20 := cell_of_row _ _ 20 _ _ _ hx14
  rw [Q20.out] at m20
  have m21 := cell_of_row _ _ 21 _ _ _ hx14
  rw [Q21.out] at m21
  have m4 := cell_of_row _ _ 4 _ _ _ hx24
  rw [P4.out] at m4
  have m5 := cell_of_row _ _ 5 _ _ _ hx24
  rw [P5.out] at m5
  clear hb4 hx14 hx24 k21 k5
  rcases HO3.out with ⟨rfl, rfl⟩ | ⟨rfl, hn3, l1, l2⟩
  all_goals rcases ho4 with ⟨rfl, rfl⟩ | ⟨rfl, hn4, l3, l4⟩
  all_goals
    go_wp2_with fail
    refine (one_calls w4).mono ?_
    rintro e w5 ⟨rfl, hb5⟩
    have HB5 := Lib.hid (HB4.out.trans (hb5.mono HB4.out.size))
    clear hb5
    go_wp2_with fail
    go_ret
    exact ⟨rfl, HB5.out⟩
end Go.Proofs.Ytpacfijkhhjfeaa
