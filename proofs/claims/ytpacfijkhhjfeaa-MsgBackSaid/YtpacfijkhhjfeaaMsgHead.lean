/- (core).head. -/
import Derived.Test.YtpacfijkhhjfeaaMsgCore
import Derived.Test.YtpacfijkhhjfeaaNames16
import Derived.Deep.AppendLies
import Derived.Deep.RegionLaw
import Derived.Deep.RegionHeld3
import Derived.Deep.CutBlock
import Derived.Deep.DeepCutAuto
namespace Go.Proofs.Ytpacfijkhhjfeaa
set_option linter.unusedVariables false
set_option linter.unusedSimpArgs false
open Go.RowKit

def headL (c : Core) (named : Bool) : List Int := [c.client] ++ numBytes c.id 8 ++ [c.kind] ++ (if named then c.name else []) ++ numBytes c.gen 8

/-- wire.Put within the region: what it needs of the world, and what it gives -/
theorem put_in_head (w W : World) (b : Nat) (x id : Int) (o : Obj) (hb : Below w.heap.size w W) (hbx : W.heap[w.heap.size]? = some o) (hcell : W.cell? ⟨b, 0, none⟩ = some (.int .u8 x)) (hid : Hid (0 ≤ id ∧ id ≤ 18446744073709551615)) :
    Calls Try.prog 36 #[.slice (some ⟨b, 0, none⟩) 1 1, .int .u64 id, .int .i64 8] W fun e w' => ∃ v', e = .returned v' ∧ owns w' (w.heap.size + 1) v' (x :: numBytes id 8) ∧ w'.heap[w.heap.size]? = some o ∧ Below w.heap.size w w' ∧ Below W.heap.size W w' ∧ w.heap.size + 1 ≤ w'.heap.size := by
  have hlt : w.heap.size < W.heap.size := (Array.getElem?_eq_some_iff.1 hbx).1
  refine (put_calls (.slice (some ⟨b, 0, none⟩) 1 1) [x] id 8 W (row_one hcell) (nilOk_some _ _ _) (by simp) hid (by omega)).mono ?_
  rintro e w' ⟨v', rfl, ho, hbw⟩
  exact ⟨v', rfl, owns.mono ho hlt, by rw [hbw.block _ hlt]; exact hbx, hb.trans (hbw.mono hb.size), hbw, Nat.le_trans hlt hbw.size⟩

theorem below2 (w : World) (a b : Obj) : Below w.heap.size w ((w.alloc a).alloc b).drew := (((Below.refl _ _).alloc (Nat.le_refl _) _).alloc (by simp) _).drew
theorem below3 (w : World) (a b c : Obj) : Below w.heap.size w (((w.alloc a).alloc b).alloc c).drew := ((((Below.refl _ _).alloc (Nat.le_refl _) _).alloc (by simp) _).alloc (by simp only [World.size_alloc]; omega) _).drew
theorem box2 (w : World) (a b : Obj) : ((w.alloc a).alloc b).drew.heap[w.heap.size]? = some a := by
  show ((w.alloc a).alloc b).heap[w.heap.size]? = some a
  rw [Below.heap_alloc _ _ _ (by simp)]; exact heap_alloc_new w _
theorem box3 (w : World) (a b c : Obj) : (((w.alloc a).alloc b).alloc c).drew.heap[w.heap.size]? = some a := by
  show (((w.alloc a).alloc b).alloc c).heap[w.heap.size]? = some a
  rw [Below.heap_alloc _ _ _ (by simp only [World.size_alloc]; omega)]; exact box2 w a b

set_option maxHeartbeats 1000000 in
set_option maxRecDepth 100000 in
theorem head_calls (c : Core) (named : Bool) (w : World) (hn : c.name.length = 16) (hc : Hid (0 ≤ c.client ∧ c.client ≤ 255 ∧ 0 ≤ c.kind ∧ c.kind ≤ 255)) (hi1 : Hid (0 ≤ c.id ∧ c.id ≤ 18446744073709551615)) (hi2 : Hid (0 ≤ c.gen ∧ c.gen ≤ 18446744073709551615)) :
    Calls Try.prog 23 #[.agg (coreCells c).toArray, .bool named] w fun e w' => ∃ v', e = .returned v' ∧ owns w' w.heap.size v' (headL c named) ∧ Below w.heap.size w w' := by
  have hblk : (w.alloc (.cells (coreCells c).toArray 56)).heap[w.heap.size]? = some (.cells (coreCells c).toArray 56 (0, 0)) := heap_alloc_new w _
  have h0 : (w.alloc (.cells (coreCells c).toArray 56)).cell? ⟨w.heap.size, 0, none⟩ = some (.int .i64 c.client) := by rw [cell_of_row _ _ _ _ _ _ hblk]; rfl
  have h1 : (w.alloc (.cells (coreCells c).toArray 56)).cell? ⟨w.heap.size, 1, none⟩ = some (.int .i64 c.kind) := by rw [cell_of_row _ _ _ _ _ _ hblk]; rfl
  have h2 : (w.alloc (.cells (coreCells c).toArray 56)).cell? ⟨w.heap.size, 2, none⟩ = some (.int .u64 c.id) := by rw [cell_of_row _ _ _ _ _ _ hblk]; rfl
  have h3 : (w.alloc (.cells (coreCells c).toArray 56)).cell? ⟨w.heap.size, 3, none⟩ = some (.int .u64 c.gen) := by rw [cell_of_row _ _ _ _ _ _ hblk]; rfl
  have HBK := Lib.hid hblk
  clear hblk
  obtain ⟨cs, hcs⟩ : ∃ cs, cs = (coreCells c).toArray := ⟨_, rfl⟩
  rw [← hcs] at h0 h1 h2 h3 HBK ⊢
  have HCS := Lib.hid hcs
  have e0 : cs[0]? = some (.int .i64 c.client) := by rw [hcs]; rfl
  have e1 : cs[1]? = some (.int .i64 c.kind) := by rw [hcs]; rfl
  have e2 : cs[2]? = some (.int .u64 c.id) := by rw [hcs]; rfl
  have e3 : cs[3]? = some (.int .u64 c.gen) := by rw [hcs]; rfl
  clear hcs
  have hw1 : IntKind.u8.wrap c.client = c.client := by have := hc.out; simp [IntKind.wrap, IntKind.bits, IntKind.signed]; omega
  have hw2 : IntKind.u8.wrap c.kind = c.kind := by have := hc.out; simp [IntKind.wrap, IntKind.bits, IntKind.signed]; omega
  go_enter Try.func23, Try.ntmps23
  go_upto_region 1 with (fail)
  go_cut [5] (fun v wx => owns wx (w.heap.size + 1) v ([c.client] ++ numBytes c.id 8 ++ [c.kind]) ∧ wx.heap[w.heap.size]? = some (.cells cs 56 (0, 0)) ∧ Below w.heap.size w wx)
  case first =>
    go_region_held3 (fun w' => w'.cell? ⟨w.heap.size, 0, none⟩ = some (.int .i64 c.client) ∧ w'.cell? ⟨w.heap.size, 1, none⟩ = some (.int .i64 c.kind) ∧ w'.cell? ⟨w.heap.size, 2, none⟩ = some (.int .u64 c.id))
      (first | exact ⟨j0, j1, j2⟩ | exact ⟨k0, k1, k2⟩ | go_keep)
      (first
      | (go_simp; go_at_call 36; (apply Calls.mono (put_in_head w _ _ c.client c.id (.cells cs 56) ?qe ?qf ?qg hi1); (case qe => first | exact below2 _ _ _ | exact below3 _ _ _ _); (case qf => first | exact box2 _ _ _ | exact box3 _ _ _ _); (case qg => first | (go_simp; done) | (simp; done)); rintro e w1 ⟨v1, rfl, ho1, hx1, hb1, hbw1, hs1⟩; have k0 := cell_of_row _ _ 0 _ _ _ hx1; rw [e0] at k0; have k1 := cell_of_row _ _ 1 _ _ _ hx1; rw [e1] at k1;have k2 := cell_of_row _ _ 2 _ _ _ hx1; rw [e2] at k2; have f1 := frozen_of_row _ _ 1 _ _ hx1))
      | (have tok := ho1; (apply step_append_bytes (B := w.heap.size + 1) (v := v1) (l := c.client :: numBytes c.id 8) (m := [c.kind]) rfl (.tmp 12) (.tmp 16); (case ho => exact rfl); (case hs => exact rfl); (case hx => exact rfl); (case hown => first | exact owns.alloc ho1 _ | exact ho1); (case hrow => first | exact row_one (cell_new w1 _ _ _ rfl) | exact row_one ((hbw1.cell (p := ⟨_, 0, none⟩) (by simp)).trans (by first | (go_simp; done) | (simp; done)))); (case hnil => exact nilOk_some _ _ _); (case hl => rw [List.length_cons, numBytes_length]; simp); (case hB => have := hs1; simp; omega); intro v2 w2 ho2 hb2; have hx2 := (hb2.block w.heap.size (by omega)).trans (by first | exact hx1 | exact (Below.heap_alloc _ _ _ (by omega)).trans hx1); have j0 := cell_of_row _ _ 0 _ _ _ hx2; rw [e0] at j0; have j1 := cell_of_row _ _ 1 _ _ _ hx2; rw [e1] at j1; have j2 := cell_of_row _ _ 2 _ _ _ hx2; rw [e2] at j2; have hbf : Hid (Below w.heap.size w w2) := (by first | exact hb1.trans (hb2.mono (by omega)) | exact hb1.trans (((Below.refl w.heap.size w1).alloc (by omega) _).trans (hb2.mono (by omega)))))))
    all_goals (go_wp2_with fail; go_meet; case rel => exact ⟨ho2, hx2, hbf⟩)
  case rest =>
    obtain ⟨ho5, hx5, hb5⟩ := hcut
    have h5s := hb5.size
    have h5t : w.heap.size + 1 ≤ wc.heap.size := (Array.getElem?_eq_some_iff.1 hx5).1
    have k3 := cell_of_row _ _ 3 _ _ _ hx5
    rw [e3] at k3
    have f3 := frozen_of_row _ _ 3 _ _ hx5
    have hrow : isRow wc .u8 (.slice (some ⟨w.heap.size, 4, none⟩) 16 16) c.name := by
      refine ⟨_, 16, by rw [hn], by rw [hn]; exact Nat.le_refl _, fun _ => ⟨_, rfl, (Array.getElem?_eq_some_iff.1 hx5).1, fun j hj => ?_⟩⟩
      rw [add_plain, cell_of_row _ _ _ _ _ _ hx5, HCS.out]
      simp [coreCells, List.getD, show 4 + j = (j + 1 + 1 + 1 + 1) from by omega, hj]
    have HO := Lib.hid ho5
    have HB := Lib.hid hb5
    have HR := Lib.hid hrow
    have HX := Lib.hid hx5
    clear ho5 hb5 hrow hx5
    have hsl := run_slice_arr_all (P := Try.prog) wc 24 5 16 Try.underlying24 Try.sizeOf5 w.heap.size 4
    have hl1 : ([c.client] ++ numBytes c.id 8 ++ [c.kind]).length = 10 := by rw [List.length_append, List.length_append, numBytes_length]; rfl
    have HL1 := Lib.hid hl1
    have HN := Lib.hid hn
    clear hl1 hn
    rcases named with _ | _
    · go_wp2_with fail
      refine (put_calls _ _ c.gen 8 wc HO.out.row HO.out.nilOk (by rw [HL1.out]; decide) hi2 (by omega)).mono ?_
      rintro e w2 ⟨v2, rfl, ho2, hb2⟩
      have HO2 : Hid (owns w2 w.heap.size v2 (headL c false)) := by
        have := owns.mono ho2 h5s
        unfold headL
        rw [if_neg (by decide), List.append_nil]
        exact this
      have HB2 := Lib.hid (HB.out.trans (hb2.mono h5s))
      clear ho2 hb2
      go_wp2_with fail
      go_ret
      exact ⟨_, rfl, HO2.out, HB2.out⟩
    · go_wp2_with (at_builtin; refine wpList_append_bytes rfl (.tmp 19) (.tmp 21) rfl rfl rfl HO.out HR.out (nilOk_some _ _ _) ?c2 ?c3 ?_)
      case c2 => rw [HL1.out, HN.out]; decide
      case c3 => exact h5t
      intro v1 w1 ho1 hb1
      have hx1 : w1.heap[w.heap.size]? = some (.cells cs 56 (0, 0)) := (hb1.block _ (Nat.lt_succ_self _)).trans HX.out
      have k4 := cell_of_row _ _ 3 _ _ _ hx1
      rw [e3] at k4
      have HO1 := Lib.hid ho1
      have h1s := hb1.size
      have HB1 := Lib.hid (HB.out.trans (hb1.mono (Nat.le_succ _)))
      clear ho1 hb1 hx1
      go_wp2_with fail
      refine (put_calls _ _ c.gen 8 w1 HO1.out.row HO1.out.nilOk (by simp [numBytes_length, HN.out]) hi2 (by omega)).mono ?_
      rintro e w2 ⟨v2, rfl, ho2, hb2⟩
      have HO2 : Hid (owns w2 w.heap.size v2 (headL c true)) := by
        have := owns.mono ho2 (Nat.le_trans h5s h1s)
        unfold headL
        rw [if_pos rfl]
        exact this
      have HB2 := Lib.hid (HB1.out.trans (hb2.mono (Nat.le_trans h5s h1s)))
      clear ho2 hb2
      go_wp2_with fail
      go_ret
      exact ⟨_, rfl, HO2.out, HB2.out⟩
end Go.Proofs.Ytpacfijkhhjfeaa
