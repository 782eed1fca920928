/- coffretlaw20.one. -/
import Derived.Test.YtpacfijkhhjfeaaMsgLaw
namespace Go.Proofs.Ytpacfijkhhjfeaa
set_option linter.unusedVariables false
set_option linter.unusedSimpArgs false
open Go.RowKit

/-- the names of the codes -/
def textS : List ByteArray := [⟨#[100, 111, 110, 101]⟩, ⟨#[116, 104, 101, 114, 101]⟩, ⟨#[110, 111, 110, 101]⟩, ⟨#[113, 117, 111, 116, 97]⟩, ⟨#[115, 116, 97, 108, 101]⟩, ⟨#[109, 105, 115, 115, 105, 110, 103]⟩, ⟨#[104, 101, 108, 100]⟩, ⟨#[108, 97, 115, 116]⟩, ⟨#[98, 97, 100]⟩, ⟨#[111, 108, 100]⟩]

set_option maxHeartbeats 2000000 in
set_option maxRecDepth 100000 in
theorem text_at (n : Nat) (hn : n < 10) (w : World) : Calls Try.prog 12 #[.int .i64 n] w fun e w' => e = .returned (.string (textS.getD n ⟨#[]⟩)) ∧ Below w.heap.size w w' := by
  have h : n = 0 ∨ n = 1 ∨ n = 2 ∨ n = 3 ∨ n = 4 ∨ n = 5 ∨ n = 6 ∨ n = 7 ∨ n = 8 ∨ n = 9 := by omega
  rcases h with rfl | rfl | rfl | rfl | rfl | rfl | rfl | rfl | rfl | rfl
  all_goals
    go_enter Try.func12, Try.ntmps12
    go_wp2_with fail
    go_ret
    exact ⟨rfl, ((Below.refl _ _).alloc (Nat.le_refl _) _)⟩

set_option maxHeartbeats 1000000 in
set_option maxRecDepth 100000 in
theorem text_none (n : Int) (hn : n < 0 ∨ 10 ≤ n) (w : World) : Calls Try.prog 12 #[.int .i64 n] w fun e w' => e = .returned (.string ⟨#[]⟩) ∧ Below w.heap.size w w' := by
  rcases hn with hn | hn
  all_goals
    go_enter Try.func12, Try.ntmps12
    go_wp2_with fail
    go_ret
    exact ⟨rfl, ((Below.refl _ _).alloc (Nat.le_refl _) _)⟩

def oneCore : Core := ⟨1, 5, 2, 0, List.replicate 16 0⟩

theorem one_may : mayBe oneCore 1 6 0 0 = true := by decide
theorem one_good : goodCore true oneCore := by simp [goodCore, oneCore]

theorem one_put_calls (w : World) : Calls Try.prog 6 #[.agg #[.int .i64 1, .int .u64 2, .int .i64 5, .int .u8 0, .int .u8 0, .int .u8 0, .int .u8 0, .int .u8 0, .int .u8 0, .int .u8 0, .int .u8 0, .int .u8 0, .int .u8 0, .int .u8 0, .int .u8 0, .int .u8 0, .int .u8 0, .int .u8 0, .int .u8 0, .int .u64 0, .slice none 0 0, .slice none 0 0]] w fun e w' => ∃ v', e = .returned (.tuple #[v', .int .i64 0]) ∧ owns w' w.heap.size v' (reqFrame oneCore [] []) ∧ Below w.heap.size w w' :=
  put_request_yes oneCore none none 0 0 [] [] w rfl (by simp [Hid]) (by simp [Hid, oneCore]) (by simp [Hid, oneCore]) ⟨none, 0, rfl, Nat.le_refl _, (fun n h => by cases h), fun h => absurd rfl h⟩ (nil_isRow w) nil_nilOk (isByte.replicate _) (fun n h => by cases h) isByte.nil one_may

theorem one_length : (reqFrame oneCore [] []).length = 52 := by
  unfold reqFrame
  rw [frameL_length, tailL_length (fun n h => by cases h), headL_length]
  rfl

theorem one_byte_frame : isByte (reqFrame oneCore [] []) := frameL_byte (by decide) (tailL_byte (headL_byte _ (by decide) (isByte.replicate _)) (fun n h => by cases h) isByte.nil)

set_option maxHeartbeats 4000000 in
set_option maxRecDepth 100000 in
theorem one_calls (w : World) : Calls Try.prog 14 #[] w fun e w' => e = .returned (.bool true) ∧ Below w.heap.size w w' := by
  obtain ⟨F, hF⟩ : ∃ F, F = reqFrame oneCore [] [] := ⟨_, rfl⟩
  have h1 : requestOk F = true := by rw [hF]; exact request_ok one_may one_good (fun n h => by cases h)
  have h2 : replyOk F = false := by rw [hF]; exact reply_not _
  have h3 : F.length = 52 := by rw [hF]; exact one_length
  have h4 : isByte F := by rw [hF]; exact one_byte_frame
  have h5 : readOfL true (openL F).within = (oneCore, [], []) := by rw [hF]; exact req_read one_may one_good (fun n h => by cases h)
  have HF := Lib.hid hF
  have H1 := Lib.hid h1
  have H2 := Lib.hid h2
  have H3 := Lib.hid h3
  have H4 := Lib.hid h4
  have H5 := Lib.hid h5
  clear hF h1 h2 h3 h4 h5
  go_enter Try.func14, Try.ntmps14
  go_wp2_with fail
  refine (one_put_calls w).mono ?_
  rintro e w1 ⟨v1, rfl, ho1, hb1⟩
  rw [← HF.out] at ho1
  have HO1 := Lib.hid ho1
  have HB1 := Lib.hid hb1
  clear ho1 hb1
  obtain ⟨a1, c1, rfl, -, -⟩ := HO1.out.row
  have hlen : ((F.length : Int) == 52) = true := by rw [H3.out]; rfl
  go_wp2_with fail
  refine (read_request_calls _ F w1 HO1.out.row HO1.out.nilOk H4.out (by rw [H3.out]; decide)).mono ?_
  rintro e w2 ⟨hb2, ht2⟩
  rw [if_pos H1.out, H5.out] at ht2
  obtain ⟨vn, vd, rfl, hn2, hd2, hdn2⟩ := ht2
  obtain ⟨an, cn, rfl, -, -, -⟩ := hn2
  obtain ⟨ad, cd, rfl, -, -⟩ := hd2
  have HB2 := Lib.hid (HB1.out.trans (hb2.mono HB1.out.size))
  have HB12 := Lib.hid hb2
  simp only [List.length_nil]
  obtain ⟨cs, hcs⟩ : ∃ cs, cs = (requestCells oneCore (.slice an 0 cn) (.slice ad 0 cd)).toArray := ⟨_, rfl⟩
  rw [← hcs]
  have hsz : (Try.prog.info? 28).map (·.size) = some cs.size := by rw [hcs]; exact size_request
  have h22 : cs.size = 22 := by rw [hcs]; rfl
  have hall : cs.all (·.oneCell') = true := by rw [hcs]; exact request_one _ _ _ _ _ _ _
  have HSZ := Lib.hid hsz
  have H22 := Lib.hid h22
  have HALL := Lib.hid hall
  have HCS := Lib.hid hcs
  clear hsz h22 hall hcs hb2 hdn2
  go_upto_region 3 with (with_reducible refine wpList_store_row rfl 28 (.tmp 3) (.tmp 15) rfl w2.heap.size cs rfl rfl 28 _ (heap_alloc_new w2 _) HSZ.out ?a2 HALL.out ?_)
  case a2 => exact H22.out.symm
  have hx3 : ((w2.alloc (.cells #[.int .i64 0, .int .u64 0, .int .i64 0, .int .u8 0, .int .u8 0, .int .u8 0, .int .u8 0, .int .u8 0, .int .u8 0, .int .u8 0, .int .u8 0, .int .u8 0, .int .u8 0, .int .u8 0, .int .u8 0, .int .u8 0, .int .u8 0, .int .u8 0, .int .u8 0, .int .u64 0, .slice none 0 0, .slice none 0 0] 28)).setRow w2.heap.size cs).heap[w2.heap.size]? = some (.cells cs 28 (0, 0)) := setRow_heap _ _ _ _ _ _ (heap_alloc_new w2 _)
  have hb3 : Below w2.heap.size w2 ((w2.alloc (.cells #[.int .i64 0, .int .u64 0, .int .i64 0, .int .u8 0, .int .u8 0, .int .u8 0, .int .u8 0, .int .u8 0, .int .u8 0, .int .u8 0, .int .u8 0, .int .u8 0, .int .u8 0, .int .u8 0, .int .u8 0, .int .u8 0, .int .u8 0, .int .u8 0, .int .u8 0, .int .u64 0, .slice none 0 0, .slice none 0 0] 28)).setRow w2.heap.size cs) := below_setRow ((Below.refl _ _).alloc (Nat.le_refl _) _) (Nat.le_refl _) _
  generalize (w2.alloc (.cells #[.int .i64 0, .int .u64 0, .int .i64 0, .int .u8 0, .int .u8 0, .int .u8 0, .int .u8 0, .int .u8 0, .int .u8 0, .int .u8 0, .int .u8 0, .int .u8 0, .int .u8 0, .int .u8 0, .int .u8 0, .int .u8 0, .int .u8 0, .int .u8 0, .int .u8 0, .int .u64 0, .slice none 0 0, .slice none 0 0] 28)).setRow w2.heap.size cs = w3 at *
  have HX3 := Lib.hid hx3
  have HB3 := Lib.hid (HB2.out.trans (hb3.mono HB2.out.size))
  have hr3 := (HO1.out.row.below HB12.out (Nat.le_refl _)).below hb3 (Nat.le_refl _)
  have HR3 := Lib.hid hr3
  have hlt3 : w2.heap.size < w3.heap.size := (Array.getElem?_eq_some_iff.1 hx3).1
  clear hx3 hb3 hr3
  go_wp2_with fail
  refine (read_reply_calls _ F w3 HR3.out (HO1.out.nilOk) H4.out (by rw [H3.out]; decide)).mono ?_
  rintro e w4 ⟨hb4, ht4⟩
  rw [if_neg (by rw [H2.out]; decide)] at ht4
  subst ht4
  have HX4 := Lib.hid ((hb4.block _ hlt3).trans HX3.out)
  have HB4 := Lib.hid (HB3.out.trans (hb4.mono HB3.out.size))
  have hlt4 := Nat.lt_of_lt_of_le hlt3 hb4.size
  clear hb4
  go_upto_region 4 with (with_reducible refine wpList_store_row rfl 30 (.tmp 5) (.tmp 20) rfl w4.heap.size _ rfl rfl 30 _ (heap_alloc_new w4 _) ?b1 ?b2 ?b3 ?_)
  case b1 => exact size_reply
  case b2 => rfl
  case b3 => simp [replyCells, Value.oneCell']
  have hbx : Below w4.heap.size w4 ((w4.alloc (.cells #[.int .i64 0, .int .u64 0, .int .i64 0, .int .u64 0, .slice none 0 0, .slice none 0 0] 30)).setRow w4.heap.size (replyCells ⟨0, 0, 0, 0, [0, 0, 0, 0, 0, 0, 0, 0, 0, 0, 0, 0, 0, 0, 0, 0]⟩ (.slice none 0 0) (.slice none 0 0)).toArray) := below_setRow ((Below.refl _ _).alloc (Nat.le_refl _) _) (Nat.le_refl _) _
  generalize (w4.alloc (.cells #[.int .i64 0, .int .u64 0, .int .i64 0, .int .u64 0, .slice none 0 0, .slice none 0 0] 30)).setRow w4.heap.size (replyCells ⟨0, 0, 0, 0, [0, 0, 0, 0, 0, 0, 0, 0, 0, 0, 0, 0, 0, 0, 0, 0]⟩ (.slice none 0 0) (.slice none 0 0)).toArray = w5 at *
  have hx5 := (hbx.block _ hlt4).trans HX4.out
  have k0 := cell_of_row _ _ 0 _ _ _ hx5
  have k1 := cell_of_row _ _ 1 _ _ _ hx5
  have k2 := cell_of_row _ _ 2 _ _ _ hx5
  rw [show cs[0]? = some (.int .i64 1) from by rw [HCS.out]; rfl] at k0
  rw [show cs[1]? = some (.int .u64 2) from by rw [HCS.out]; rfl] at k1
  rw [show cs[2]? = some (.int .i64 5) from by rw [HCS.out]; rfl] at k2
  have HB5 := Lib.hid (HB4.out.trans (hbx.mono HB4.out.size))
  clear hbx hx5
  go_wp2_with fail
  refine (text_at 4 (by decide) w5).mono ?_
  rintro e w6 ⟨rfl, hb6⟩
  have HB6 := Lib.hid (HB5.out.trans (hb6.mono HB5.out.size))
  clear hb6
  go_wp2_with fail
  go_ret
  refine ⟨congrArg (fun b => Ending.returned (.bool b)) (show ((textS.getD 4 ⟨#[]⟩).toList == [115, 116, 97, 108, 101]) = true from ?_), HB6.out⟩
  rw [show textS.getD 4 ⟨#[]⟩ = (⟨#[115, 116, 97, 108, 101]⟩ : ByteArray) from rfl, ByteArray.toList_eq]
  rfl
end Go.Proofs.Ytpacfijkhhjfeaa
