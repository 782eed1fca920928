/- coffretlaw20.MsgBack: the walk. -/
import Derived.Test.YtpacfijkhhjfeaaMsgLengthsWalk
import Derived.Test.YtpacfijkhhjfeaaMsgSame
import Derived.Test.YtpacfijkhhjfeaaBackNum
namespace Go.Proofs.Ytpacfijkhhjfeaa
set_option linter.unusedVariables false
set_option linter.unusedSimpArgs false
open Go.RowKit

/-- what a put leaves: bytes of the frame, or none and an error -/
def PutSaid (w : World) (F : List Int) (ok : Bool) (e : Ending) (w' : World) : Prop :=
  ∃ (a : Option Addr) (n cp : Nat) (x : Int), e = .returned (.tuple #[.slice a n cp, .int .i64 x]) ∧ Below w.heap.size w w' ∧ (ok = false ∧ x = 2 ∨ ok = true ∧ x = 0 ∧ owns w' w.heap.size (.slice a n cp) F)

theorem put_request_said (c : Core) (an ad : Option Addr) (cn cd : Nat) (ns : List (List Int)) (d : List Int) (w0 w : World) (h : ArgOk w0 c an ad cn cd ns d) (hb : Below w0.heap.size w0 w) :
    Calls Try.prog 6 #[.agg (requestCells c (.slice an ns.length cn) (.slice ad d.length cd)).toArray] w (PutSaid w (reqFrame c ns d) (mayBe c 1 6 ns.length d.length)) := by
  cases hm : mayBe c 1 6 ns.length d.length with
  | false =>
    refine (put_request_no c an ad cn cd ns d w h.name h.small hm).mono ?_
    rintro e w' ⟨rfl, hb'⟩
    exact ⟨none, 0, 0, 2, rfl, hb', .inl ⟨rfl, rfl⟩⟩
  | true =>
    refine (put_request_yes c an ad cn cd ns d w h.name h.small h.id h.gen (h.names.below hb (Nat.le_refl _)) (h.data.below hb (Nat.le_refl _)) h.dataN h.nameB h.namesB h.dataB hm).mono ?_
    rintro e w' ⟨v', rfl, ho, hb'⟩
    obtain ⟨a, n, cp, rfl⟩ := ho.slice
    exact ⟨a, n, cp, 0, rfl, hb', .inr ⟨rfl, rfl, ho⟩⟩

theorem put_reply_said (c : Core) (an ad : Option Addr) (cn cd : Nat) (ns : List (List Int)) (d : List Int) (w0 w : World) (hz : c.name = List.replicate 16 0) (h : ArgOk w0 c an ad cn cd ns d) (hb : Below w0.heap.size w0 w) :
    Calls Try.prog 9 #[.agg (replyCells c (.slice an ns.length cn) (.slice ad d.length cd)).toArray] w (PutSaid w (repFrame c ns d) (mayBe c 0 9 ns.length d.length)) := by
  cases hm : mayBe c 0 9 ns.length d.length with
  | false =>
    refine (put_reply_no c an ad cn cd ns d w hz h.small hm).mono ?_
    rintro e w' ⟨rfl, hb'⟩
    exact ⟨none, 0, 0, 2, rfl, hb', .inl ⟨rfl, rfl⟩⟩
  | true =>
    refine (put_reply_yes c an ad cn cd ns d w hz h.small h.id h.gen (h.names.below hb (Nat.le_refl _)) (h.data.below hb (Nat.le_refl _)) h.dataN h.nameB h.namesB h.dataB hm).mono ?_
    rintro e w' ⟨v', rfl, ho, hb'⟩
    obtain ⟨a, n, cp, rfl⟩ := ho.slice
    exact ⟨a, n, cp, 0, rfl, hb', .inr ⟨rfl, rfl, ho⟩⟩

/-- what holds all along: the two that came in lie in their blocks -/
def backInv (w : World) (cr cp : Array Value) (u : World) : Prop :=
  Below w.heap.size w u ∧ u.heap[w.heap.size]? = some (.cells cr 28 (0, 0)) ∧ u.heap[w.heap.size + 1]? = some (.cells cp 30 (0, 0)) ∧ w.heap.size + 2 ≤ u.heap.size

theorem backInv.step {w a b : World} {cr cp : Array Value} (h : backInv w cr cp a) (hb : Below a.heap.size a b) : backInv w cr cp b :=
  ⟨h.1.trans (hb.mono (Nat.le_trans (Nat.le_add_right _ 2) h.2.2.2)), (hb.block _ (by have := h.2.2.2; omega)).trans h.2.1, (hb.block _ (by have := h.2.2.2; omega)).trans h.2.2.1, Nat.le_trans h.2.2.2 hb.size⟩

theorem goodLits_of {w : World} {c : Core} {an ad : Option Addr} {cn cd : Nat} {ns : List (List Int)} {d : List Int} (h : ArgOk w c an ad cn cd ns d) : goodLits c :=
  ⟨h.client, h.kind, h.id, h.gen, h.name, h.nameB⟩

attribute [local go_sem ↓] loadReq_eq loadRep_eq

theorem owns_empty (w : World) : owns (w.alloc (.cells #[] 5)) w.heap.size (.slice (some ⟨w.heap.size, 0, none⟩) 0 0) [] :=
  ⟨rfl, Or.inr ⟨w.heap.size, 0, #[], rfl, Nat.le_refl _, heap_alloc_new w _, Nat.le_refl _, Nat.zero_le _, rfl, rfl⟩⟩

set_option maxHeartbeats 4000000 in
set_option maxRecDepth 100000 in
theorem back_walk (c : Core) (an ad : Option Addr) (cn cd : Nat) (ns : List (List Int)) (d : List Int) (c' : Core) (an' ad' : Option Addr) (cn' cd' : Nat) (ns' : List (List Int)) (d' : List Int) (w : World)
    (h : ArgOk w c an ad cn cd ns d) (hz : c'.name = List.replicate 16 0) (h' : ArgOk w c' an' ad' cn' cd' ns' d') :
    Calls Try.prog 5 #[.agg (requestCells c (.slice an ns.length cn) (.slice ad d.length cd)).toArray, .agg (replyCells c' (.slice an' ns'.length cn') (.slice ad' d'.length cd')).toArray] w fun e w' => e = .returned (.bool true) ∧ Below w.heap.size w w' := by
  have HA := Lib.hid h
  have HA' := Lib.hid h'
  have HZ := Lib.hid hz
  have HG := Lib.hid (goodLits_of h)
  have HG' := Lib.hid (goodLits_of h')
  have b1 := h.small
  have b2 := h'.small
  have i1 : (0 : Int) ≤ d.length := by omega
  have i2 : (0 : Int) ≤ d'.length := by omega
  have j1 : (d.length : Int) ≤ 9223372036854775807 := by omega
  have j2 : (d'.length : Int) ≤ 9223372036854775807 := by omega
  have i3 : (0 : Int) ≤ ns.length := by omega
  have i4 : (0 : Int) ≤ ns'.length := by omega
  have j3 : (ns.length : Int) ≤ 9223372036854775807 := by omega
  have j4 : (ns'.length : Int) ≤ 9223372036854775807 := by omega
  have q20 := requestCells_20 c (.slice an ns.length cn) (.slice ad d.length cd) h.name
  have q21 := requestCells_21 c (.slice an ns.length cn) (.slice ad d.length cd) h.name
  have q22 := requestCells_size c (.slice an ns.length cn) (.slice ad d.length cd) h.name
  have HP := Lib.hid (fun u hu => put_request_said c an ad cn cd ns d w u HA.out hu)
  have HP' := Lib.hid (fun u hu => put_reply_said c' an' ad' cn' cd' ns' d' w u HZ.out HA'.out hu)
  have HS := Lib.hid (fun u (hu : Below w.heap.size w u) bn bd dn dd hN hD => same_request_yes c bn bd an ad dn dd cn cd ns d u HA.out.name HG.out hN (HA.out.names.below hu (Nat.le_refl _)) hD (HA.out.data.below hu (Nat.le_refl _)) HA.out.small.1 HA.out.namesB HA.out.dataB)
  have HS' := Lib.hid (fun u (hu : Below w.heap.size w u) bn bd dn dd hN hD => same_reply_yes c' bn bd an' ad' dn dd cn' cd' ns' d' u HZ.out HG'.out hN (HA'.out.names.below hu (Nat.le_refl _)) hD (HA'.out.data.below hu (Nat.le_refl _)) HA'.out.small.1 HA'.out.namesB HA'.out.dataB)
  obtain ⟨cr, hcr⟩ : ∃ cr, cr = (requestCells c (.slice an ns.length cn) (.slice ad d.length cd)).toArray := ⟨_, rfl⟩
  obtain ⟨cp, hcp⟩ : ∃ cp, cp = (replyCells c' (.slice an' ns'.length cn') (.slice ad' d'.length cd')).toArray := ⟨_, rfl⟩
  have p4 : cp[4]? = some (.slice an' ns'.length cn') := by rw [hcp]; rfl
  have p5 : cp[5]? = some (.slice ad' d'.length cd') := by rw [hcp]; rfl
  have p6 : cp.size = 6 := by rw [hcp]; rfl
  have HCR := Lib.hid hcr
  have HCP := Lib.hid hcp
  rw [← hcr] at q20 q21 q22 HP HS ⊢
  rw [← hcp] at HP' HS' ⊢
  have hx1 : ((w.alloc (.cells cr 28)).alloc (.cells cp 30)).heap[w.heap.size]? = some (.cells cr 28 (0, 0)) := by rw [Below.heap_alloc _ _ _ (by simp)]; exact heap_alloc_new w _
  have hx2 : ((w.alloc (.cells cr 28)).alloc (.cells cp 30)).heap[w.heap.size + 1]? = some (.cells cp 30 (0, 0)) := heap_alloc2_new w _ _
  have hb0 : backInv w cr cp ((w.alloc (.cells cr 28)).alloc (.cells cp 30)) := ⟨((Below.refl _ _).alloc (Nat.le_refl _) _).alloc (by simp) _, hx1, hx2, by simp⟩
  have hsr : (Try.prog.info? 28).map (·.size) = some cr.size := by rw [q22]; exact size_request
  have hsp : (Try.prog.info? 30).map (·.size) = some cp.size := by rw [p6]; exact size_reply
  have HSR := Lib.hid hsr
  have HSP := Lib.hid hsp
  have Q20 := Lib.hid q20
  have Q21 := Lib.hid q21
  have Q22 := Lib.hid q22
  have P6 := Lib.hid p6
  have P4 := Lib.hid p4
  have P5 := Lib.hid p5
  clear h h' hz b1 b2 q20 q21 q22 p4 p5 p6 hcr hcp hsr hsp
  go_enter Try.func5, Try.ntmps5
  go_upto_region 1 with (fail)
  generalize (w.alloc (.cells cr 28)).alloc (.cells cp 30) = w2 at *
  have k20 := cell_of_row _ _ 20 _ _ _ hx1
  rw [Q20.out] at k20
  have k21 := cell_of_row _ _ 21 _ _ _ hx1
  rw [Q21.out] at k21
  have k4 := cell_of_row _ _ 4 _ _ _ hx2
  rw [P4.out] at k4
  have k5 := cell_of_row _ _ 5 _ _ _ hx2
  rw [P5.out] at k5
  have HB0 := Lib.hid hb0
  clear hx1 hx2 hb0
  by_cases hd1 : 12000 < (d.length : Int)
  · go_wp2_with fail
    go_ret
    exact ⟨rfl, HB0.out.1⟩
  by_cases hd2 : 12000 < (d'.length : Int)
  · go_wp2_with fail
    go_ret
    exact ⟨rfl, HB0.out.1⟩
  by_cases hd3 : 300 < (ns.length : Int)
  · go_wp2_with fail
    go_ret
    exact ⟨rfl, HB0.out.1⟩
  by_cases hd4 : 300 < (ns'.length : Int)
  · go_wp2_with fail
    go_ret
    exact ⟨rfl, HB0.out.1⟩
  have HX1 := Lib.hid HB0.out.2.1
  go_wp2_with (with_reducible refine wpList_load_row rfl 28 (.tmp 2) rfl w.heap.size rfl 28 cr (0, 0) _ HX1.out Try.underlying28 rfl HSR.out ?_)
  refine (HP.out w2 HB0.out.1).mono ?_
  rintro e w3 ⟨a3, n3, c3, x3, rfl, hb3, ho3⟩
  have HO3 := Lib.hid ho3
  have HB3 := Lib.hid (HB0.out.step hb3)
  clear hb3 ho3 k20 k21 k4 k5 hd1 hd2 hd3 hd4
  go_upto_if 49 with (fail)
  go_cut [] (fun wc => backInv w cr cp wc)
  case first =>
    rcases HO3.out with ⟨hm, rfl⟩ | ⟨hm, rfl, ho⟩
    · go_wp2_with fail
      go_meet
      case rel => exact HB3.out
    · -- yes 1
      obtain ⟨F, hF⟩ : ∃ F, F = reqFrame c ns d := ⟨_, rfl⟩
      have n16 : ∀ n ∈ ns, n.length = 16 := by obtain ⟨_, _, _, _, hn16, _⟩ := HA.out.names; exact hn16
      have gc : goodCore true c ∧ ns.length ≤ 128 ∧ d.length ≤ 8192 := mayBe_good hm (by decide) (by decide) HA.out.id HA.out.gen (by rw [if_pos rfl]; exact HA.out.name)
      have H1 := Lib.hid (request_ok hm gc.1 n16)
      have H2 := Lib.hid (reply_not (tailL (headL c true) ns d))
      have H3 := Lib.hid (request_more (k := 1) (m := [0]) (by decide) (tail_small gc.1 n16 gc.2.1 gc.2.2) (by simp))
      have HR := Lib.hid (req_read hm gc.1 n16)
      have H4 := Lib.hid (show isByte (reqFrame c ns d) from frameL_byte (by decide) (tailL_byte (headL_byte _ (by have := mayBe_bd hm; omega) HA.out.nameB) HA.out.namesB HA.out.dataB))
      have H5 := Lib.hid (show (reqFrame c ns d).length + 1 ≤ 2 ^ 46 by
        have := tail_small gc.1 n16 gc.2.1 gc.2.2
        have e := frameL_length 1 (tailL (headL c true) ns d)
        unfold reqFrame
        omega)
      change Hid (replyOk (reqFrame c ns d) = false) at H2
      change Hid (requestOk (reqFrame c ns d ++ [0]) = false) at H3
      rw [← hF] at H1 H2 H3 HR H4 H5 ho
      have HO := Lib.hid ho
      have hs3 := HB3.out.2.2.2
      clear hF hm gc ho n16 HO3
      go_wp2_with fail
      refine (read_request_calls _ F w3 HO.out.row HO.out.nilOk H4.out (by have := H5.out; omega)).mono ?_
      rintro e w4 ⟨hb4, ht4⟩
      rw [if_pos H1.out, HR.out] at ht4
      obtain ⟨vn, vd, rfl, hn4, hd4, hdn4⟩ := ht4
      simp only at hn4 hd4
      have HN4 := Lib.hid hn4
      have HD4 := Lib.hid hd4
      obtain ⟨bn, dn, rfl, -⟩ := hn4
      obtain ⟨bd, dd, rfl, -⟩ := hd4
      have HB4 := Lib.hid (HB3.out.step hb4)
      have HO4 := Lib.hid (HO.out.row.below hb4 (Nat.le_refl _))
      have HNL := Lib.hid HO.out.nilOk
      have hs4 := HB4.out.2.2.2
      clear hb4 hdn4
      have hsz := request_size c (.slice bn ns.length dn) (.slice bd d.length dd) HA.out.name
      have hone := request_one c bn bd ns.length d.length dn dd
      have HS4 := Lib.hid (fun u hu hN hD => HS.out u hu bn bd dn dd hN hD)
      obtain ⟨cs, hcs⟩ : ∃ cs, cs = (requestCells c (.slice bn ns.length dn) (.slice bd d.length dd)).toArray := ⟨_, rfl⟩
      rw [← hcs] at hsz hone HS4 ⊢
      have HSZ := Lib.hid hsz
      have HONE := Lib.hid hone
      have HCZ := Lib.hid (show (Try.prog.info? 28).map (·.size) = some cs.size by rw [hsz]; exact size_request)
      clear hsz hone hcs
      go_upto_region 6 with (with_reducible refine wpList_store_row rfl 28 (.tmp 7) (.tmp 53) rfl w4.heap.size cs rfl rfl 28 _ (heap_alloc_new w4 _) ?s1 ?s2 ?s3 ?_)
      case s1 => exact HCZ.out
      case s2 => exact HSZ.out.symm
      case s3 => exact HONE.out
      have hx5 : ((w4.alloc (.cells #[.int .i64 0, .int .u64 0, .int .i64 0, .int .u8 0, .int .u8 0, .int .u8 0, .int .u8 0, .int .u8 0, .int .u8 0, .int .u8 0, .int .u8 0, .int .u8 0, .int .u8 0, .int .u8 0, .int .u8 0, .int .u8 0, .int .u8 0, .int .u8 0, .int .u8 0, .int .u64 0, .slice none 0 0, .slice none 0 0] 28)).setRow w4.heap.size cs).heap[w4.heap.size]? = some (.cells cs 28 (0, 0)) := setRow_heap _ _ _ _ _ _ (heap_alloc_new w4 _)
      have hb5 : Below w4.heap.size w4 ((w4.alloc (.cells #[.int .i64 0, .int .u64 0, .int .i64 0, .int .u8 0, .int .u8 0, .int .u8 0, .int .u8 0, .int .u8 0, .int .u8 0, .int .u8 0, .int .u8 0, .int .u8 0, .int .u8 0, .int .u8 0, .int .u8 0, .int .u8 0, .int .u8 0, .int .u8 0, .int .u8 0, .int .u64 0, .slice none 0 0, .slice none 0 0] 28)).setRow w4.heap.size cs) := below_setRow ((Below.refl _ _).alloc (Nat.le_refl _) _) (Nat.le_refl _) _
      generalize (w4.alloc (.cells #[.int .i64 0, .int .u64 0, .int .i64 0, .int .u8 0, .int .u8 0, .int .u8 0, .int .u8 0, .int .u8 0, .int .u8 0, .int .u8 0, .int .u8 0, .int .u8 0, .int .u8 0, .int .u8 0, .int .u8 0, .int .u8 0, .int .u8 0, .int .u8 0, .int .u8 0, .int .u64 0, .slice none 0 0, .slice none 0 0] 28)).setRow w4.heap.size cs = w5 at *
      have HX5 := Lib.hid hx5
      have HB5 := Lib.hid (HB4.out.step hb5)
      have HO5 := Lib.hid (HO4.out.below hb5 (Nat.le_refl _))
      have HN5 := Lib.hid (HN4.out.below hb5 (Nat.le_refl _))
      have HD5 := Lib.hid (HD4.out.below hb5 (Nat.le_refl _))
      have hlt5 : w4.heap.size < w5.heap.size := (Array.getElem?_eq_some_iff.1 hx5).1
      clear hx5 hb5
      go_wp2_with fail
      refine (read_reply_calls _ F w5 HO5.out HNL.out H4.out (by have := H5.out; omega)).mono ?_
      rintro e w6 ⟨hb6, ht6⟩
      rw [if_neg (by rw [H2.out]; decide)] at ht6
      subst ht6
      have HX6 := Lib.hid ((hb6.block _ hlt5).trans HX5.out)
      have HB6 := Lib.hid (HB5.out.step hb6)
      have HO6 := Lib.hid (HO5.out.below hb6 (Nat.le_refl _))
      have HN6 := Lib.hid (HN5.out.below hb6 (Nat.le_refl _))
      have HD6 := Lib.hid (HD5.out.below hb6 (Nat.le_refl _))
      have hlt6 := Nat.lt_of_lt_of_le hlt5 hb6.size
      clear hb6
      go_upto_region 7 with (with_reducible refine wpList_store_row rfl 30 (.tmp 9) (.tmp 58) rfl w6.heap.size _ rfl rfl 30 _ (heap_alloc_new w6 _) ?s1 ?s2 ?s3 ?_)
      case s1 => exact size_reply
      case s2 => rfl
      case s3 => simp [replyCells, Value.oneCell']
      have hbx : Below w6.heap.size w6 ((w6.alloc (.cells #[.int .i64 0, .int .u64 0, .int .i64 0, .int .u64 0, .slice none 0 0, .slice none 0 0] 30)).setRow w6.heap.size (replyCells ⟨0, 0, 0, 0, [0, 0, 0, 0, 0, 0, 0, 0, 0, 0, 0, 0, 0, 0, 0, 0]⟩ (.slice none 0 0) (.slice none 0 0)).toArray) := below_setRow ((Below.refl _ _).alloc (Nat.le_refl _) _) (Nat.le_refl _) _
      generalize (w6.alloc (.cells #[.int .i64 0, .int .u64 0, .int .i64 0, .int .u64 0, .slice none 0 0, .slice none 0 0] 30)).setRow w6.heap.size (replyCells ⟨0, 0, 0, 0, [0, 0, 0, 0, 0, 0, 0, 0, 0, 0, 0, 0, 0, 0, 0, 0]⟩ (.slice none 0 0) (.slice none 0 0)).toArray = w7 at *
      have HX7 := Lib.hid ((hbx.block _ hlt6).trans HX6.out)
      have HB7 := Lib.hid (HB6.out.step hbx)
      have HO7 := Lib.hid (HO6.out.below hbx (Nat.le_refl _))
      have HN7 := Lib.hid (HN6.out.below hbx (Nat.le_refl _))
      have HD7 := Lib.hid (HD6.out.below hbx (Nat.le_refl _))
      have hlt7 := Nat.lt_of_lt_of_le hlt6 hbx.size
      clear hbx
      go_wp2_with (at_builtin; refine wpList_append_bytes (l := []) (m := F) rfl (.tmp 61) (.tmp 62) rfl rfl rfl (owns_empty w7) (HO7.out.below ((Below.refl _ w7).alloc (Nat.le_refl _) _) (Nat.le_refl _)) HNL.out ?d1 ?d2 ?_)
      case d1 => rw [List.length_nil]; have := H5.out; omega
      case d2 => exact Nat.le_of_lt (by simp)
      intro v8 w8 ho8 hb8
      have HB8 := Lib.hid (HB7.out.step ((((Below.refl _ w7).alloc (Nat.le_refl _) _)).trans hb8))
      have hb78 : Below w7.heap.size w7 w8 := ((Below.refl _ w7).alloc (Nat.le_refl _) _).trans hb8
      have HO8 := Lib.hid ho8
      have HX8 := Lib.hid ((hb78.block _ hlt7).trans HX7.out)
      have hsz8 := hb78.size
      clear ho8 hb8
      go_wp2_with (at_builtin; refine wpList_append_bytes (l := F) (m := [0]) rfl (.tmp 63) (.tmp 64) rfl rfl rfl (HO8.out.alloc _) (row_one (cell_new w8 _ _ _ rfl)) (nilOk_some _ _ _) ?d1 ?d2 ?_)
      case d1 => exact H5.out
      case d2 => exact Nat.le_trans hsz8 (by simp)
      intro v9 w9 ho9 hb9
      have hb89 : Below w7.heap.size w8 w9 := ((Below.refl w7.heap.size w8).alloc hsz8 _).trans hb9
      have hx9 := (hb89.block _ hlt7).trans HX8.out
      have HX9 := Lib.hid hx9
      have hi9 : backInv w cr cp w9 := ⟨HB8.out.1.trans (hb89.mono HB7.out.1.size), (hb89.block _ (by omega)).trans HB8.out.2.1, (hb89.block _ (by omega)).trans HB8.out.2.2.1, Nat.le_trans HB8.out.2.2.2 hb89.size⟩
      have HB9 := Lib.hid hi9
      have HO9 := Lib.hid ho9
      have hb79 : Below w7.heap.size w7 w9 := hb78.trans hb89
      have HN9 := Lib.hid (HN7.out.below hb79 (Nat.le_refl _))
      have HD9 := Lib.hid (HD7.out.below hb79 (Nat.le_refl _))
      have hlt9 := Nat.lt_of_lt_of_le hlt7 hb79.size
      clear hb78 hb89 hb79 ho9 hb9 hx9 hi9
      go_wp2_with fail
      refine (read_request_calls _ (F ++ [0]) w9 HO9.out.row HO9.out.nilOk (isByte.append H4.out (isByte.cons ⟨by decide, by decide⟩ isByte.nil)) (by rw [List.length_append]; exact H5.out)).mono ?_
      rintro e w10 ⟨hb10, ht10⟩
      rw [if_neg (by rw [H3.out]; decide)] at ht10
      subst ht10
      have HX10 := Lib.hid ((hb10.block _ hlt9).trans HX9.out)
      have HB10 := Lib.hid (HB9.out.step hb10)
      have HN10 := Lib.hid (HN9.out.below hb10 (Nat.le_refl _))
      have HD10 := Lib.hid (HD9.out.below hb10 (Nat.le_refl _))
      have hlt10 := Nat.lt_of_lt_of_le hlt9 hb10.size
      clear hb10
      go_upto_region 8 with (with_reducible refine wpList_store_row rfl 28 (.tmp 11) (.tmp 67) rfl w10.heap.size _ rfl rfl 28 _ (heap_alloc_new w10 _) ?s1 ?s2 ?s3 ?_)
      case s1 => exact size_request
      case s2 => rfl
      case s3 => simp [requestCells, Value.oneCell']
      have hby : Below w10.heap.size w10 ((w10.alloc (.cells #[.int .i64 0, .int .u64 0, .int .i64 0, .int .u8 0, .int .u8 0, .int .u8 0, .int .u8 0, .int .u8 0, .int .u8 0, .int .u8 0, .int .u8 0, .int .u8 0, .int .u8 0, .int .u8 0, .int .u8 0, .int .u8 0, .int .u8 0, .int .u8 0, .int .u8 0, .int .u64 0, .slice none 0 0, .slice none 0 0] 28)).setRow w10.heap.size (requestCells ⟨0, 0, 0, 0, [0, 0, 0, 0, 0, 0, 0, 0, 0, 0, 0, 0, 0, 0, 0, 0]⟩ (.slice none 0 0) (.slice none 0 0)).toArray) := below_setRow ((Below.refl _ _).alloc (Nat.le_refl _) _) (Nat.le_refl _) _
      generalize (w10.alloc (.cells #[.int .i64 0, .int .u64 0, .int .i64 0, .int .u8 0, .int .u8 0, .int .u8 0, .int .u8 0, .int .u8 0, .int .u8 0, .int .u8 0, .int .u8 0, .int .u8 0, .int .u8 0, .int .u8 0, .int .u8 0, .int .u8 0, .int .u8 0, .int .u8 0, .int .u8 0, .int .u64 0, .slice none 0 0, .slice none 0 0] 28)).setRow w10.heap.size (requestCells ⟨0, 0, 0, 0, [0, 0, 0, 0, 0, 0, 0, 0, 0, 0, 0, 0, 0, 0, 0, 0]⟩ (.slice none 0 0) (.slice none 0 0)).toArray = w11 at *
      have r7 := loadReq_of ((hby.block _ hlt10).trans HX10.out) HSZ.out
      have HB11 := Lib.hid (HB10.out.step hby)
      have HN11 := Lib.hid (HN10.out.below hby (Nat.le_refl _))
      have HD11 := Lib.hid (HD10.out.below hby (Nat.le_refl _))
      have r2 := loadReq_of HB11.out.2.1 Q22.out
      clear hby
      go_wp2_with fail
      refine (HS4.out w11 HB11.out.1 HN11.out HD11.out).mono ?_
      rintro e w12 ⟨rfl, hb12⟩
      have HB12 := Lib.hid (HB11.out.step hb12)
      clear hb12 r7 r2
      go_wp2_with fail
      go_meet
      case rel => exact HB12.out
  case rest =>
    obtain ⟨w1, rfl⟩ : ∃ w1 : World, w1 = wc := ⟨_, rfl⟩
    have HB1 := Lib.hid hcut
    clear hcut HB0 HB3 HO3 HX1 HP HS
    have r3 := loadRep_of HB1.out.2.2.1 P6.out
    go_wp2_with fail
    refine (HP'.out w1 HB1.out.1).mono ?_
    rintro e w3 ⟨a4, n4, c4, x4, rfl, hb3, ho3⟩
    have HO3 := Lib.hid ho3
    have HB3 := Lib.hid (HB1.out.step hb3)
    clear hb3 ho3 r3
    go_upto_if 91 with (fail)
    go_cut [] (fun wc => backInv w cr cp wc)
    case first =>
      rcases HO3.out with ⟨hm, rfl⟩ | ⟨hm, rfl, ho⟩
      · go_wp2_with fail
        go_meet
        case rel => exact HB3.out
      · obtain ⟨F, hF⟩ : ∃ F, F = repFrame c' ns' d' := ⟨_, rfl⟩
        have n16 : ∀ n ∈ ns', n.length = 16 := by obtain ⟨_, _, _, _, hn16, _⟩ := HA'.out.names; exact hn16
        have gc : goodCore false c' ∧ ns'.length ≤ 128 ∧ d'.length ≤ 8192 := mayBe_good hm (by decide) (by decide) HA'.out.id HA'.out.gen (by rw [if_neg (by decide)]; exact HZ.out)
        have H1 := Lib.hid (reply_ok hm gc.1 n16)
        have H2 := Lib.hid (request_not (tailL (headL c' false) ns' d'))
        have HR := Lib.hid (rep_read hm gc.1 n16)
        have H4 := Lib.hid (show isByte (repFrame c' ns' d') from frameL_byte (by decide) (tailL_byte (headL_byte _ (by have := mayBe_bd hm; omega) HA'.out.nameB) HA'.out.namesB HA'.out.dataB))
        have H5 := Lib.hid (show (repFrame c' ns' d').length + 1 ≤ 2 ^ 46 by
          have := tail_small gc.1 n16 gc.2.1 gc.2.2
          have e := frameL_length 2 (tailL (headL c' false) ns' d')
          unfold repFrame
          omega)
        change Hid (requestOk (repFrame c' ns' d') = false) at H2
        rw [← hF] at H1 H2 HR H4 H5 ho
        have HO := Lib.hid ho
        have hs3 := HB3.out.2.2.2
        clear hF hm gc ho n16 HO3
        go_wp2_with fail
        refine (read_reply_calls _ F w3 HO.out.row HO.out.nilOk H4.out (by have := H5.out; omega)).mono ?_
        rintro e w4 ⟨hb4, ht4⟩
        rw [if_pos H1.out, HR.out] at ht4
        obtain ⟨vn, vd, rfl, hn4, hd4, hdn4⟩ := ht4
        simp only at hn4 hd4
        have HN4 := Lib.hid hn4
        have HD4 := Lib.hid hd4
        obtain ⟨bn, dn, rfl, -⟩ := hn4
        obtain ⟨bd, dd, rfl, -⟩ := hd4
        have HB4 := Lib.hid (HB3.out.step hb4)
        have HO4 := Lib.hid (HO.out.row.below hb4 (Nat.le_refl _))
        have HNL := Lib.hid HO.out.nilOk
        have hs4 := HB4.out.2.2.2
        clear hb4 hdn4
        have hsz := reply_size c' (.slice bn ns'.length dn) (.slice bd d'.length dd) HA'.out.name
        have hone := reply_one c' bn bd ns'.length d'.length dn dd
        have HS4 := Lib.hid (fun u hu hN hD => HS'.out u hu bn bd dn dd hN hD)
        obtain ⟨cs, hcs⟩ : ∃ cs, cs = (replyCells c' (.slice bn ns'.length dn) (.slice bd d'.length dd)).toArray := ⟨_, rfl⟩
        rw [← hcs] at hsz hone HS4 ⊢
        have HSZ := Lib.hid hsz
        have HONE := Lib.hid hone
        have HCZ := Lib.hid (show (Try.prog.info? 30).map (·.size) = some cs.size by rw [hsz]; exact size_reply)
        clear hsz hone hcs
        go_upto_region 13 with (with_reducible refine wpList_store_row rfl 30 (.tmp 15) (.tmp 95) rfl w4.heap.size cs rfl rfl 30 _ (heap_alloc_new w4 _) ?s1 ?s2 ?s3 ?_)
        case s1 => exact HCZ.out
        case s2 => exact HSZ.out.symm
        case s3 => exact HONE.out
        have hx5 : ((w4.alloc (.cells #[.int .i64 0, .int .u64 0, .int .i64 0, .int .u64 0, .slice none 0 0, .slice none 0 0] 30)).setRow w4.heap.size cs).heap[w4.heap.size]? = some (.cells cs 30 (0, 0)) := setRow_heap _ _ _ _ _ _ (heap_alloc_new w4 _)
        have hb5 : Below w4.heap.size w4 ((w4.alloc (.cells #[.int .i64 0, .int .u64 0, .int .i64 0, .int .u64 0, .slice none 0 0, .slice none 0 0] 30)).setRow w4.heap.size cs) := below_setRow ((Below.refl _ _).alloc (Nat.le_refl _) _) (Nat.le_refl _) _
        generalize (w4.alloc (.cells #[.int .i64 0, .int .u64 0, .int .i64 0, .int .u64 0, .slice none 0 0, .slice none 0 0] 30)).setRow w4.heap.size cs = w5 at *
        have HX5 := Lib.hid hx5
        have HB5 := Lib.hid (HB4.out.step hb5)
        have HO5 := Lib.hid (HO4.out.below hb5 (Nat.le_refl _))
        have HN5 := Lib.hid (HN4.out.below hb5 (Nat.le_refl _))
        have HD5 := Lib.hid (HD4.out.below hb5 (Nat.le_refl _))
        have hlt5 : w4.heap.size < w5.heap.size := (Array.getElem?_eq_some_iff.1 hx5).1
        clear hx5 hb5
        go_wp2_with fail
        refine (read_request_calls _ F w5 HO5.out HNL.out H4.out (by have := H5.out; omega)).mono ?_
        rintro e w10 ⟨hb10, ht10⟩
        rw [if_neg (by rw [H2.out]; decide)] at ht10
        subst ht10
        have HX10 := Lib.hid ((hb10.block _ hlt5).trans HX5.out)
        have HB10 := Lib.hid (HB5.out.step hb10)
        have HN10 := Lib.hid (HN5.out.below hb10 (Nat.le_refl _))
        have HD10 := Lib.hid (HD5.out.below hb10 (Nat.le_refl _))
        have hlt10 := Nat.lt_of_lt_of_le hlt5 hb10.size
        clear hb10
        go_upto_region 14 with (with_reducible refine wpList_store_row rfl 28 (.tmp 17) (.tmp 100) rfl w10.heap.size _ rfl rfl 28 _ (heap_alloc_new w10 _) ?s1 ?s2 ?s3 ?_)
        case s1 => exact size_request
        case s2 => rfl
        case s3 => simp [requestCells, Value.oneCell']
        have hby : Below w10.heap.size w10 ((w10.alloc (.cells #[.int .i64 0, .int .u64 0, .int .i64 0, .int .u8 0, .int .u8 0, .int .u8 0, .int .u8 0, .int .u8 0, .int .u8 0, .int .u8 0, .int .u8 0, .int .u8 0, .int .u8 0, .int .u8 0, .int .u8 0, .int .u8 0, .int .u8 0, .int .u8 0, .int .u8 0, .int .u64 0, .slice none 0 0, .slice none 0 0] 28)).setRow w10.heap.size (requestCells ⟨0, 0, 0, 0, [0, 0, 0, 0, 0, 0, 0, 0, 0, 0, 0, 0, 0, 0, 0, 0]⟩ (.slice none 0 0) (.slice none 0 0)).toArray) := below_setRow ((Below.refl _ _).alloc (Nat.le_refl _) _) (Nat.le_refl _) _
        generalize (w10.alloc (.cells #[.int .i64 0, .int .u64 0, .int .i64 0, .int .u8 0, .int .u8 0, .int .u8 0, .int .u8 0, .int .u8 0, .int .u8 0, .int .u8 0, .int .u8 0, .int .u8 0, .int .u8 0, .int .u8 0, .int .u8 0, .int .u8 0, .int .u8 0, .int .u8 0, .int .u8 0, .int .u64 0, .slice none 0 0, .slice none 0 0] 28)).setRow w10.heap.size (requestCells ⟨0, 0, 0, 0, [0, 0, 0, 0, 0, 0, 0, 0, 0, 0, 0, 0, 0, 0, 0, 0]⟩ (.slice none 0 0) (.slice none 0 0)).toArray = w11 at *
        have r7 := loadRep_of ((hby.block _ hlt10).trans HX10.out) HSZ.out
        have HB11 := Lib.hid (HB10.out.step hby)
        have HN11 := Lib.hid (HN10.out.below hby (Nat.le_refl _))
        have HD11 := Lib.hid (HD10.out.below hby (Nat.le_refl _))
        have r2 := loadRep_of HB11.out.2.2.1 P6.out
        clear hby
        go_wp2_with fail
        refine (HS4.out w11 HB11.out.1 HN11.out HD11.out).mono ?_
        rintro e w12 ⟨rfl, hb12⟩
        have HB12 := Lib.hid (HB11.out.step hb12)
        clear hb12 r7 r2
        go_wp2_with fail
        go_meet
        case rel => exact HB12.out
    case rest =>
      obtain ⟨w2, rfl⟩ : ∃ w2 : World, w2 = wc := ⟨_, rfl⟩
      have HB2 := Lib.hid hcut
      clear hcut HB1 HB3 HO3 HP' HS'
      have hone : cr.all (·.oneCell') = true := by rw [HCR.out]; exact request_one _ _ _ _ _ _ _
      have HONE := Lib.hid hone
      have honep : cp.all (·.oneCell') = true := by rw [HCP.out]; exact reply_one _ _ _ _ _ _ _
      have HONEP := Lib.hid honep
      clear hone honep
      have r2 := loadReq_of HB2.out.2.1 Q22.out
      go_upto_region 17 with (with_reducible refine wpList_store_row rfl 28 (.tmp 19) (.tmp 114) rfl w2.heap.size cr rfl rfl 28 _ (heap_alloc_new w2 _) ?s1 ?s2 ?s3 ?_)
      case s1 => exact HSR.out
      case s2 => exact Q22.out.symm
      case s3 => exact HONE.out
      have hx3 : ((w2.alloc (.cells #[.int .i64 0, .int .u64 0, .int .i64 0, .int .u8 0, .int .u8 0, .int .u8 0, .int .u8 0, .int .u8 0, .int .u8 0, .int .u8 0, .int .u8 0, .int .u8 0, .int .u8 0, .int .u8 0, .int .u8 0, .int .u8 0, .int .u8 0, .int .u8 0, .int .u8 0, .int .u64 0, .slice none 0 0, .slice none 0 0] 28)).setRow w2.heap.size cr).heap[w2.heap.size]? = some (.cells cr 28 (0, 0)) := setRow_heap _ _ _ _ _ _ (heap_alloc_new w2 _)
      have hb3 : Below w2.heap.size w2 ((w2.alloc (.cells #[.int .i64 0, .int .u64 0, .int .i64 0, .int .u8 0, .int .u8 0, .int .u8 0, .int .u8 0, .int .u8 0, .int .u8 0, .int .u8 0, .int .u8 0, .int .u8 0, .int .u8 0, .int .u8 0, .int .u8 0, .int .u8 0, .int .u8 0, .int .u8 0, .int .u8 0, .int .u64 0, .slice none 0 0, .slice none 0 0] 28)).setRow w2.heap.size cr) := below_setRow ((Below.refl _ _).alloc (Nat.le_refl _) _) (Nat.le_refl _) _
      generalize (w2.alloc (.cells #[.int .i64 0, .int .u64 0, .int .i64 0, .int .u8 0, .int .u8 0, .int .u8 0, .int .u8 0, .int .u8 0, .int .u8 0, .int .u8 0, .int .u8 0, .int .u8 0, .int .u8 0, .int .u8 0, .int .u8 0, .int .u8 0, .int .u8 0, .int .u8 0, .int .u8 0, .int .u64 0, .slice none 0 0, .slice none 0 0] 28)).setRow w2.heap.size cr = w3 at *
      have HB3 := Lib.hid (HB2.out.step hb3)
      have m1 := cell_of_row _ _ 1 _ _ _ HB3.out.2.1
      rw [show cr[1]? = some (.int .u64 c.id) from by rw [HCR.out]; rfl] at m1
      have n1 := cell_of_row _ _ 1 _ _ _ hx3
      rw [show cr[1]? = some (.int .u64 c.id) from by rw [HCR.out]; rfl] at n1
      have f1 := frozen_of_row _ _ 1 _ _ hx3
      have HX3 := Lib.hid hx3
      have hs2 := HB2.out.2.2.2
      have hs3 := hb3.size
      have hl3 : w2.heap.size < w3.heap.size := (Array.getElem?_eq_some_iff.1 hx3).1
      clear hx3 hb3 r2
      go_upto_region 18 with (fail)
      have hx4 : (w3.setCell ⟨w2.heap.size, 1, none⟩ (.int .u64 (IntKind.u64.wrap (c.id + 1)))).heap[w2.heap.size]? = some (.cells (cr.setIfInBounds 1 (.int .u64 (IntKind.u64.wrap (c.id + 1)))) 28 (0, 0)) := heap_setCell_same w3 _ 1 cr _ _ HX3.out
      have hb4 : Below w2.heap.size w3 (w3.setCell ⟨w2.heap.size, 1, none⟩ (.int .u64 (IntKind.u64.wrap (c.id + 1)))) := (Below.refl w2.heap.size w3).setCell (p := ⟨w2.heap.size, 1, none⟩) (Nat.le_refl _) _
      generalize w3.setCell ⟨w2.heap.size, 1, none⟩ (.int .u64 (IntKind.u64.wrap (c.id + 1))) = w4 at *
      have hi4 : backInv w cr cp w4 := ⟨HB3.out.1.trans (hb4.mono HB2.out.1.size), (hb4.block _ (by omega)).trans HB3.out.2.1, (hb4.block _ (by omega)).trans HB3.out.2.2.1, Nat.le_trans HB3.out.2.2.2 hb4.size⟩
      have HB4 := Lib.hid hi4
      have HX4 := Lib.hid hx4
      have hl4 : w2.heap.size < w4.heap.size := Nat.lt_of_lt_of_le hl3 hb4.size
      clear hx4 hb4 hi4 m1 n1 f1 HX3 HB3 hl3 hs3
      have r3 := loadRep_of HB4.out.2.2.1 P6.out
      go_upto_region 19 with (with_reducible refine wpList_store_row rfl 30 (.tmp 20) (.tmp 119) rfl w4.heap.size cp rfl rfl 30 _ (heap_alloc_new w4 _) ?s1 ?s2 ?s3 ?_)
      case s1 => exact HSP.out
      case s2 => exact P6.out.symm
      case s3 => exact HONEP.out
      have hx5 : ((w4.alloc (.cells #[.int .i64 0, .int .u64 0, .int .i64 0, .int .u64 0, .slice none 0 0, .slice none 0 0] 30)).setRow w4.heap.size cp).heap[w4.heap.size]? = some (.cells cp 30 (0, 0)) := setRow_heap _ _ _ _ _ _ (heap_alloc_new w4 _)
      have hb5 : Below w4.heap.size w4 ((w4.alloc (.cells #[.int .i64 0, .int .u64 0, .int .i64 0, .int .u64 0, .slice none 0 0, .slice none 0 0] 30)).setRow w4.heap.size cp) := below_setRow ((Below.refl _ _).alloc (Nat.le_refl _) _) (Nat.le_refl _) _
      generalize (w4.alloc (.cells #[.int .i64 0, .int .u64 0, .int .i64 0, .int .u64 0, .slice none 0 0, .slice none 0 0] 30)).setRow w4.heap.size cp = w5 at *
      have HB5 := Lib.hid (HB4.out.step hb5)
      have HX5 := Lib.hid ((hb5.block _ hl4).trans HX4.out)
      have m1 := cell_of_row _ _ 2 _ _ _ HB5.out.2.2.1
      rw [show cp[2]? = some (.int .i64 c'.kind) from by rw [HCP.out]; rfl] at m1
      have n1 := cell_of_row _ _ 2 _ _ _ hx5
      rw [show cp[2]? = some (.int .i64 c'.kind) from by rw [HCP.out]; rfl] at n1
      have f1 := frozen_of_row _ _ 2 _ _ hx5
      have HY5 := Lib.hid hx5
      have hs4 := HB4.out.2.2.2
      have hs5 := hb5.size
      have hl5 : w4.heap.size < w5.heap.size := (Array.getElem?_eq_some_iff.1 hx5).1
      clear hx5 hb5 r3 HX4
      go_upto_region 20 with (fail)
      have hx6 : (w5.setCell ⟨w4.heap.size, 2, none⟩ (.int .i64 (bits .xor .i64 c'.kind 1))).heap[w4.heap.size]? = some (.cells (cp.setIfInBounds 2 (.int .i64 (bits .xor .i64 c'.kind 1))) 30 (0, 0)) := heap_setCell_same w5 _ 2 cp _ _ HY5.out
      have hb6 : Below w4.heap.size w5 (w5.setCell ⟨w4.heap.size, 2, none⟩ (.int .i64 (bits .xor .i64 c'.kind 1))) := (Below.refl w4.heap.size w5).setCell (p := ⟨w4.heap.size, 2, none⟩) (Nat.le_refl _) _
      generalize w5.setCell ⟨w4.heap.size, 2, none⟩ (.int .i64 (bits .xor .i64 c'.kind 1)) = w6 at *
      have hi6 : backInv w cr cp w6 := ⟨HB5.out.1.trans (hb6.mono HB4.out.1.size), (hb6.block _ (by omega)).trans HB5.out.2.1, (hb6.block _ (by omega)).trans HB5.out.2.2.1, Nat.le_trans HB5.out.2.2.2 hb6.size⟩
      have HB6 := Lib.hid hi6
      have hx26 := (hb6.block _ hl4).trans HX5.out
      have hl6 : w4.heap.size < w6.heap.size := Nat.lt_of_lt_of_le hl5 hb6.size
      have e1 : cr.setIfInBounds 1 (.int .u64 (IntKind.u64.wrap (c.id + 1))) = (requestCells { c with id := IntKind.u64.wrap (c.id + 1) } (.slice an ns.length cn) (.slice ad d.length cd)).toArray := by rw [HCR.out]; simp [requestCells]
      have e2 : cp.setIfInBounds 2 (.int .i64 (bits .xor .i64 c'.kind 1)) = (replyCells { c' with kind := bits .xor .i64 c'.kind 1 } (.slice an' ns'.length cn') (.slice ad' d'.length cd')).toArray := by rw [HCP.out]; simp [replyCells]
      have z1 := requestCells_size { c with id := IntKind.u64.wrap (c.id + 1) } (.slice an ns.length cn) (.slice ad d.length cd) HA.out.name
      have z2 := reply_size { c' with kind := bits .xor .i64 c'.kind 1 } (.slice an' ns'.length cn') (.slice ad' d'.length cd') HA'.out.name
      have NO := Lib.hid (fun u => same_request_no c { c with id := IntKind.u64.wrap (c.id + 1) } (.slice an ns.length cn) (.slice ad d.length cd) (.slice an ns.length cn) (.slice ad d.length cd) u HA.out.name HA.out.name HG.out ⟨HG.out.1, HG.out.2.1, wrap_u64_bd _, HG.out.2.2.2⟩ (fun h => next_other HA.out.id (congrArg Core.id h).symm))
      have NO' := Lib.hid (fun u => same_reply_no c' { c' with kind := bits .xor .i64 c'.kind 1 } (.slice an' ns'.length cn') (.slice ad' d'.length cd') (.slice an' ns'.length cn') (.slice ad' d'.length cd') u HZ.out HZ.out HG'.out ⟨HG'.out.1, flip_bd _, HG'.out.2.2⟩ (fun h => flip_other c'.kind (congrArg Core.kind h).symm))
      rw [← HCR.out] at NO
      rw [← HCP.out] at NO'
      rw [e1] at hx26
      rw [e2] at hx6
      obtain ⟨cr2, hcr2⟩ : ∃ x, x = (requestCells { c with id := IntKind.u64.wrap (c.id + 1) } (.slice an ns.length cn) (.slice ad d.length cd)).toArray := ⟨_, rfl⟩
      obtain ⟨cp2, hcp2⟩ : ∃ x, x = (replyCells { c' with kind := bits .xor .i64 c'.kind 1 } (.slice an' ns'.length cn') (.slice ad' d'.length cd')).toArray := ⟨_, rfl⟩
      rw [← hcr2] at hx26 z1 NO
      rw [← hcp2] at hx6 z2 NO'
      have Z2 := Lib.hid z2
      have HX6 := Lib.hid hx6
      have r2 := loadReq_of HB6.out.2.1 Q22.out
      have r19 := loadReq_of hx26 z1
      have hs6 := HB6.out.2.2.2
      clear hcr2 hcp2 e1 e2 hx6 hx26 z1 z2 hb6 hi6 m1 n1 f1 hs5 hs4 hl5
      go_wp2_with fail
      refine (NO.out w6).mono ?_
      rintro e w7 ⟨rfl, hb7⟩
      have HB7 := Lib.hid (HB6.out.step hb7)
      have r3 := loadRep_of HB7.out.2.2.1 P6.out
      have r20 := loadRep_of ((hb7.block _ hl6).trans HX6.out) Z2.out
      clear r2 r19 hb7
      go_wp2_with fail
      refine (NO'.out w7).mono ?_
      rintro e w8 ⟨rfl, hb8⟩
      have HB8 := Lib.hid (HB7.out.step hb8)
      clear r3 r20 hb8
      go_wp2_with fail
      refine (one_calls w8).mono ?_
      rintro e w9 ⟨rfl, hb9⟩
      have HB9 := Lib.hid (HB8.out.step hb9)
      clear hb9
      go_wp2_with fail
      go_ret
      exact ⟨rfl, HB9.out.1⟩
end Go.Proofs.Ytpacfijkhhjfeaa
