/- frame.check and frame.Put. -/
import Derived.Test.YtpacfijkhhjfeaaWirePut
import Derived.Test.YtpacfijkhhjfeaaShaOf
import Derived.Lib.SlBytesConst
import Derived.ArgAppend
namespace Go.Proofs.Ytpacfijkhhjfeaa
set_option linter.unusedVariables false
set_option linter.unusedSimpArgs false
open Go.RowKit

theorem isArr.row {w : World} {g : Nat} {T : TypeId} {k : IntKind} {l : List Int} (h : isArr w g T k l) (n c : Nat) (hn : n ≤ l.length) (hc : n ≤ c) : isRow w k (.slice (some ⟨g, 0, none⟩) n c) (l.take n) := by
  have hlen : (l.take n).length = n := by rw [List.length_take]; exact Nat.min_eq_left hn
  refine ⟨_, c, by rw [hlen], by rw [hlen]; exact hc, fun _ => ⟨_, rfl, h.lt, fun j hj => ?_⟩⟩
  rw [hlen] at hj
  rw [add_plain, Nat.zero_add, h.cell j (by omega)]
  simp [List.getD, List.getElem?_take_of_lt hj]

theorem shaL_byte (l : List Int) : isByte (shaL l) := by
  intro x hx
  simp only [shaL, sumL, outBytes, List.mem_map] at hx
  obtain ⟨i, _, rfl⟩ := hx
  unfold outByte
  have h1 := Int.emod_nonneg (((feed (feed fed0 l) (tail (feed fed0 l).n)).s.getD (i / 4) 0) / 2 ^ (8 * (3 - i % 4))) (by decide : (256 : Int) ≠ 0)
  have h2 := Int.emod_lt_of_pos (((feed (feed fed0 l) (tail (feed fed0 l).n)).s.getD (i / 4) 0) / 2 ^ (8 * (3 - i % 4))) (by decide : (0 : Int) < 256)
  exact ⟨h1, by omega⟩

set_option maxHeartbeats 2000000 in
set_option maxRecDepth 100000 in
theorem check_calls (v : Value) (l : List Int) (w : World) (hv : isRow w .u8 v l) (hb : isByte l) (hl : Hid (l.length < 2 ^ 60)) :
    Calls Try.prog 35 #[v] w fun e w' => ∃ g, e = .returned (.slice (some ⟨g, 0, none⟩) 4 32) ∧ w.heap.size ≤ g ∧ isRow w' .u8 (.slice (some ⟨g, 0, none⟩) 4 32) ((shaL l).take 4) ∧ Below w.heap.size w w' := by
  have HV := Lib.hid hv
  have HBY := Lib.hid hb
  clear hv hb
  go_enter Try.func35, Try.ntmps35
  go_wp2_with fail
  refine (sum_calls v l w HV.out HBY.out hl.out).mono ?_
  rintro e w1 ⟨rfl, hb1⟩
  have HB := Lib.hid hb1
  have hbs := hb1.size
  have hl32 : ((shaL l).map (Value.int .u8)).toArray.size = 32 := by simp [shaL_length]
  have hall : (((shaL l).map (Value.int .u8)).toArray.all fun x => x.oneCell') = true := by rw [List.all_toArray, List.all_map]; exact List.all_eq_true.2 fun _ _ => rfl
  obtain ⟨ob, hob⟩ : ∃ ob, ob = ((shaL l).map (Value.int .u8)).toArray := ⟨_, rfl⟩
  rw [← hob] at hl32 hall ⊢
  have HOB := Lib.hid hob
  clear hb1 hob
  have hsl := fun u : World => run_slice_arr (P := Try.prog) u 88 5 32 Try.underlying88 Try.sizeOf5 w1.heap.size 0 0 4 0 4 rfl rfl (by omega) (by omega) (by omega) .i64 .i64
  go_wp2_with (with_reducible refine wpList_store_row rfl 88 (.tmp 3) (.tmp 5) rfl w1.heap.size _ rfl rfl 88 _ (heap_alloc_new w1 _) ?a1 ?a2 ?a3 ?_)
  case a1 => rw [size_32, hl32]
  case a2 => rw [hl32]; rfl
  case a3 => exact hall
  go_ret
  refine ⟨w1.heap.size, rfl, hbs, ?_, below_setRow (HB.out.alloc hbs _) hbs _⟩
  have harr : isArr ((w1.alloc (.cells ((List.replicate 32 0).map (Value.int .u8)).toArray 88)).setRow w1.heap.size ob) w1.heap.size 88 .u8 (shaL l) := by
    unfold isArr
    rw [HOB.out]
    exact setRow_heap _ _ _ _ _ _ (heap_alloc_new w1 _)
  exact harr.row 4 32 (by rw [shaL_length]; omega) (by omega)

theorem owns.mono {w : World} {B B' : Nat} {v : Value} {l : List Int} (h : owns w B v l) (hB : B' ≤ B) : owns w B' v l := by
  obtain ⟨h1, h2⟩ := h
  refine ⟨h1, ?_⟩
  rcases h2 with h3 | ⟨g, c, cur, h4, hg, h5⟩
  · exact Or.inl h3
  · exact Or.inr ⟨g, c, cur, h4, Nat.le_trans hB hg, h5⟩

theorem ownsBelow {w w' : World} {B : Nat} {v : Value} {l : List Int} (h : owns w B v l) (hb : Below w.heap.size w w') : owns w' B v l :=
  owns.kept h (row := none) ⟨hb.os, hb.tape, hb.output, hb.size, fun k hk _ => hb.block k hk⟩ (by
    rcases h.form with ⟨rfl, _⟩ | ⟨g, c, rfl, _⟩
    · exact Or.inl rfl
    · exact Or.inr (by simp [Value.ownBlock]))

/-- the frame of bytes, of a kind -/
def frameBody (k : Int) (l : List Int) : List Int := [67, 70, 49] ++ [k] ++ numBytes l.length 4 ++ l
def frameL (k : Int) (l : List Int) : List Int := frameBody k l ++ (shaL (frameBody k l)).take 4

theorem numBytes_byte (c : Int) : ∀ k, isByte (numBytes c k)
  | 0 => isByte.nil
  | k + 1 => isByte.cons (by
      have h1 := Int.emod_nonneg (c / 2 ^ (8 * k)) (by decide : (256 : Int) ≠ 0)
      have h2 := Int.emod_lt_of_pos (c / 2 ^ (8 * k)) (by decide : (0 : Int) < 256)
      exact ⟨h1, by omega⟩) (numBytes_byte c k)

theorem frameBody_byte {k : Int} {l : List Int} (hk : 0 ≤ k ∧ k ≤ 255) (hl : isByte l) : isByte (frameBody k l) :=
  (((isByte.cons (by omega) (isByte.cons (by omega) (isByte.cons (by omega) isByte.nil))).append (isByte.cons hk isByte.nil)).append (numBytes_byte _ _)).append hl

set_option maxHeartbeats 2000000 in
set_option maxRecDepth 100000 in
theorem frame_put_calls (k : Nat) (v : Value) (l : List Int) (w : World) (hk1 : 1 ≤ k) (hk2 : k ≤ 255) (hv : isRow w .u8 v l) (hnil : NilOk v) (hb : isByte l) (hl : l.length ≤ 65536) :
    Calls Try.prog 21 #[.int .i64 k, v] w fun e w' => ∃ v', e = .returned (.tuple #[v', .int .i64 0]) ∧ owns w' w.heap.size v' (frameL k l) ∧ Below w.heap.size w w' := by
  have HV := Lib.hid hv
  have HBY := Lib.hid hb
  have HNI := Lib.hid hnil
  obtain ⟨a, c, rfl, hc, -⟩ := hv
  have i1 : (1 : Int) ≤ k := by omega
  have i2 : (k : Int) ≤ 255 := by omega
  have i3 : (l.length : Int) ≤ 65536 := by omega
  clear hb hnil
  obtain ⟨i0, hi, hz0, hz1, hz2⟩ := info_parts info_u8
  have hcv : (convert 26 26 (.slice (some ⟨w.heap.size, 0, none⟩) 3 3)).run Try.prog (w.alloc (.cells #[.int .u8 67, .int .u8 70, .int .u8 49] 5)) = .ok (.slice (some ⟨w.heap.size, 0, none⟩) 3 3) (w.alloc (.cells #[.int .u8 67, .int .u8 70, .int .u8 49] 5 (3, 4))) :=
    Lib.run_convert_bytes_const (P := Try.prog) w 26 5 #[.int .u8 67, .int .u8 70, .int .u8 49] 3 3 Try.underlying26 Try.underlying5
  go_enter Try.func21, Try.ntmps21
  go_wp2_with (at_builtin; refine wpList_append_grows _ rfl (.tmp 19) (.tmp 22) 26 rfl 5 i0 (.int .u8 0) 1 1 Try.underlying26 hi hz0 hz1 hz2 rfl (by decide) (some ⟨w.heap.size, 0, none⟩) 3 3 [.int .u8 67, .int .u8 70, .int .u8 49] rfl (by simp) rfl ?c1 ⟨w.heap.size + 1, 0, none⟩ 1 1 [.int .u8 k] rfl rfl ?c2 ?c3 (by omega) (by unfold maxLen; omega) (by omega) ?_)
  case c1 =>
    intro b hb' j u hj
    cases hb'
    have hblk : ((w.alloc (.cells #[.int .u8 67, .int .u8 70, .int .u8 49] 5 (3, 4))).alloc (.cells #[.int .u8 k] 5)).heap[w.heap.size]? = some (.cells #[.int .u8 67, .int .u8 70, .int .u8 49] 5 (3, 4)) := by
      rw [Below.heap_alloc _ _ _ (by simp)]
      exact heap_alloc_new w _
    rw [add_plain, cell_of_row _ _ _ _ _ _ hblk]
    simpa using hj
  case c2 =>
    intro j u hj
    have hj0 : j = 0 := by
      rcases j with _ | j
      · rfl
      · simp at hj
    subst hj0
    have hblk : ((w.alloc (.cells #[.int .u8 67, .int .u8 70, .int .u8 49] 5 (3, 4))).alloc (.cells #[.int .u8 k] 5)).heap[w.heap.size + 1]? = some (.cells #[.int .u8 k] 5) := by
      have := heap_alloc_new (w.alloc (.cells #[.int .u8 67, .int .u8 70, .int .u8 49] 5 (3, 4))) (.cells #[.int .u8 k] 5)
      simpa using this
    rw [add_plain, cell_of_row _ _ _ _ _ _ hblk]
    simpa using hj
  case c3 => intro u hu; simp at hu; subst hu; rfl
  intro v1 w1 hown1 hgrow1
  have hb0 : Below w.heap.size w ((w.alloc (.cells #[.int .u8 67, .int .u8 70, .int .u8 49] 5 (3, 4))).alloc (.cells #[.int .u8 k] 5)) := ((Below.refl w.heap.size w).alloc (Nat.le_refl _) _).alloc (by simp) _
  have ho1 : owns w1 w.heap.size v1 [67, 70, 49, (k : Int)] := owns.mono (B := w.heap.size + 1 + 1) hown1 (by omega)
  have hb1 : Below w.heap.size w w1 := hb0.trans ((below_of_grown hgrow1).mono hb0.size)
  have HO1 := Lib.hid ho1
  have HB1 := Lib.hid hb1
  clear hown1 hgrow1 hb0 ho1 hb1 hcv
  have HV1 := Lib.hid (HV.out.below HB1.out (Nat.le_refl _))
  go_wp2_with fail
  refine (sized_calls v1 _ [67, 70, 49, (k : Int)] l w1 HO1.out.row HO1.out.nilOk HV1.out HNI.out (Lib.hid (by simp; omega))).mono ?_
  rintro e w2 ⟨v2, rfl, ho2, hb2⟩
  have hbd : [67, 70, 49, (k : Int)] ++ numBytes l.length 4 ++ l = frameBody k l := rfl
  rw [hbd] at ho2
  have hlen2 : (frameBody k l).length = l.length + 8 := by simp [frameBody, numBytes_length]; omega
  have hw1 := HB1.out.size
  have HO2 := Lib.hid (owns.mono ho2 hw1)
  have HB2 := Lib.hid (HB1.out.trans (hb2.mono hw1))
  have HL2 := Lib.hid hlen2
  clear ho2 hb2 hbd hlen2
  go_wp2_with fail
  refine (check_calls v2 (frameBody k l) w2 HO2.out.row (frameBody_byte ⟨by omega, by omega⟩ HBY.out) (Lib.hid (by rw [HL2.out]; omega))).mono ?_
  rintro e w3 ⟨g, rfl, hg, hrow, hb3⟩
  have HR := Lib.hid hrow
  have hw2 := HB2.out.size
  have HO3 := Lib.hid (ownsBelow HO2.out hb3)
  have HB3 := Lib.hid (HB2.out.trans (hb3.mono hw2))
  clear hrow hb3
  go_wp2_with (at_builtin; refine wpList_append_bytes rfl (.tmp 26) (.tmp 28) rfl rfl rfl HO3.out HR.out ?d1 ?d2 ?d3 ?_)
  case d1 => intro n c he; cases he
  case d2 => rw [HL2.out, List.length_take, shaL_length]; omega
  case d3 => exact HB3.out.size
  intro v4 w4 ho4 hb4
  have HO4 := Lib.hid ho4
  have HB4 := Lib.hid (HB3.out.trans hb4)
  clear ho4 hb4
  go_wp2_with fail
  go_ret2
  exact ⟨_, rfl, HO4.out, HB4.out⟩
end Go.Proofs.Ytpacfijkhhjfeaa
