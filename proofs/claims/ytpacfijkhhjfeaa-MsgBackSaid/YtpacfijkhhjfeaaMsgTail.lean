/- msg.tail. -/
import Derived.Test.YtpacfijkhhjfeaaMsgHead
namespace Go.Proofs.Ytpacfijkhhjfeaa
set_option linter.unusedVariables false
set_option linter.unusedSimpArgs false
open Go.RowKit

def tailL (l : List Int) (ns : List (List Int)) (d : List Int) : List Int := l ++ numBytes ns.length 2 ++ ns.flatten ++ numBytes d.length 4 ++ d

set_option maxHeartbeats 1000000 in
set_option maxRecDepth 100000 in
theorem tail_calls (v vn vd : Value) (l : List Int) (ns : List (List Int)) (d : List Int) (w : World) (hv : isRow w .u8 v l) (hnil : NilOk v) (hN : isNames w 16 vn ns) (hd : isRow w .u8 vd d) (hdn : NilOk vd) (hl : Hid (l.length + 16 * ns.length + d.length + 64 ≤ 2 ^ 46)) :
    Calls Try.prog 22 #[v, vn, vd] w fun e w' => ∃ v', e = .returned v' ∧ owns w' w.heap.size v' (tailL l ns d) ∧ Below w.heap.size w w' := by
  have HV := Lib.hid hv
  have HI := Lib.hid hnil
  have HN := Lib.hid hN
  have HD := Lib.hid hd
  have HDN := Lib.hid hdn
  obtain ⟨a, c, rfl, hc, hn16, -⟩ := hN
  have HN16 := Lib.hid hn16
  have b1 : (0 : Int) ≤ ns.length := by omega
  have b2 : (ns.length : Int) ≤ 9223372036854775807 := by have := hl.out; omega
  clear hv hnil hd hdn hn16
  go_enter Try.func22, Try.ntmps22
  go_wp2_with fail
  refine (put_calls v l ns.length 2 w HV.out HI.out (by have := hl.out; omega) (Lib.hid ⟨b1, by omega⟩) (by omega)).mono ?_
  rintro e w1 ⟨v1, rfl, ho1, hb1⟩
  have HO := Lib.hid ho1
  have HB := Lib.hid hb1
  have hbs := hb1.size
  clear ho1 hb1
  go_wp2_with fail
  go_loopw [0, 16] (fun v2 y wr => ∃ k : Nat, k ≤ ns.length ∧ y = .int .i64 k ∧ owns wr w.heap.size v2 (l ++ numBytes ns.length 2 ++ (ns.take k).flatten) ∧ Below w.heap.size w wr) (fun _ y _ => (ns.length - intOf y).toNat)
  case atStart => exact ⟨0, Nat.zero_le _, rfl, by rw [List.take_zero, List.flatten_nil, List.append_nil]; exact HO.out, HB.out⟩
  case round =>
    clear HO HB
    obtain ⟨k, hk, rfl, ho, hb⟩ := hrel
    obtain ⟨wo, rfl⟩ : ∃ wo : World, wo = wr := ⟨_, rfl⟩
    have hwo := hb.size
    have HO := Lib.hid ho
    have HB := Lib.hid hb
    clear ho hb hbs
    by_cases hlt : k < ns.length
    · obtain ⟨b, off, rfl, hbw, hrg⟩ : ∃ b off, a = some ⟨b, off, none⟩ ∧ b < w.heap.size ∧ wo.rangeAt b (off + k * 16) ((ns.getD k []).map (Value.int .u8)) := by
        obtain ⟨a', c', he, -, -, hr⟩ := HN.out
        cases he
        obtain ⟨b, off, rfl, hb1, hr1⟩ := hr (by intro h; rw [h] at hlt; simp at hlt)
        exact ⟨b, off, rfl, hb1, rangeAt_block (hr1 k hlt) (HB.out.block b hb1)⟩
      have HG := Lib.hid hrg
      have hl16 : (ns.getD k []).length = 16 := HN.out.length k hlt
      have HL16 := Lib.hid hl16
      clear hrg hl16
      have hall : (((ns.getD k []).map (Value.int .u8)).toArray.all fun x => x.oneCell') = true := by rw [List.all_toArray, List.all_map]; exact List.all_eq_true.2 fun _ _ => rfl
      obtain ⟨nm, hnm⟩ : ∃ nm, nm = (ns.getD k []).map (Value.int .u8) := ⟨_, rfl⟩
      rw [← hnm] at hall HG
      have HNM := Lib.hid hnm
      have hnl : nm.length = 16 := by rw [hnm, List.length_map]; exact HL16.out
      have HNL := Lib.hid hnl
      have HALL := Lib.hid hall
      clear hnm hnl hall
      have hsl := fun u : World => run_slice_arr_all (P := Try.prog) u 24 5 16 Try.underlying24 Try.sizeOf5 wo.heap.size 0
      go_wp2_with (first
        | (with_reducible refine wpList_load_mid rfl 24 (.tmp 18) rfl b (off + k * 16) rfl nm _ HG.out Try.underlying24 rfl ?c2 ?_)
        | (with_reducible refine wpList_store_row rfl 24 (.tmp 8) (.tmp 19) rfl wo.heap.size _ rfl rfl 24 _ (heap_alloc_new wo _) ?a1 ?a2 ?a3 ?_)
        | (at_builtin; refine wpList_append_bytes (B := w.heap.size) (l := l ++ numBytes ns.length 2 ++ (ns.take k).flatten) (m := ns.getD k []) rfl (.tmp 20) (.tmp 21) rfl rfl rfl ?d1 ?d2 (nilOk_some _ _ _) ?d3 ?d4 ?_))
      case c2 => rw [HNL.out]; exact size_name
      case a1 => rw [List.size_toArray, HNL.out]; exact size_name
      case a2 => exact HNL.out.symm
      case a3 => exact HALL.out
      case d1 => exact ownsBelow HO.out (below_setRow ((Below.refl _ _).alloc (Nat.le_refl _) _) (Nat.le_refl _) _)
      case d2 =>
        have harr : isArr ((wo.alloc (.cells ((List.replicate 16 0).map (Value.int .u8)).toArray 24)).setRow wo.heap.size nm.toArray) wo.heap.size 24 .u8 (ns.getD k []) := by
          unfold isArr
          rw [← HNM.out]
          exact setRow_heap _ _ _ _ _ _ (heap_alloc_new wo _)
        have := harr.row 16 16 (by rw [HL16.out]; omega) (by omega)
        rwa [List.take_of_length_le (by rw [HL16.out]; omega)] at this
      case d3 =>
        rw [List.length_append, List.length_append, numBytes_length, HL16.out, flat_length (k := 16) (fun n hn => HN16.out n (List.mem_of_mem_take hn)), List.length_take]
        have := hl.out
        omega
      case d4 => simp only [setRow_size, World.size_alloc]; omega
      intro v3 w3 ho3 hb3
      have ho4 : owns w3 w.heap.size v3 (l ++ numBytes ns.length 2 ++ (ns.take (k + 1)).flatten) := by rw [flat_take hlt]; simpa [List.getD, hlt] using ho3
      have HB3 := Lib.hid (HB.out.trans ((below_setRow ((Below.refl w.heap.size wo).alloc hwo _) hwo _).trans hb3))
      have HO3 := Lib.hid ho4
      clear ho3 hb3 ho4
      go_wp2_with fail
      exact ⟨⟨k + 1, by omega, by go_num, HO3.out, HB3.out⟩, by simp [intOf]; omega⟩
    · have hke : k = ns.length := by omega
      subst hke
      have HO5 : Hid (owns wo w.heap.size u0 (l ++ numBytes ns.length 2 ++ ns.flatten)) := by have := HO.out; rwa [List.take_length] at this
      have HU := Lib.hid (HD.out.below HB.out (Nat.le_refl _))
      go_wp2_with fail
      refine (sized_calls _ vd _ d wo HO5.out.row HO5.out.nilOk HU.out HDN.out (Lib.hid (by rw [List.length_append, List.length_append, numBytes_length, flat_length HN16.out]; have := hl.out; omega))).mono ?_
      rintro e w2 ⟨v2, rfl, ho2, hb2⟩
      have HO2 := Lib.hid (owns.mono ho2 hwo)
      have HB2 := Lib.hid (HB.out.trans (hb2.mono hwo))
      clear ho2 hb2
      go_wp2_with fail
      go_ret
      exact ⟨_, rfl, HO2.out, HB2.out⟩
end Go.Proofs.Ytpacfijkhhjfeaa
