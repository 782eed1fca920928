/- The contract of sha.schedule. -/
import Derived.Test.YtpacfijkhhjfeaaShaSpec
import Derived.RegionTactic
import Derived.ChangeAlike
import Derived.BigRegion
import Derived.Deep.RegionWith
import Derived.Laws.CopyOwn
namespace Go.Proofs.Ytpacfijkhhjfeaa
set_option linter.unusedVariables false
set_option linter.unusedSimpArgs false
open Go.RowKit

theorem part_get {b : Nat → Int} {t i : Nat} (hi : i < t) (ht : t ≤ 64) : (words b t ++ List.replicate (64 - t) 0).getD i 0 = (words b t).getD i 0 := by
  simp only [List.getD]
  rw [List.getElem?_append_left (by rw [words_length]; exact hi)]
theorem part_len (b : Nat → Int) {t : Nat} (ht : t ≤ 64) : (words b t ++ List.replicate (64 - t) 0).length = 64 := by
  rw [List.length_append, words_length, List.length_replicate]; omega
theorem part_set {b : Nat → Int} {t : Nat} (ht : t < 64) (x y : Int) : ((words b t ++ (y :: List.replicate (64 - (t + 1)) 0))).set t x = words b t ++ (x :: List.replicate (64 - (t + 1)) 0) := by
  rw [List.set_append_right _ _ (by rw [words_length]; omega), words_length, Nat.sub_self]; rfl
theorem part_zero {b : Nat → Int} {t : Nat} (ht : t < 64) : words b t ++ List.replicate (64 - t) 0 = words b t ++ (0 :: List.replicate (64 - (t + 1)) 0) := by
  rw [show 64 - t = (64 - (t + 1)) + 1 by omega, List.replicate_succ]
theorem part_at {b : Nat → Int} {t : Nat} (y : Int) (r : List Int) : (words b t ++ (y :: r)).getD t 0 = y := by
  simp only [List.getD]
  rw [List.getElem?_append_right (by rw [words_length]; omega), words_length, Nat.sub_self]; rfl
theorem part_len2 (b : Nat → Int) {t : Nat} (ht : t < 64) (y : Int) : (words b t ++ (y :: List.replicate (64 - (t + 1)) 0)).length = 64 := by
  rw [List.length_append, words_length, List.length_cons, List.length_replicate]; omega

theorem size_w64 : (Try.prog.info? 116).map (·.size) = some 64 := by kernel_rfl

set_option maxHeartbeats 1000000 in
set_option maxRecDepth 100000 in
theorem schedule_calls (g o : Nat) (b : Nat → Int) (w : World) (hc : Hid (∀ j, j < 64 → w.cell? ⟨g, o + j, none⟩ = some (.int .u8 (b j)))) (hbd : Hid (∀ j, j < 64 → 0 ≤ b j ∧ b j ≤ 255)) (hg : g < w.heap.size) :
    Calls Try.prog 68 #[.pointer (some ⟨g, o, none⟩)] w fun e w' => e = .returned (.agg ((words b 64).map (Value.int .u32)).toArray) ∧ Below w.heap.size w w' := by
  go_enter Try.func68, Try.ntmps68
  go_wp2_with fail
  go_loopw [11] (fun i wr => ∃ t : Nat, t ≤ 64 ∧ i = .int .i64 t ∧ isArr wr (w.heap.size + 1) 116 .u32 (words b t ++ List.replicate (64 - t) 0) ∧ isArr wr w.heap.size 116 .u32 (List.replicate 64 0) ∧ Below w.heap.size w wr ∧ w.heap.size + 1 < wr.heap.size)
    (fun i _ => 64 - (intOf i).toNat)
  case atStart =>
    refine ⟨0, by omega, rfl, ?_, ?_, ((Below.refl _ _).alloc (Nat.le_refl _) _).alloc (by simp) _, by simp⟩
    · have h := isArr.new (w.alloc (.cells (((List.replicate 64 (0 : Int)).map (Value.int .u32)).toArray) 116)) 116 .u32 (List.replicate 64 0)
      rw [show (w.alloc _).heap.size = w.heap.size + 1 by simp] at h
      exact h
    · exact (isArr.new w 116 .u32 (List.replicate 64 0)).alloc _
  case round =>
    obtain ⟨t, ht, rfl, harr, hres, hb, hsz⟩ := hrel
    obtain ⟨wo, rfl⟩ : ∃ wo : World, wo = wr := ⟨_, rfl⟩
    by_cases hlt : t < 64
    · by_cases h16 : t < 16
      · have hsl := fun u : World => run_slice_arr (P := Try.prog) u 133 5 64 Try.underlying133 Try.sizeOf5 g o (4 * t) (4 * t + 4) (4 * (t : Int)) (4 * (t : Int) + 4) (by omega) (by omega) (by omega) (by omega) (by omega) .i64 .i64
        rw [show 4 * t + 4 - 4 * t = 4 by omega] at hsl
        go_wp2_with fail
        clear hsl
        rw [part_zero hlt] at harr
        go_loopw [25] (fun i wq => ∃ j : Nat, j ≤ 4 ∧ i = .int .i64 j ∧ isArr wq (w.heap.size + 1) 116 .u32 (words b t ++ (word4 b t j :: List.replicate (64 - (t + 1)) 0)) ∧ isArr wq w.heap.size 116 .u32 (List.replicate 64 0) ∧ Below w.heap.size w wq ∧ w.heap.size + 1 < wq.heap.size)
          (fun i _ => 4 - (intOf i).toNat)
        case atStart => exact ⟨0, by omega, rfl, harr, hres, hb, hsz⟩
        case round =>
          clear harr hres hb hsz
          obtain ⟨j, hj, rfl, harr, hres, hb, hsz⟩ := hrel
          by_cases hj4 : j < 4
          · have e1 : wr.cell? ⟨g, o + 4 * t + j, none⟩ = some (.int .u8 (b (4 * t + j))) := by
              rw [hb.cell (p := ⟨g, o + 4 * t + j, none⟩) hg, Nat.add_assoc]; exact hc.out _ (by omega)
            have e2 := harr.cell t (by rw [part_len2 b hlt]; omega)
            rw [part_at] at e2
            have e3 := harr.frozen t
            have hB := hbd.out (4 * t + j) (by omega)
            have hW := word4_bd b t j
            go_wp2_with fail
            have hset := harr.set t (bits .or .u32 (word4 b t j * 256 % 4294967296) (b (4 * t + j)))
            rw [part_set hlt] at hset
            exact ⟨⟨j + 1, by omega, by go_num, hset, hres.setCell _ (by simp) _, hb.setCell (by simp) _, by simpa using hsz⟩, by simp [intOf]; omega⟩
          · have hj4 : j = 4 := by omega
            subst hj4
            go_wp2_with fail
            have hw : words b t ++ (word4 b t 4 :: List.replicate (64 - (t + 1)) 0) = words b (t + 1) ++ List.replicate (64 - (t + 1)) 0 := by rw [words, if_pos h16]; simp
            rw [hw] at harr
            exact ⟨⟨t + 1, by omega, by go_num, harr, hres, hb, hsz⟩, by simp [intOf]; omega⟩
      · have b1 := getD_bd (words_bd b t) (t - 15)
        have b2 := getD_bd (words_bd b t) (t - 2)
        have b3 := getD_bd (words_bd b t) (t - 16)
        have b4 := getD_bd (words_bd b t) (t - 7)
        have c1 := harr.cell (t - 15) (by rw [part_len b ht]; omega)
        have c2 := harr.cell (t - 2) (by rw [part_len b ht]; omega)
        have c3 := harr.cell (t - 16) (by rw [part_len b ht]; omega)
        have c4 := harr.cell (t - 7) (by rw [part_len b ht]; omega)
        rw [part_get (by omega) ht] at c1 c2 c3 c4
        have c5 := harr.cell t (by rw [part_len b ht]; omega)
        have c6 := harr.frozen t
        have hnext : words b (t + 1) = words b t ++ [nextW (words b t) t] := by rw [words, if_neg h16]
        unfold nextW at hnext
        generalize (words b t).getD (t - 15) 0 = x15 at *
        generalize (words b t).getD (t - 2) 0 = x2 at *
        generalize (words b t).getD (t - 16) 0 = x16 at *
        generalize (words b t).getD (t - 7) 0 = x7 at *
        have HN := Lib.hid hnext
        clear hnext
        have i1 : (0 : Int) ≤ (t : Int) - 15 := by omega
        have i2 : (t : Int) - 15 < 64 := by omega
        have i3 : (0 : Int) ≤ (t : Int) - 2 := by omega
        have i4 : (t : Int) - 2 < 64 := by omega
        have i5 : (0 : Int) ≤ (t : Int) - 16 := by omega
        have i6 : (t : Int) - 16 < 64 := by omega
        have i7 : (0 : Int) ≤ (t : Int) - 7 := by omega
        have i8 : (t : Int) - 7 < 64 := by omega
        have v1 := bits_u32 .xor (bits .xor .u32 (rot 7 x15) (rot 18 x15)) (x15 / 8)
        have v2 := bits_u32 .xor (bits .xor .u32 (rot 17 x2) (rot 19 x2)) (x2 / 1024)
        have HARR := Lib.hid harr
        clear harr
        go_wp2_with fail
        go_region
        go_wp2_with fail
        refine (turned_7 x15 _ b1.1 b1.2).mono ?_
        rintro e w1 ⟨rfl, rfl⟩
        go_wp2_with fail
        refine (turned_18 x15 _ b1.1 b1.2).mono ?_
        rintro e w1 ⟨rfl, rfl⟩
        go_wp2_with fail
        refine (turned_17 x2 _ b2.1 b2.2).mono ?_
        rintro e w1 ⟨rfl, rfl⟩
        go_wp2_with fail
        refine (turned_19 x2 _ b2.1 b2.2).mono ?_
        rintro e w1 ⟨rfl, rfl⟩
        go_wp2_with fail
        go_region
        go_wp2_with fail
        have hset := HARR.out.set t ((x16 + low x15 + x7 + high x2) % 4294967296)
        rw [part_zero hlt, part_set hlt, show words b t ++ ((x16 + low x15 + x7 + high x2) % 4294967296 :: List.replicate (64 - (t + 1)) 0) = words b (t + 1) ++ List.replicate (64 - (t + 1)) 0 by rw [HN.out]; simp] at hset
        exact ⟨⟨t + 1, by omega, by go_num, hset.drew.drew, (hres.setCell _ (by simp) _).drew.drew, (hb.setCell (by simp) _).drew.drew, by simpa using hsz⟩, by simp [intOf]; omega⟩
    · have ht64 : t = 64 := by omega
      subst ht64
      rw [show words b 64 ++ List.replicate (64 - 64) 0 = words b 64 by simp] at harr
      unfold isArr at harr hres
      go_wp2_with (first
        | (with_reducible refine wpList_load_row rfl 116 (.tmp 3) rfl (w.heap.size + 1) rfl 116 _ (0, 0) _ harr Try.underlying116 rfl ?hi1 ?_)
        | (with_reducible refine wpList_store_row rfl 116 (.tmp 2) (.tmp 79) rfl w.heap.size _ rfl rfl 116 _ hres ?hi2 ?hi3 ?hi4 ?_))
      case hi1 => rw [size_w64]; simp [words_length]
      case hi2 => rw [size_w64]; simp [words_length]
      case hi3 => simp [words_length]
      case hi4 => simp [Value.oneCell']
      have hlast : (wo.setRow w.heap.size (List.map (Value.int .u32) (words b 64)).toArray).heap[w.heap.size]? = some (.cells (List.map (Value.int .u32) (words b 64)).toArray 116 (0, 0)) := setRow_heap _ _ _ _ _ _ hres
      refine bodyPost_ret (results_cell_row (fn := Try.f68) rfl _ _ w.heap.size 116 _ (0, 0) _ rfl hlast Try.underlying116 rfl ?_) rfl ⟨rfl, below_setRow hb (Nat.le_refl _) _⟩
      rw [size_w64]; simp [words_length]
end Go.Proofs.Ytpacfijkhhjfeaa
