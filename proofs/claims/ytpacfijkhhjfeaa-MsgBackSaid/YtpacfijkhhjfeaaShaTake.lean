/- The contract of (*sha.state).take. -/
import Derived.Test.YtpacfijkhhjfeaaShaConst
import Derived.Deep.CutBlock
import Derived.Deep.DeepCutAuto
namespace Go.Proofs.Ytpacfijkhhjfeaa
set_option linter.unusedVariables false
set_option linter.unusedSimpArgs false
open Go.RowKit

theorem HashAt.alloc {w : World} {g : Nat} {m : Bool} {s r : List Int} {n : Int} (h : HashAt w g m s r n) (o : Obj) : HashAt (w.alloc o) g m s r n :=
  h.below ((Below.refl _ _).alloc (Nat.le_refl _) o) h.lt
theorem HashAt.setRow {w : World} {g : Nat} {m : Bool} {s r : List Int} {n : Int} (h : HashAt w g m s r n) {k : Nat} (hk : g ≠ k) (cs : Array Value) : HashAt (w.setRow k cs) g m s r n := by
  unfold HashAt at h ⊢
  rw [setRow_other _ _ _ _ hk]; exact h
theorem HashAt.setCell {w : World} {g : Nat} {m : Bool} {s r : List Int} {n : Int} (h : HashAt w g m s r n) (a : Addr) (ha : a.block ≠ g) (v : Value) : HashAt (w.setCell a v) g m s r n := by
  unfold HashAt at h ⊢
  rw [Below.heap_setCell _ _ _ _ (Ne.symm ha)]; exact h
theorem HashAt.setCells {w : World} {g : Nat} {m : Bool} {s r : List Int} {n : Int} (h : HashAt w g m s r n) {b : Nat} (hb : g ≠ b) (o : Nat) (vs : List Value) : HashAt (w.setCells b o vs) g m s r n := by
  unfold HashAt at h ⊢
  rw [heap_setCells_other b vs o w g hb]; exact h
theorem HashAt.drew {w : World} {g : Nat} {m : Bool} {s r : List Int} {n : Int} (h : HashAt w g m s r n) : HashAt w.drew g m s r n := h
theorem HashAt.drewN {w : World} {g : Nat} {m : Bool} {s r : List Int} {n : Int} (h : HashAt w g m s r n) (k : Nat) : HashAt (w.drewN k) g m s r n := h

theorem grow_of_below {w w' : World} (h : Below w.heap.size w w') (row : Option Nat) : w.grownBy w' row := ⟨h.os, h.tape, h.output, h.size, fun k hk _ => h.block k hk⟩
theorem grow_setCell {w w' : World} {g : Nat} (h : w.grownBy w' (some g)) (i : Nat) (v : Value) : w.grownBy (w'.setCell ⟨g, i, none⟩ v) (some g) := by
  have hb : Below g w' (w'.setCell ⟨g, i, none⟩ v) := (Below.refl g w').setCell (Nat.le_refl g) v
  exact ⟨hb.os.trans h.os, hb.tape.trans h.tape, hb.output.trans h.output, Nat.le_trans h.size hb.size,
    fun k hk hne => (Below.heap_setCell w' ⟨g, i, none⟩ v k (by intro hh; exact hne (by rw [hh]))).trans (h.block k hk hne)⟩
theorem grow_drew {w w' : World} {row : Option Nat} (h : w.grownBy w' row) : w.grownBy w'.drew row := ⟨h.os, h.tape, h.output, h.size, h.block⟩

theorem shifted {u : World} {k : Nat} {T : TypeId} {a b c d e f g i : Int} (h : isArr u k T .u32 [a, b, c, d, e, f, g, i]) :
    isArr (u.setCells k 1 [.int .u32 a, .int .u32 b, .int .u32 c, .int .u32 d, .int .u32 e, .int .u32 f, .int .u32 g]) k T .u32 [a, a, b, c, d, e, f, g] := by
  have h1 := h.set 1 a
  have h2 := h1.set 2 b
  have h3 := h2.set 3 c
  have h4 := h3.set 4 d
  have h5 := h4.set 5 e
  have h6 := h5.set 6 f
  have h7 := h6.set 7 g
  simp only [World.setCells]
  exact h7

set_option maxHeartbeats 4000000 in
set_option maxRecDepth 100000 in
theorem take_calls (g : Nat) (m : Bool) (s r : List Int) (n : Int) (w : World) (hH : HashAt w g m s r n) (hs : okS s) (hr : r.length = 64) (hbr : Hid (∀ x ∈ r, 0 ≤ x ∧ x ≤ 255)) :
    Calls Try.prog 67 #[.pointer (some ⟨g, 1, none⟩), .pointer (some ⟨g, 9, none⟩)] w fun e w' => e = .returned (.tuple #[]) ∧ HashAt w' g m (takeL s (fun i => r.getD i 0)) r n ∧ w.grownBy w' (some g) := by
  have hg := hH.lt
  have HC : Hid (∀ j, j < 64 → w.cell? ⟨g, 9 + j, none⟩ = some (.int .u8 (r.getD j 0))) := fun j hj => hH.rest hs.1 j (by omega)
  have HB : Hid (∀ j, j < 64 → 0 ≤ r.getD j 0 ∧ r.getD j 0 ≤ 255) := fun j hj => by
    have : r.getD j 0 ∈ r := by simp [List.getD, hr, hj]
    exact hbr.out _ this
  have HH := Lib.hid hH
  have HS := Lib.hid hs
  clear hH hs hr
  go_enter Try.func67, Try.ntmps67
  go_upto_region 0 with (fail)
  go_cut [4, 5] (fun a b wx => ∃ B : Nat, w.heap.size ≤ B ∧ B + 1 < wx.heap.size ∧ a = .pointer (some ⟨B, 0, none⟩) ∧ b = .pointer (some ⟨B + 1, 0, none⟩) ∧ isArr wx B 116 .u32 (words (fun i => r.getD i 0) 64) ∧ isArr wx (B + 1) 116 .u32 kL ∧ HashAt wx g m s r n ∧ Below w.heap.size w wx)
  case first =>
    go_wp2_with fail
    refine (schedule_calls g 9 (fun i => r.getD i 0) w HC HB hg).mono ?_
    rintro e w1 ⟨rfl, hb1⟩
    go_wp2_with fail
    refine (constants_calls w1).mono ?_
    rintro e w2 ⟨rfl, hb2⟩
    have hb2' := hb1.trans (hb2.mono hb1.size)
    have HH2 := Lib.hid (HH.out.below hb2' hg)
    have hg2 : g < w2.heap.size := HH2.out.lt
    have hwl : ((words (fun i => r.getD i 0) 64).map (Value.int .u32)).toArray.size = 64 := by simp [words_length]
    have hsz2 := hb2'.size
    go_wp2_with (first
      | (with_reducible refine wpList_store_row rfl 116 (.tmp 4) (.tmp 16) rfl w2.heap.size _ rfl rfl 116 _ (heap_alloc2_old w2 _ _) ?a1 ?a2 ?a3 ?_)
      | (with_reducible refine wpList_store_row rfl 116 (.tmp 5) (.tmp 17) rfl (w2.heap.size + 1) _ rfl rfl 116 _ ((setRow_other _ _ _ _ (by omega)).trans (heap_alloc2_new w2 _ _)) ?b1 ?b2 ?b3 ?_))
    case a1 => rw [size_w64]; exact congrArg some hwl.symm
    case a2 => exact hwl.symm
    case a3 => rw [List.all_toArray, List.all_map]; exact List.all_eq_true.2 fun _ _ => rfl
    case b1 => rw [size_w64]; rfl
    case b2 => rfl
    case b3 => rw [List.all_toArray, List.all_map]; exact List.all_eq_true.2 fun _ _ => rfl
    go_meet
    case rel =>
      refine ⟨w2.heap.size, hsz2, by simp, rfl, rfl, ?_, ?_, ?_, ?_⟩
      · unfold isArr
        rw [setRow_other _ _ _ _ (by omega)]
        exact setRow_heap _ _ _ _ _ _ (heap_alloc2_old w2 _ _)
      · unfold isArr
        exact setRow_heap _ _ _ _ _ _ ((setRow_other _ _ _ _ (by omega)).trans (heap_alloc2_new w2 _ _))
      · exact (((HH2.out.alloc _).alloc _).setRow (by omega) _).setRow (by omega) _
      · exact below_setRow (below_setRow ((hb2'.alloc hsz2 _).alloc (by simp; omega) _) hsz2 _) (by omega) _
  case rest =>
    obtain ⟨wb, rfl⟩ : ∃ wb : World, wb = wc := ⟨_, rfl⟩
    obtain ⟨B, hB1, hB2, rfl, rfl, hW, hK, hH, hb⟩ := hcut
    obtain ⟨a, b, c, d, e, f, g', i, rfl, ha, hb', hc, hd, he, hf, hg', hi⟩ := okS_eight HS.out
    have k0 := hH.state rfl 0 (by omega)
    have k1 := hH.state rfl 1 (by omega)
    have k2 := hH.state rfl 2 (by omega)
    have k3 := hH.state rfl 3 (by omega)
    have k4 := hH.state rfl 4 (by omega)
    have k5 := hH.state rfl 5 (by omega)
    have k6 := hH.state rfl 6 (by omega)
    have k7 := hH.state rfl 7 (by omega)
    simp only [List.getD_cons_zero, List.getD_cons_succ] at k0 k1 k2 k3 k4 k5 k6 k7
    generalize hs : [a, b, c, d, e, f, g', i] = s at *
    have HSS := Lib.hid hs
    have HSS0 := Lib.hid hs
    have HOK : Hid (okS s) := HS
    have hV := isArr.new wb 131 .u32 [a, b, c, d, e, f, g', i]
    rw [hs] at hV
    have hV := Lib.hid hV
    clear hs
    have hwc := hb.size
    go_wp2_with fail
    clear k0 k1 k2 k3 k4 k5 k6 k7
    go_loopw [21] (fun j wr => ∃ t : Nat, t ≤ 64 ∧ j = .int .i64 t ∧ isArr wr wb.heap.size 131 .u32 (roundsL (words (fun i => r.getD i 0) 64) s t) ∧ isArr wr B 116 .u32 (words (fun i => r.getD i 0) 64) ∧ isArr wr (B + 1) 116 .u32 kL ∧ HashAt wr g m s r n ∧ Below w.heap.size w wr)
      (fun j _ => 64 - (intOf j).toNat)
    case atStart => exact ⟨0, by omega, rfl, by rw [← HSS.out] at *; exact hV.out, hW.alloc _, hK.alloc _, hH.alloc _, hb.alloc hb.size _⟩
    case round =>
      clear hV hW hK hH hb HSS
      obtain ⟨t, ht, rfl, hV, hW, hK, hH, hb⟩ := hrel
      obtain ⟨wo, rfl⟩ : ∃ wo : World, wo = wr := ⟨_, rfl⟩
      by_cases hlt : t < 64
      · clear ha hb' hc hd he hf hg' hi
        have hnext : roundsL (words (fun i => r.getD i 0) 64) s (t + 1) = roundL (kL.getD t 0) ((words (fun i => r.getD i 0) 64).getD t 0) (roundsL (words (fun i => r.getD i 0) 64) s t) := rfl
        have HN := Lib.hid hnext
        clear hnext
        have ew := hW.cell t (by rw [words_length]; omega)
        have ek := hK.cell t (by have : kL.length = 64 := rfl
                                 omega)
        have bw := getD_bd (words_bd (fun i => r.getD i 0) 64) t
        have bk := getD_bd kL_bd t
        obtain ⟨v0, v1, v2, v3, v4, v5, v6, v7, hv, bv0, bv1, bv2, bv3, bv4, bv5, bv6, bv7⟩ := okS_eight (roundsL_ok (words (fun i => r.getD i 0) 64) HOK.out t)
        have HV := Lib.hid hv
        rw [hv] at hV
        have HVV := Lib.hid hV
        clear hv
        generalize (words (fun i => r.getD i 0) 64).getD t 0 = wt at *
        generalize kL.getD t 0 = kt at *
        have c0 := hV.cell 0 (by simp)
        have c1 := hV.cell 1 (by simp)
        have c2 := hV.cell 2 (by simp)
        have c3 := hV.cell 3 (by simp)
        have c4 := hV.cell 4 (by simp)
        have c5 := hV.cell 5 (by simp)
        have c6 := hV.cell 6 (by simp)
        have c7 := hV.cell 7 (by simp)
        simp only [List.getD_cons_zero, List.getD_cons_succ] at c0 c1 c2 c3 c4 c5 c6 c7
        have f0 := hV.frozen 0
        have f1 := hV.frozen 1
        have f2 := hV.frozen 2
        have f3 := hV.frozen 3
        have f4 := hV.frozen 4
        have f5 := hV.frozen 5
        have f6 := hV.frozen 6
        have f7 := hV.frozen 7
        clear hV
        have i1 : (0 : Int) ≤ t := by omega
        have i2 : (t : Int) < 64 := by omega
        go_wp2_with fail
        go_quiet (fail)
        go_wp2_with fail
        go_quiet ((go_at_call 70; exact quiet_more (fun W => turned_any _ _ W (by omega) (by omega) (by simp))))
        go_upto_region 10 with (go_at_call 70; refine (turned_any _ _ _ (by omega) (by omega) (by simp)).mono ?_; rintro e w' ⟨rfl, rfl⟩)
        go_cut [] (fun wx => isArr wx wb.heap.size 131 .u32 [v0, v0, v1, v2, v3, v4, v5, v6] ∧ isArr wx B 116 .u32 (words (fun i => r.getD i 0) 64) ∧ isArr wx (B + 1) 116 .u32 kL ∧ HashAt wx g m s r n ∧ Below w.heap.size w wx)
        case first =>
          have hcp : ∀ k : Nat, (Builtin.copy_ #[118, 118] 3 #[.slice (some ⟨wb.heap.size, 1, none⟩) 7 7, .slice (some ⟨wb.heap.size, 0, none⟩) 7 8]).run Try.prog (wo.drewN k) =
              .ok (.int .i64 7) ((wo.drewN k).setCells wb.heap.size 1 [.int .u32 v0, .int .u32 v1, .int .u32 v2, .int .u32 v3, .int .u32 v4, .int .u32 v5, .int .u32 v6]) := fun k => by
            have hVk := HVV.out.drewN k
            refine run_copy_cells (P := Try.prog) (wo.drewN k) _ _ _ 103 wb.heap.size 1 7 7 ⟨wb.heap.size, 0, none⟩ 7 8 [.int .u32 v0, .int .u32 v1, .int .u32 v2, .int .u32 v3, .int .u32 v4, .int .u32 v5, .int .u32 v6]
              Try.underlying118 (by kernel_rfl) rfl ?_ ?_ (fun j _ => hVk.frozen _) (by simp [Value.oneCell'])
            · intro j v hj
              have hjl : j < 7 := by
                rcases Nat.lt_or_ge j 7 with h | h
                · exact h
                · rw [List.getElem?_eq_none (by simpa using h)] at hj; cases hj
              have := hVk.cell j (by simp; omega)
              rw [add_plain, Nat.zero_add, this]
              match j, hjl, hj with
              | 0, _, hj => simpa using hj
              | 1, _, hj => simpa using hj
              | 2, _, hj => simpa using hj
              | 3, _, hj => simpa using hj
              | 4, _, hj => simpa using hj
              | 5, _, hj => simpa using hj
              | 6, _, hj => simpa using hj
            · intro j hj
              rw [hVk.cell (1 + j) (by simp at hj ⊢; omega)]; rfl
          go_region
          go_wp2_with fail
          go_meet
          case rel =>
            exact ⟨shifted (HVV.out.drewN _), (hW.drewN _).setCells (by omega) _ _, (hK.drewN _).setCells (by omega) _ _, (hH.drewN _).setCells (by omega) _ _,
              below_setCells hwc _ _ _ (below_drewN hb _)⟩
        case rest =>
          obtain ⟨hV, hW, hK, hH, hb⟩ := hcut
          clear c0 c1 c2 c3 c4 c5 c6 c7 f0 f1 f2 f3 f4 f5 f6 f7 ew ek
          have c3 := hV.cell 4 (by simp)
          simp only [List.getD_cons_zero, List.getD_cons_succ] at c3
          have f4 := hV.frozen 4
          have f0 := hV.frozen 0
          have c0 := hV.cell 0 (by simp)
          simp only [List.getD_cons_zero, List.getD_cons_succ] at c0
          have HVV2 := Lib.hid hV
          clear hV
          go_wp2_with fail
          have hset := (HVV2.out.set 4 ((v3 + (v7 + big1 v4 + choice v4 v5 v6 + kt + wt)) % 4294967296)).set 0 ((v7 + big1 v4 + choice v4 v5 v6 + kt + wt + (big0 v0 + most v0 v1 v2)) % 4294967296)
          have hr2 : roundsL (words (fun i => r.getD i 0) 64) s (t + 1) = (([v0, v0, v1, v2, v3, v4, v5, v6].set 4 ((v3 + (v7 + big1 v4 + choice v4 v5 v6 + kt + wt)) % 4294967296)).set 0 ((v7 + big1 v4 + choice v4 v5 v6 + kt + wt + (big0 v0 + most v0 v1 v2)) % 4294967296)) := by
            rw [HN.out, HV.out]; rfl
          rw [← hr2] at hset
          exact ⟨⟨t + 1, by omega, by go_num, hset, (hW.setCell _ (by simp; omega) _).setCell _ (by simp; omega) _, (hK.setCell _ (by simp; omega) _).setCell _ (by simp; omega) _, (hH.setCell _ (by simp; omega) _).setCell _ (by simp; omega) _, (hb.setCell hwc _).setCell hwc _⟩, by simp [intOf]; omega⟩
      · have ht64 : t = 64 := by omega
        subst ht64
        go_wp2_with fail
        have HROK := Lib.hid (roundsL_ok (words (fun i => r.getD i 0) 64) HOK.out 64)
        generalize hvv : roundsL (words (fun i => r.getD i 0) 64) s 64 = v at *
        have HVV3 := Lib.hid hvv
        clear hvv
        have hgb := grow_of_below hb (some g)
        go_loopw [94] (fun x wr => ∃ i : Nat, i ≤ 8 ∧ x = .int .i64 i ∧ isArr wr wb.heap.size 131 .u32 v ∧ HashAt wr g m (addL s v i) r n ∧ w.grownBy wr (some g)) (fun x _ => 8 - (intOf x).toNat)
        case atStart => exact ⟨0, by omega, rfl, hV, hH, hgb⟩
        case round =>
          clear hV hH hgb
          obtain ⟨i, hi, rfl, hV, hH, hgb⟩ := hrel
          obtain ⟨wp, rfl⟩ : ∃ wp : World, wp = wr := ⟨_, rfl⟩
          by_cases hlt : i < 8
          · have hok := addL_ok v HOK.out i
            have c1 := hH.state hok.1 i hlt
            have c2 := hV.cell i (by have := HROK.out.1; omega)
            have f1 := hH.frozen (1 + i)
            have b1 := getD_bd hok.2 i
            have b2 := getD_bd HROK.out.2 i
            have HH3 := Lib.hid (hH.setState hok.1 i hlt (((addL s v i).getD i 0 + v.getD i 0) % 4294967296))
            have i1 : (0 : Int) ≤ i := by omega
            have i2 : (i : Int) < 8 := by omega
            clear hH
            go_wp2_with fail
            go_region
            go_wp2_with fail
            exact ⟨⟨i + 1, by omega, by go_num, hV.setCell _ (by simp; omega) _, HH3.out, grow_setCell (grow_drew hgb) _ _⟩, by simp [intOf]; omega⟩
          · have hi8 : i = 8 := by omega
            subst hi8
            go_wp2_with fail
            go_end0
            refine ⟨rfl, ?_, hgb⟩
            rw [HSS0.out, takeL, HVV3.out]
            exact hH
end Go.Proofs.Ytpacfijkhhjfeaa
