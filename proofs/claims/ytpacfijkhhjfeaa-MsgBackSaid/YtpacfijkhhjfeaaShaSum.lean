/- The contract of (*sha.Hash).Sum. -/
import Derived.Test.YtpacfijkhhjfeaaShaWrite
namespace Go.Proofs.Ytpacfijkhhjfeaa
set_option linter.unusedVariables false
set_option linter.unusedSimpArgs false
open Go.RowKit

def lenBytes (c : Int) : Nat → List Int
  | 0 => []
  | k + 1 => (c / 2 ^ (8 * k)) % 256 :: lenBytes c k
def zeros (n : Nat) : Nat := (119 - n % 64) % 64
/-- what is fed behind all -/
def tail (n : Nat) : List Int := 128 :: (List.replicate (zeros n) 0 ++ lenBytes ((n : Int) * 8) 8)
def outByte (s : List Int) (i : Nat) : Int := (s.getD (i / 4) 0 / 2 ^ (8 * (3 - i % 4))) % 256
def outBytes (s : List Int) : List Int := (List.range 32).map (outByte s)
def sumL (q : Fed) : List Int := outBytes (feed q (tail q.n)).s

theorem isArr.grown {w w' : World} {g k : Nat} {T : TypeId} {c : IntKind} {l : List Int} (h : isArr w k T c l) (hg : w.grownBy w' (some g)) (hk : k ≠ g) : isArr w' k T c l := by
  have hlt := h.lt
  unfold isArr at h ⊢
  rw [hg.block k hlt (by simpa using hk)]; exact h

theorem below_grown {B g : Nat} {w0 w w' : World} (h : Below B w0 w) (hg : w.grownBy w' (some g)) (hB : B ≤ w.heap.size) (hgB : B ≤ g) : Below B w0 w' :=
  h.grown hg hB (fun k hk => by cases hk; exact hgB)

theorem isRow.one (w : World) (k : IntKind) (x : Int) (T : TypeId) : isRow (w.alloc (.cells #[.int k x] T)) k (.slice (some ⟨w.heap.size, 0, none⟩) 1 1) [x] := by
  refine ⟨_, 1, rfl, by simp, fun _ => ⟨_, rfl, by simp, fun j hj => ?_⟩⟩
  have hj0 : j = 0 := by simpa using hj
  subst hj0
  rw [Addr.add_zero', cell_of_row _ w.heap.size 0 _ T (0, 0) (heap_alloc_new w _)]
  rfl
theorem offOne (w : World) (g : Nat) (hg : g < w.heap.size) : offBlock (.slice (some ⟨w.heap.size, 0, none⟩) 1 1) g := by
  intro a n c he _
  cases he
  simp; omega
theorem byteOne (x : Int) (h : 0 ≤ x ∧ x ≤ 255) : isByte [x] := isByte.cons h isByte.nil

theorem size_hash : (Try.prog.info? 135).map (·.size) = some 74 := by kernel_rfl

theorem hash_len {m : Bool} {s r : List Int} {n : Int} (hs : s.length = 8) (hr : r.length = 64) : (hashCells m s r n).length = 74 := by simp [hashCells, hs, hr]

theorem write_one (g : Nat) (q : Fed) (x : Int) (w : World) (T : TypeId) (hH : HashAt w g true q.s q.r q.n) (hq : okFed q) (hx : 0 ≤ x ∧ x ≤ 255) (hn : q.n + 1 < 2 ^ 62) :
    Calls Try.prog 62 #[.pointer (some ⟨g, 0, none⟩), .slice (some ⟨w.heap.size, 0, none⟩) 1 1] (w.alloc (.cells #[.int .u8 x] T)) fun e w' =>
      e = .returned (.tuple #[]) ∧ HashAt w' g true (feed1 q x).s (feed1 q x).r (feed1 q x).n ∧ okFed (feed1 q x) ∧ w.grownBy w' (some g) :=
  (write_calls g q _ [x] _ (hH.alloc _) hq (isRow.one w .u8 x T) (offOne w g hH.lt) (byteOne x hx) hn).mono fun e w' ⟨h1, h2, h3⟩ =>
    ⟨h1, h2, feed1_ok hq x hx, grow_trans (grow_of_below ((Below.refl _ w).alloc (Nat.le_refl _) _) _) h3⟩

def Rel (w0 w : World) (g : Nat) (q : Fed) : Prop := HashAt w g true q.s q.r q.n ∧ okFed q ∧ w0.grownBy w (some g)

theorem range_step (f : Nat → Int) (n i : Nat) (hi : i < n) : ((List.range n).map fun j => if j < i then f j else 0).set i (f i) = (List.range n).map fun j => if j < i + 1 then f j else 0 := by
  refine List.ext_getElem (by simp) fun j h1 h2 => ?_
  rw [List.getElem_set]
  simp only [List.getElem_map, List.getElem_range]
  split
  · next h => subst h; rw [if_pos (by omega)]
  · next h =>
    by_cases h3 : j < i
    · rw [if_pos h3, if_pos (by omega)]
    · rw [if_neg h3, if_neg (by omega)]
theorem range_all (f : Nat → Int) (n : Nat) : ((List.range n).map fun j => if j < n then f j else 0) = (List.range n).map f := by
  refine List.map_congr_left fun j hj => ?_
  rw [if_pos (List.mem_range.1 hj)]

theorem size_32 : (Try.prog.info? 88).map (·.size) = some 32 := by kernel_rfl

def countOf (g : Nat) (w : World) : Nat :=
  match w.cell? ⟨g, 73, none⟩ with
  | some (.int _ c) => c.toNat
  | _ => 0

set_option maxHeartbeats 4000000 in
set_option maxRecDepth 100000 in
theorem hsum_calls (g : Nat) (q : Fed) (w : World) (hH : HashAt w g true q.s q.r q.n) (hq : okFed q) (hn : q.n < 2 ^ 60) :
    Calls Try.prog 63 #[.pointer (some ⟨g, 0, none⟩)] w fun e w' => e = .returned (.agg ((sumL q).map (Value.int .u8)).toArray) ∧ Below w.heap.size w w' := by
  have hg := hH.lt
  have HQ := Lib.hid hq
  have HN := Lib.hid hn
  have HH := Lib.hid hH
  clear hq hn hH
  obtain ⟨s, r, n⟩ := q
  go_enter Try.func63, Try.ntmps63
  go_wp2_with fail
  refine (new_calls _).mono ?_
  rintro e w1 ⟨g2, rfl, hg2, hH2, hb2⟩
  have hb1 := ((Below.refl w.heap.size w).alloc (Nat.le_refl _) _).trans (hb2.mono (by simp))
  have HH1 := Lib.hid (HH.out.below hb1 hg)
  have hm := HH1.out.madeIs
  have hsz : w.heap.size < g2 := Nat.lt_of_lt_of_le (by simp) hg2
  have hRes : isArr w1 w.heap.size 88 .u8 (List.replicate 32 0) := (isArr.new w 88 .u8 (List.replicate 32 0)).below hb2 (by simp)
  have hg2l := hH2.lt
  have hlen74 : (hashCells true s r (n : Int)).toArray.size = 74 := hash_len HQ.out.s.1 HQ.out.r
  clear hg2 hb2
  have hbl : Hid (w1.heap[g]? = some (.cells (hashCells true s r (n : Int)).toArray 135 (0, 0))) := HH1
  have hbs : Hid (w1.heap[g2]? = some (.cells (hashCells true s0L (List.replicate 64 0) 0).toArray 135 (0, 0))) := hH2
  clear hH2
  generalize hcs : (hashCells true s r (n : Int)).toArray = cs at *
  generalize hcz : (hashCells true s0L (List.replicate 64 0) 0).toArray = cz at *
  have HCS := Lib.hid hcs
  have HCZ := Lib.hid hcz
  clear hcs hcz
  go_upto_region 4 with (first
    | (with_reducible refine wpList_load_row rfl 135 (.tmp 19) rfl g rfl 135 _ (0, 0) _ hbl.out Try.underlying135 rfl ?l1 ?_)
    | (with_reducible refine wpList_store_row rfl 135 (.tmp 21) (.tmp 20) rfl g2 _ rfl rfl 135 _ hbs.out ?a1 ?a2 ?a3 ?_))
  case l1 => rw [size_hash, hlen74]
  case a1 => rw [size_hash]; exact congrArg some hlen74.symm
  case a2 => rw [hlen74, ← HCZ.out]; exact hash_len rfl rfl
  case a3 => rw [← HCS.out, List.all_toArray]; simp [hashCells, Value.oneCell']
  have hH3 : HashAt (w1.setRow g2 cs) g2 true s r n := by
    unfold HashAt
    rw [HCS.out]
    exact setRow_heap _ _ _ _ _ _ hbs.out
  have hR3 : isArr (w1.setRow g2 cs) w.heap.size 88 .u8 (List.replicate 32 0) := by
    unfold isArr at hRes ⊢
    rw [setRow_other _ _ _ _ (by omega)]; exact hRes
  have hb3 : Below w.heap.size w (w1.setRow g2 cs) := below_setRow hb1 (by omega) _
  clear HH1 hbl hbs hb1 hm hRes hg2l
  generalize w1.setRow g2 cs = w3 at *
  clear HCS HCZ hlen74
  have hg3 : g2 < w3.heap.size := hH3.lt
  have hcnt := hH3.count HQ.out.s.1 HQ.out.r
  have b1 : (0 : Int) ≤ (n : Int) * 8 := by omega
  have b2 : (n : Int) * 8 ≤ 18446744073709551615 := by have := HN.out; omega
  have hHd3 := Lib.hid hH3
  have hRd3 := Lib.hid hR3
  clear hH3 hR3
  go_wp2_with fail
  refine (write_one g2 ⟨s, r, n⟩ 128 w3 _ hHd3.out HQ.out (by omega) (by have := HN.out; simp only; omega)).mono ?_
  rintro e w4 ⟨rfl, hH4, hq4, hg4⟩
  clear hcnt b1 b2
  obtain ⟨z, hz⟩ : ∃ z, z = zeros n := ⟨_, rfl⟩
  have HZ := Lib.hid hz
  have hN4 : (feed1 ⟨s, r, n⟩ 128).n = n + 1 := rfl
  have HR4 : Hid (Rel w3 w4 g2 (feed1 ⟨s, r, n⟩ 128)) := ⟨hH4, hq4, hg4⟩
  clear hH4 hq4 hg4
  generalize hq1 : feed1 ⟨s, r, n⟩ 128 = q1 at *
  have HQ1 := Lib.hid hq1
  have HN4 := Lib.hid hN4
  clear hq1 hN4 hz
  go_wp2_with fail
  go_loopw [] (fun wr => ∃ (k : Nat) (qx : Fed), qx.n + k = n + 1 + z ∧ k ≤ z ∧ Rel w3 wr g2 qx ∧ feed qx (List.replicate k 0) = feed q1 (List.replicate z 0)) (fun wr => n + 1 + z - countOf g2 wr)
  case atStart => exact ⟨z, q1, by rw [HN4.out], Nat.le_refl _, HR4.out, rfl⟩
  case round =>
    clear HR4
    obtain ⟨k, qx, hk1, hk2, hR, hfd⟩ := hrel
    obtain ⟨wo, rfl⟩ : ∃ wo : World, wo = wr := ⟨_, rfl⟩
    obtain ⟨hHx, hqx, hgx⟩ := hR
    have hcnt := hHx.count hqx.s.1 hqx.r
    have hNB : n + 1 + z < 2 ^ 61 := by
      have h1 := HN.out
      have h2 := HZ.out
      unfold zeros at h2
      omega
    by_cases hk0 : k = 0
    · subst hk0
      have hm1 : (qx.n : Int) % 64 = 56 := by
        have h2 := HZ.out
        unfold zeros at h2
        omega
      have hm2 : (qx.n : Int).tmod 64 = 56 := by rw [Int.tmod_eq_emod_of_nonneg (by omega)]; exact hm1
      have HFD := Lib.hid hfd
      have HH5 := Lib.hid hHx
      have HB8 : Hid (qx.n + 8 < 2 ^ 62) := by show qx.n + 8 < 2 ^ 62; omega
      clear hk1 hk2 hfd hHx hNB
      go_wp2_with fail
      clear hm1 hm2 hcnt
      go_loopw [5] (fun x wr => ∃ (k : Nat) (qy : Fed), k ≤ 8 ∧ x = .int .i64 ((k : Int) - 1) ∧ qy.n + k = qx.n + 8 ∧ Rel w3 wr g2 qy ∧ feed qy (lenBytes ((n : Int) * 8) k) = feed qx (lenBytes ((n : Int) * 8) 8)) (fun x _ => (intOf x + 1).toNat)
      case atStart => exact ⟨8, qx, by omega, rfl, rfl, ⟨HH5.out, hqx, hgx⟩, rfl⟩
      case round =>
        clear HH5 hgx hqx
        obtain ⟨k, qy, hk, rfl, hk1, hR, hfd⟩ := hrel
        obtain ⟨wo2, rfl⟩ : ∃ wo2 : World, wo2 = wr := ⟨_, rfl⟩
        obtain ⟨hHy, hqy, hgy⟩ := hR
        have HFY := Lib.hid hfd
        have HHY := Lib.hid hHy
        clear hfd hHy
        rcases Nat.eq_zero_or_pos k with hk0 | hk0
        · subst hk0
          have hqe : qy = feed q1 (List.replicate z 0 ++ lenBytes ((n : Int) * 8) 8) := by
            have h1 : feed qy (lenBytes ((n : Int) * 8) 0) = qy := rfl
            have h2 : feed qx (List.replicate 0 0) = qx := rfl
            rw [feed_append, ← HFD.out, h2, ← HFY.out, h1]
          have HQE := Lib.hid hqe
          have hRy := Lib.hid ((hRd3.out : isArr w3 w.heap.size 88 .u8 (List.replicate 32 0)).grown hgy (by omega))
          have hBy := Lib.hid (below_grown hb3 hgy (by have := hb3.size; omega) (by omega))
          have hwo2 : g2 < wo2.heap.size := HHY.out.lt
          have hwo3 : w.heap.size < wo2.heap.size := hRy.out.lt
          clear hqe HFY HFD hk1 hk
          have hz1 : ((0 : Nat) : Int) - 1 = -1 := rfl
          rw [hz1]
          clear hz1
          go_wp2_with fail
          go_loopw [51] (fun x wr => ∃ i : Nat, i ≤ 32 ∧ x = .int .i64 i ∧ isArr wr wo2.heap.size 88 .u8 ((List.range 32).map fun j => if j < i then outByte qy.s j else 0) ∧ HashAt wr g2 true qy.s qy.r qy.n ∧ isArr wr w.heap.size 88 .u8 (List.replicate 32 0) ∧ Below w.heap.size w wr) (fun x _ => 32 - (intOf x).toNat)
          case atStart =>
            exact ⟨0, by omega, rfl, isArr.new wo2 88 .u8 (List.replicate 32 0), HHY.out.alloc _, hRy.out.alloc _, hBy.out.alloc hBy.out.size _⟩
          case round =>
            clear HHY hRy hBy
            obtain ⟨i, hi, rfl, hO, hHz, hRz, hbz⟩ := hrel
            obtain ⟨wo3, rfl⟩ : ∃ wo3 : World, wo3 = wr := ⟨_, rfl⟩
            have HO := Lib.hid hO
            have HHZ := Lib.hid hHz
            have HRZ := Lib.hid hRz
            have HBZ := Lib.hid hbz
            have hwo := HO.out.lt
            clear hO hRz hbz
            by_cases hlt : i < 32
            · have c1 := hHz.state hqy.s.1 (i / 4) (by omega)
              have bd := getD_bd hqy.s.2 (i / 4)
              have i1 : (0 : Int) ≤ i := by omega
              have i2 : (i : Int) < 32 := by omega
              have i3 : (0 : Int) ≤ 3 - (i : Int) % 4 := by omega
              have i4 : 3 - (i : Int) % 4 < 4 := by omega
              have i5 : (i : Int) / 4 < 8 := by omega
              have i6 : (0 : Int) ≤ (i : Int) / 4 := by omega
              have f2 := HO.out.frozen i
              have c2 := HO.out.cell i (by simp; omega)
              have HNX := Lib.hid (HO.out.set i (outByte qy.s i))
              generalize hvv : qy.s.getD (i / 4) 0 = vv at c1 bd
              have HVV := Lib.hid hvv
              clear hvv
              go_wp2_with fail
              have hval : vv / 2 ^ (8 * (3 - i % 4)) % 256 = outByte qy.s i := by rw [outByte, HVV.out]
              rw [hval]
              have hnx := HNX.out
              rw [range_step (outByte qy.s) 32 i hlt] at hnx
              exact ⟨⟨i + 1, by omega, by go_num, hnx, HHZ.out.setCell _ (by simp; omega) _, HRZ.out.setCell _ (by simp; omega) _, HBZ.out.setCell (by simp; omega) _⟩, by simp [intOf]; omega⟩
            · have hi32 : i = 32 := by omega
              subst hi32
              have hfin := HO.out
              rw [range_all (outByte qy.s) 32] at hfin
              have hbl : Hid (wo3.heap[wo2.heap.size]? = some (.cells ((outBytes qy.s).map (Value.int .u8)).toArray 88 (0, 0))) := hfin
              have hbs : Hid (wo3.heap[w.heap.size]? = some (.cells ((List.replicate 32 0).map (Value.int .u8)).toArray 88 (0, 0))) := HRZ.out
              clear hfin HO
              have hl32 : ((outBytes qy.s).map (Value.int .u8)).toArray.size = 32 := by simp [outBytes]
              have hall : (((outBytes qy.s).map (Value.int .u8)).toArray.all fun x => x.oneCell') = true := by rw [List.all_toArray, List.all_map]; exact List.all_eq_true.2 fun _ _ => rfl
              generalize hcs : ((outBytes qy.s).map (Value.int .u8)).toArray = ob at *
              have HOB := Lib.hid hcs
              clear hcs
              go_wp2_with (first
                | (with_reducible refine wpList_load_row rfl 88 (.tmp 6) rfl wo2.heap.size rfl 88 _ (0, 0) _ hbl.out Try.underlying88 rfl ?l1 ?_)
                | (with_reducible refine wpList_store_row rfl 88 (.tmp 2) (.tmp 70) rfl w.heap.size _ rfl rfl 88 _ hbs.out ?a1 ?a2 ?a3 ?_))
              case l1 => rw [size_32, hl32]
              case a1 => rw [size_32, hl32]
              case a2 => rw [hl32]; rfl
              case a3 => exact hall
              refine bodyPost_ret (results_cell_row (fn := Try.f63) rfl _ _ w.heap.size 88 ob (0, 0) _ rfl (setRow_heap _ _ _ _ _ _ hbs.out) Try.underlying88 rfl ?_) rfl ⟨?_, below_setRow HBZ.out (Nat.le_refl _) _⟩
              · rw [size_32, hl32]
              · rw [← HOB.out, sumL, tail, feed_cons, HQ1.out, ← HZ.out, ← HQE.out]
        · obtain ⟨j, rfl⟩ : ∃ j, k = j + 1 := ⟨k - 1, by omega⟩
          have hj : ((j + 1 : Nat) : Int) - 1 = (j : Int) := by omega
          have i1 : (0 : Int) ≤ j := by omega
          have i2 : (j : Int) ≤ 7 := by omega
          have HK1 := Lib.hid hk1
          clear hk0 hk1
          have hbb : 0 ≤ (n : Int) * 8 / 2 ^ (8 * j) % 256 ∧ (n : Int) * 8 / 2 ^ (8 * j) % 256 ≤ 255 := by
            have h1 := Int.emod_nonneg ((n : Int) * 8 / 2 ^ (8 * j)) (by decide : (256 : Int) ≠ 0)
            have h2 := Int.emod_lt_of_pos ((n : Int) * 8 / 2 ^ (8 * j)) (by decide : (0 : Int) < 256)
            exact ⟨h1, by omega⟩
          have HBB := Lib.hid hbb
          clear hbb
          rw [hj]
          go_wp2_with fail
          refine (write_one g2 qy _ wo2 _ HHY.out hqy HBB.out (by have h1 := HB8.out; have h2 := HK1.out; omega)).mono ?_
          rintro e w5 ⟨rfl, hH5, hq5, hg5⟩
          have hn5 : (feed1 qy ((n : Int) * 8 / 2 ^ (8 * j) % 256)).n = qy.n + 1 := rfl
          go_wp2_with fail
          exact ⟨⟨j, feed1 qy _, by omega, rfl, by have := HK1.out; omega, ⟨hH5, hq5, grow_trans hgy hg5⟩, by rw [← HFY.out]; rfl⟩, by simp [intOf]⟩
    · have hm1 : ¬ (qx.n : Int) % 64 = 56 := by
        have h2 := HZ.out
        unfold zeros at h2
        omega
      have hm2 : ¬ (qx.n : Int).tmod 64 = 56 := by rw [Int.tmod_eq_emod_of_nonneg (by omega)]; exact hm1
      have HK1 := Lib.hid hk1
      have HB : Hid (qx.n + 1 < 2 ^ 62) := by show qx.n + 1 < 2 ^ 62; omega
      obtain ⟨k, rfl⟩ : ∃ j, k = j + 1 := ⟨k - 1, by omega⟩
      clear hk1 hk0 hNB
      have hcq : countOf g2 wo = qx.n := by simp [countOf, hcnt]
      go_wp2_with fail
      refine (write_one g2 qx 0 wo _ hHx hqx (by omega) HB.out).mono ?_
      rintro e w5 ⟨rfl, hH5, hq5, hg5⟩
      have hcnt5 := hH5.count hq5.s.1 hq5.r
      have hn5 : (feed1 qx 0).n = qx.n + 1 := rfl
      have hcq5 : countOf g2 w5 = qx.n + 1 := by simp [countOf, hcnt5, hn5]
      go_wp2_with fail
      exact ⟨⟨k, feed1 qx 0, by have := HK1.out; omega, by omega, ⟨hH5, hq5, grow_trans hgx hg5⟩, by rw [← hfd]; rfl⟩, by rw [hcq, hcq5]; have := HK1.out; omega⟩
end Go.Proofs.Ytpacfijkhhjfeaa
