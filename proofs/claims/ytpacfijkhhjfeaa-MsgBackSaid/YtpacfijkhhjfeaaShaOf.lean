/- The contracts of sha.Of and sha.Sum. -/
import Derived.Test.YtpacfijkhhjfeaaShaSum
namespace Go.Proofs.Ytpacfijkhhjfeaa
set_option linter.unusedVariables false
set_option linter.unusedSimpArgs false
open Go.RowKit

def shaL (l : List Int) : List Int := sumL (feed fed0 l)

/-- some texts, as they lie behind one another in a slice -/
structure Parts (w : World) (a : Addr) (ps : List (Value × List Int)) : Prop where
  at_ : ∀ i, i < ps.length → ∃ v l, ps[i]? = some (v, l) ∧ w.cell? (a.add i) = some v ∧ isRow w .u8 v l ∧ isByte l

theorem byte_flat : ∀ {ps : List (Value × List Int)}, (∀ i, i < ps.length → ∃ v l, ps[i]? = some (v, l) ∧ isByte l) → isByte (ps.flatMap Prod.snd)
  | [], _ => isByte.nil
  | p :: t, h => by
    rw [List.flatMap_cons]
    obtain ⟨v, l, h1, h2⟩ := h 0 (by simp)
    simp at h1
    subst h1
    exact isByte.append h2 (byte_flat fun i hi => by simpa using h (i + 1) (by simpa using hi))

theorem len_flat : ∀ (ps : List (Value × List Int)) (i : Nat), ((ps.take i).flatMap Prod.snd).length ≤ (ps.flatMap Prod.snd).length
  | [], i => by simp
  | p :: t, 0 => by simp
  | p :: t, i + 1 => by
    rw [List.take_succ_cons, List.flatMap_cons, List.flatMap_cons, List.length_append, List.length_append]
    have := len_flat t i
    omega

theorem flat_succ (ps : List (Value × List Int)) (i : Nat) (v : Value) (l : List Int) (h : ps[i]? = some (v, l)) : (ps.take (i + 1)).flatMap Prod.snd = (ps.take i).flatMap Prod.snd ++ l := by
  rw [List.take_add_one, h, List.flatMap_append]
  simp

theorem isRow.off {w : World} {k : IntKind} {v : Value} {l : List Int} (h : isRow w k v l) (g : Nat) (hg : w.heap.size ≤ g) : offBlock v g := by
  intro b n c he hpos
  obtain ⟨a', c', hv', _, hr⟩ := h
  rw [he] at hv'
  cases hv'
  obtain ⟨b', hb', hlt, _⟩ := hr (by intro hh; rw [hh] at hpos; simp at hpos)
  cases hb'
  omega

set_option maxHeartbeats 4000000 in
set_option maxRecDepth 100000 in
theorem of_calls (a : Addr) (ps : List (Value × List Int)) (c : Nat) (w : World) (ha : a.block < w.heap.size) (hp : Parts w a ps) (hn : (ps.flatMap Prod.snd).length < 2 ^ 60) (hpl : ps.length ≤ 1000) :
    Calls Try.prog 55 #[.slice (some a) ps.length c] w fun e w' => e = .returned (.agg ((shaL (ps.flatMap Prod.snd)).map (Value.int .u8)).toArray) ∧ Below w.heap.size w w' := by
  have HP := Lib.hid hp
  have HN := Lib.hid hn
  have HBY : Hid (isByte (ps.flatMap Prod.snd)) := byte_flat fun i hi => by
    obtain ⟨v, l, h1, _, _, h2⟩ := hp.at_ i hi
    exact ⟨v, l, h1, h2⟩
  clear hp hn
  go_enter Try.func55, Try.ntmps55
  go_wp2_with fail
  refine (new_calls _).mono ?_
  rintro e w1 ⟨g2, rfl, hg2, hH2, hb2⟩
  have hb1 := ((Below.refl w.heap.size w).alloc (Nat.le_refl _) _).trans (hb2.mono (by simp))
  have hsz : w.heap.size < g2 := Nat.lt_of_lt_of_le (by simp) hg2
  have hRes : isArr w1 w.heap.size 88 .u8 (List.replicate 32 0) := (isArr.new w 88 .u8 (List.replicate 32 0)).below hb2 (by simp)
  clear hg2 hb2
  have HR := Lib.hid hRes
  have HH := Lib.hid hH2
  have HB := Lib.hid hb1
  have hszB := hb1.size
  clear hRes hH2 hb1
  go_wp2_with fail
  go_loopw [9] (fun x wr => ∃ i : Nat, i ≤ ps.length ∧ x = .int .i64 i ∧ Rel w1 wr g2 (feed fed0 ((ps.take i).flatMap Prod.snd))) (fun x _ => ps.length - (intOf x).toNat)
  case atStart => exact ⟨0, by omega, rfl, HH.out, fed0_ok, World.grownBy.refl _ _⟩
  case round =>
    obtain ⟨i, hi, rfl, hR⟩ := hrel
    obtain ⟨wo, rfl⟩ : ∃ wo : World, wo = wr := ⟨_, rfl⟩
    obtain ⟨hHq, hqq, hgq⟩ := hR
    have hbo := Lib.hid (below_grown HB.out hgq hszB (by omega))
    have hHq := Lib.hid hHq
    have hqq := Lib.hid hqq
    by_cases hlt : i < ps.length
    · obtain ⟨v, l, hpi, hc, hv, hl⟩ := HP.out.at_ i hlt
      have hco : wo.cell? (a.add i) = some v := by
        rw [cell_block (w := w) (by rw [add_block]; exact hbo.out.block a.block ha)]; exact hc
      have hco1 : wo.cell? (a.add (i * 1)) = some v := by rw [Nat.mul_one]; exact hco
      have HV := Lib.hid hv
      have HL := Lib.hid hl
      have HPI := Lib.hid hpi
      clear hv hl hc hpi
      have i1 : (0 : Int) ≤ i := by omega
      have i2 : (i : Int) < ps.length := by omega
      go_wp2_with fail
      have hfl := flat_succ ps i v l HPI.out
      have hlen1 := len_flat ps (i + 1)
      rw [hfl, List.length_append] at hlen1
      have hnq : (feed fed0 ((ps.take i).flatMap Prod.snd)).n = ((ps.take i).flatMap Prod.snd).length := by rw [feed_n]; exact Nat.zero_add _
      refine (write_calls g2 (feed fed0 ((ps.take i).flatMap Prod.snd)) v l wo hHq.out hqq.out (HV.out.below hbo.out (Nat.le_refl _)) (HV.out.off g2 (by omega)) HL.out (by have := HN.out; rw [hnq]; omega)).mono ?_
      rintro e w2 ⟨rfl, hH3, hg3⟩
      go_wp2_with fail
      exact ⟨⟨i + 1, by omega, by go_num, by rw [hfl, feed_append]; exact ⟨hH3, feed_ok l hqq.out HL.out, grow_trans hgq hg3⟩⟩, by simp [intOf]; omega⟩
    · have hie : i = ps.length := by omega
      subst hie
      rw [List.take_length] at hHq hqq
      have hn : (feed fed0 (ps.flatMap Prod.snd)).n = (ps.flatMap Prod.snd).length := by rw [feed_n]; exact Nat.zero_add _
      have hRo := Lib.hid (HR.out.grown hgq (by omega))
      go_wp2_with fail
      refine (hsum_calls g2 _ wo hHq.out hqq.out (by rw [hn]; exact HN.out)).mono ?_
      rintro e w2 ⟨rfl, hb3⟩
      have hbs : Hid (w2.heap[w.heap.size]? = some (.cells ((List.replicate 32 0).map (Value.int .u8)).toArray 88 (0, 0))) := hRo.out.below hb3 hRo.out.lt
      have HRS := Lib.hid (hbo.out.trans (hb3.mono hbo.out.size))
      have hl32 : ((sumL (feed fed0 (ps.flatMap Prod.snd))).map (Value.int .u8)).toArray.size = 32 := by simp [sumL, outBytes]
      have hall : (((sumL (feed fed0 (ps.flatMap Prod.snd))).map (Value.int .u8)).toArray.all fun x => x.oneCell') = true := by rw [List.all_toArray, List.all_map]; exact List.all_eq_true.2 fun _ _ => rfl
      obtain ⟨ob, hob⟩ : ∃ ob, ob = ((sumL (feed fed0 (ps.flatMap Prod.snd))).map (Value.int .u8)).toArray := ⟨_, rfl⟩
      rw [← hob] at hl32 hall ⊢
      have HOB := Lib.hid hob
      clear hob hn
      go_wp2_with (with_reducible refine wpList_store_row rfl 88 (.tmp 2) (.tmp 18) rfl w.heap.size _ rfl rfl 88 _ hbs.out ?a1 ?a2 ?a3 ?_)
      case a1 => rw [size_32, hl32]
      case a2 => rw [hl32]; rfl
      case a3 => exact hall
      refine bodyPost_ret (results_cell_row (fn := Try.f55) rfl _ _ w.heap.size 88 ob (0, 0) _ rfl (setRow_heap _ _ _ _ _ _ hbs.out) Try.underlying88 rfl ?_) rfl ⟨by rw [HOB.out]; rfl, below_setRow HRS.out (Nat.le_refl _) _⟩
      rw [size_32, hl32]

theorem shaL_length (l : List Int) : (shaL l).length = 32 := by simp [shaL, sumL, outBytes]

set_option maxHeartbeats 4000000 in
set_option maxRecDepth 100000 in
theorem sum_calls (v : Value) (l : List Int) (w : World) (hv : isRow w .u8 v l) (hl : isByte l) (hn : l.length < 2 ^ 60) :
    Calls Try.prog 45 #[v] w fun e w' => e = .returned (.agg ((shaL l).map (Value.int .u8)).toArray) ∧ Below w.heap.size w w' := by
  have HV := Lib.hid hv
  have HL := Lib.hid hl
  have HN := Lib.hid hn
  have hv' := hv
  obtain ⟨a0, c0, rfl, _, _⟩ := hv'
  clear hv hl hn
  go_enter Try.func45, Try.ntmps45
  go_wp2_with fail
  have hb0 : Below w.heap.size w ((w.alloc (.cells ((List.replicate 32 0).map (Value.int .u8)).toArray 88)).alloc (.cells #[.slice a0 l.length c0] 26)) := ((Below.refl w.heap.size w).alloc (Nat.le_refl _) _).alloc (by simp) _
  have hcell : ((w.alloc (.cells ((List.replicate 32 0).map (Value.int .u8)).toArray 88)).alloc (.cells #[.slice a0 l.length c0] 26)).cell? ⟨w.heap.size + 1, 0, none⟩ = some (.slice a0 l.length c0) := by
    rw [cell_of_row _ (w.heap.size + 1) 0 _ 26 (0, 0) (heap_alloc2_new w _ _)]
    rfl
  have hp : Parts ((w.alloc (.cells ((List.replicate 32 0).map (Value.int .u8)).toArray 88)).alloc (.cells #[.slice a0 l.length c0] 26)) ⟨w.heap.size + 1, 0, none⟩ [(.slice a0 l.length c0, l)] := ⟨fun i hi => by
    have hi0 : i = 0 := by simpa using hi
    subst hi0
    exact ⟨_, _, rfl, by rw [Addr.add_zero']; exact hcell, HV.out.below hb0 (Nat.le_refl _), HL.out⟩⟩
  have HP := Lib.hid hp
  have HB0 := Lib.hid hb0
  clear hp hb0 hcell
  refine (of_calls ⟨w.heap.size + 1, 0, none⟩ [(.slice a0 l.length c0, l)] 1 _ (by simp) HP.out (by simpa using HN.out) (by simp)).mono ?_
  rintro e w2 ⟨rfl, hb3⟩
  have hfl : [(Value.slice a0 l.length c0, l)].flatMap Prod.snd = l := by simp
  rw [hfl]
  have hbs : Hid (w2.heap[w.heap.size]? = some (.cells ((List.replicate 32 0).map (Value.int .u8)).toArray 88 (0, 0))) := (isArr.below (T := 88) (k := .u8) (l := List.replicate 32 0) ((isArr.new w 88 .u8 (List.replicate 32 0)).alloc _) hb3 (by simp; omega))
  have HRS := Lib.hid (HB0.out.trans (hb3.mono HB0.out.size))
  have hl32 : ((shaL l).map (Value.int .u8)).toArray.size = 32 := by simp [shaL_length]
  have hall : (((shaL l).map (Value.int .u8)).toArray.all fun x => x.oneCell') = true := by rw [List.all_toArray, List.all_map]; exact List.all_eq_true.2 fun _ _ => rfl
  clear HP HB0 hb3 hfl
  obtain ⟨ob, hob⟩ : ∃ ob, ob = ((shaL l).map (Value.int .u8)).toArray := ⟨_, rfl⟩
  rw [← hob] at hl32 hall ⊢
  have HOB := Lib.hid hob
  clear hob
  go_wp2_with (with_reducible refine wpList_store_row rfl 88 (.tmp 2) (.tmp 5) rfl w.heap.size _ rfl rfl 88 _ hbs.out ?a1 ?a2 ?a3 ?_)
  case a1 => rw [size_32, hl32]
  case a2 => rw [hl32]; rfl
  case a3 => exact hall
  refine bodyPost_ret (results_cell_row (fn := Try.f45) rfl _ _ w.heap.size 88 ob (0, 0) _ rfl (setRow_heap _ _ _ _ _ _ hbs.out) Try.underlying88 rfl ?_) rfl ⟨by rw [HOB.out], below_setRow HRS.out (Nat.le_refl _) _⟩
  rw [size_32, hl32]
end Go.Proofs.Ytpacfijkhhjfeaa
