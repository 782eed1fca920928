/- frame.Read, frame.Open. -/
import Derived.Test.YtpacfijkhhjfeaaFrameLen
import Derived.Test.YtpacfijkhhjfeaaBytesEq
import Derived.Deep.RegionHeld3
namespace Go.Proofs.Ytpacfijkhhjfeaa
set_option linter.unusedVariables false
set_option linter.unusedSimpArgs false
open Go.RowKit

theorem run_slice_lh {P : Program} (w : World) (t e : TypeId) (ht : P.underlying t = some (.slice e)) (he : ∀ u : World, (sizeOf e).run P u = .ok 1 u) (a : Addr) (len cap l h : Nat) (x y : Int) (hx : x = l) (hy : y = h) (h1 : l ≤ h) (h2 : h ≤ cap) (h3 : l < cap) (k k' : IntKind) :
    (Instr.slice t (.slice (some a) len cap) (some (.int k x)) (some (.int k' y)) none).run P w = .ok (.slice (some (a.add l)) (h - l) (cap - l)) w := by
  subst hx hy
  have hne : ¬ cap = l := by omega
  simp [Instr.slice, run_underlying ht, Instr.sliceBounds, run_sliceBound, he, h1, h2, hne, Sem.run_bind, Result.andThen]

/-- the bytes within a frame of n bytes -/
def withinL (l : List Int) (n : Nat) : List Int := (l.drop 8).take (n - 4 - 8)
/-- is the sum of a frame of n bytes as it should be? -/
def sumOk (l : List Int) (n : Nat) : Bool := decide ((shaL (l.take (n - 4))).take 4 = (l.drop (n - 4)).take 4)

/-- what frame.Read tells: a kind, what is within, how many bytes, what is wrong -/
structure ReadOf where
  kind : Int
  within : List Int
  n : Int
  bad : Int

def readL (l : List Int) : ReadOf :=
  if (lengthL l).2 ≠ 0 then ⟨0, [], 0, (lengthL l).2⟩
  else if (l.length : Int) < (lengthL l).1 then ⟨0, [], 0, 10⟩
  else if sumOk l (lengthL l).1.toNat = false then ⟨0, [], 0, 12⟩
  else ⟨l.getD 3 0, withinL l (lengthL l).1.toNat, (lengthL l).1, 0⟩

theorem lengthL_bd {l : List Int} (hb : isByte l) (h : (lengthL l).2 = 0) : 12 ≤ (lengthL l).1 ∧ (lengthL l).1 ≤ 65548 ∧ 8 ≤ l.length := by
  unfold lengthL at h ⊢
  have h0 := (numOf_bd _ _ rfl ((hb.drop 4).take 4)).1
  split at h
  · simp at h
  split at h
  · simp at h
  split at h
  · simp at h
  split at h
  · simp at h
  rename_i h1 h2 h3 h4
  simp only [h1, h2, h3, h4, if_false]
  simp
  omega

/-- behind a Read -/
def ReadPost (w : World) (r : ReadOf) (e : Ending) (w' : World) : Prop :=
  ∃ v', e = .returned (.tuple #[.int .i64 r.kind, v', .int .i64 r.n, .int .i64 r.bad]) ∧ isRow w' .u8 v' r.within ∧ NilOk v' ∧ Below w.heap.size w w'

set_option maxHeartbeats 1000000 in
set_option maxRecDepth 100000 in
theorem read_bad (v : Value) (l : List Int) (w : World) (hv : isRow w .u8 v l) (hnil : NilOk v) (hb : isByte l) (hl : l.length ≤ 2 ^ 46) (h : Hid ((lengthL l).2 ≠ 0)) :
    Calls Try.prog 39 #[v] w (ReadPost w ⟨0, [], 0, (lengthL l).2⟩) := by
  have HV := Lib.hid hv
  have HI := Lib.hid hnil
  have HB := Lib.hid hb
  have HL := Lib.hid hl
  clear hv hnil hb hl
  obtain ⟨n, hn⟩ : ∃ n, n = (lengthL l).1 := ⟨_, rfl⟩
  obtain ⟨x, hx⟩ : ∃ x, x = (lengthL l).2 := ⟨_, rfl⟩
  have HC := Lib.hid (fun u hu => length_calls v l u hu HI.out HB.out HL.out)
  rw [← hn, ← hx] at HC
  rw [← hx] at h ⊢
  have hd : (x != 0) = true := by rw [bne_iff_ne]; exact h.out
  clear hn hx
  go_enter Try.func39, Try.ntmps39
  go_wp2_with fail
  refine (HC.out w HV.out).mono ?_
  rintro e w1 ⟨rfl, hb1⟩
  have HB1 := Lib.hid hb1
  clear hb1
  go_wp2_with fail
  exact bodyPost_ret (v := .tuple #[.int .i64 0, .slice none 0 0, .int .i64 0, .int .i64 x]) (by simp [results, Try.results39, go_sem]) rfl ⟨_, rfl, nil_isRow _, nil_nilOk, HB1.out⟩

set_option maxHeartbeats 1000000 in
set_option maxRecDepth 100000 in
theorem read_short (v : Value) (l : List Int) (w : World) (hv : isRow w .u8 v l) (hnil : NilOk v) (hb : isByte l) (hl : l.length ≤ 2 ^ 46) (h : Hid ((lengthL l).2 = 0)) (hs : (l.length : Int) < (lengthL l).1) :
    Calls Try.prog 39 #[v] w (ReadPost w ⟨0, [], 0, 10⟩) := by
  have HV := Lib.hid hv
  have HI := Lib.hid hnil
  have HB := Lib.hid hb
  have HL := Lib.hid hl
  have i1 : (l.length : Int) ≤ 70368744177664 := by omega
  clear hnil hb hl
  obtain ⟨a, c, rfl, hc, -⟩ := hv
  obtain ⟨n, hn⟩ : ∃ n, n = (lengthL l).1 := ⟨_, rfl⟩
  have HC := Lib.hid (fun u hu => length_calls _ l u hu HI.out HB.out HL.out)
  rw [← hn, h.out] at HC
  rw [← hn] at hs
  clear hn
  go_enter Try.func39, Try.ntmps39
  go_wp2_with fail
  refine (HC.out w HV.out).mono ?_
  rintro e w1 ⟨rfl, hb1⟩
  have HB1 := Lib.hid hb1
  clear hb1
  go_wp2_with fail
  exact bodyPost_ret (v := .tuple #[.int .i64 0, .slice none 0 0, .int .i64 0, .int .i64 10]) (by simp [results, Try.results39, go_sem]) rfl ⟨_, rfl, nil_isRow _, nil_nilOk, HB1.out⟩

theorem isRow.upto {w : World} {k : IntKind} {a : Option Addr} {n c : Nat} {l : List Int} (h : isRow w k (.slice a n c) l) (j : Nat) (hj : j ≤ l.length) (c' : Nat) (hc : j ≤ c') : isRow w k (.slice a j c') (l.take j) := by
  obtain ⟨a', c0, he, -, hr⟩ := h
  cases he
  have hlen : (l.take j).length = j := by rw [List.length_take]; omega
  refine ⟨_, c', by rw [hlen], by rw [hlen]; exact hc, fun hne => ?_⟩
  obtain ⟨b, rfl, hlt, hcell⟩ := hr (by intro h0; rw [h0] at hne; simp at hne)
  refine ⟨_, rfl, hlt, fun q hq => ?_⟩
  rw [hlen] at hq
  rw [hcell _ (by omega)]
  simp [List.getD, List.getElem?_take_of_lt hq]

set_option maxHeartbeats 1000000 in
set_option maxRecDepth 100000 in
theorem read_sum (v : Value) (l : List Int) (N : Nat) (w : World) (hv : isRow w .u8 v l) (hnil : NilOk v) (hb : isByte l) (hl : l.length ≤ 2 ^ 46) (h : Hid ((lengthL l).2 = 0)) (hN : Hid ((lengthL l).1 = N)) (hs : N ≤ l.length) (h12 : 12 ≤ N) (hbad : Hid (sumOk l N = false)) :
    Calls Try.prog 39 #[v] w (ReadPost w ⟨0, [], 0, 12⟩) := by
  have HV := Lib.hid hv
  have HI := Lib.hid hnil
  have HB := Lib.hid hb
  have HL := Lib.hid hl
  have i1 : (l.length : Int) ≤ 70368744177664 := by omega
  clear hnil hb hl
  obtain ⟨a, c, rfl, hc, -⟩ := hv
  have HC := Lib.hid (fun u hu => length_calls _ l u hu HI.out HB.out HL.out)
  rw [hN.out, h.out] at HC
  obtain ⟨M, rfl⟩ : ∃ M, N = M + 4 := ⟨N - 4, by omega⟩
  obtain ⟨a0, rfl, -⟩ := HV.out.at 0 (by omega)
  have r1 := HV.out.upto M (by omega) c (by omega)
  have r2 : isRow w .u8 (.slice (some (a0.add M)) 4 (c - M)) ((l.drop M).take 4) := by
    have := HV.out.sub M (M + 4) (by omega) hs (c - M) (by omega)
    rwa [show M + 4 - M = 4 from by omega] at this
  have R1 := Lib.hid r1
  have R2 := Lib.hid r2
  have hB1 := HB.out.take M
  have hB2 := (HB.out.drop M).take 4
  have BY1 := Lib.hid hB1
  have BY2 := Lib.hid hB2
  have hq : decide ((shaL (l.take M)).take 4 = (l.drop M).take 4) = false := by
    have := hbad.out
    unfold sumOk at this
    rwa [show M + 4 - 4 = M from by omega] at this
  clear r1 r2 hB1 hB2
  have j1 : (0 : Int) ≤ M := by omega
  have j2 : (M : Int) ≤ l.length := by omega
  have j3 : (M : Int) + 4 ≤ l.length := by omega
  have e1 : ((M + 4 : Nat) : Int) - 4 = (M : Int) := by omega
  have j5 : (M : Int) ≤ c := by omega
  have j6 : (M : Int) + 4 ≤ c := by omega
  have j7 : M ≤ c := by omega
  go_enter Try.func39, Try.ntmps39
  go_wp2_with fail
  refine (HC.out w HV.out).mono ?_
  rintro e w1 ⟨rfl, hb1⟩
  have R1w := Lib.hid (R1.out.below hb1 (Nat.le_refl _))
  have R2w := Lib.hid (R2.out.below hb1 (Nat.le_refl _))
  have HB1 := Lib.hid hb1
  clear hb1
  go_wp2_with fail
  have ew : IntKind.i64.wrap (M : Int) = M := IntWalk.i64_in _ (by omega)
  have hsl := fun u : World => run_slice_lh (P := Try.prog) u 26 5 Try.underlying26 Try.sizeOf5 a0 l.length c M (M + 4) (M : Int) ((M : Int) + 4) rfl (by omega) (by omega) (by omega) (by omega) .i64 .i64
  go_region_law (first
    | (go_simp; go_at_call 35; (apply Calls.mono (check_calls _ (l.take M) _ (show isRow w1.drew .u8 _ _ from R1w.out) BY1.out (Lib.hid (by rw [List.length_take]; omega))); rintro e w2 ⟨g2, rfl, hg2, hrow2, hb2⟩))
    | (go_simp; go_at_call 32; (apply Calls.mono (bytes_equal_calls _ _ _ _ w2 hrow2 ((show isRow w1.drew .u8 _ _ from R2w.out).below hb2 (Nat.le_refl _)) ((shaL_byte _).take 4) BY2.out); rintro e w3 ⟨rfl, rfl⟩; rw [hq])))
  have HB2 := Lib.hid (HB1.out.drew.trans (hb2.mono HB1.out.size))
  clear hb2 hrow2 hg2
  go_wp2_with fail
  exact bodyPost_ret (v := .tuple #[.int .i64 0, .slice none 0 0, .int .i64 0, .int .i64 12]) (by simp [results, Try.results39, go_sem]) rfl ⟨_, rfl, nil_isRow _, nil_nilOk, HB2.out⟩
theorem clone8_calls (a : Addr) (xs : List Int) (n c : Nat) (w : World) (hx : xs.length = n) (hrow : isRow w .u8 (.slice (some a) n c) xs) (hn : n ≤ 70368744177664) :
    Calls Try.prog 49 #[.slice (some a) n c] w fun e w' => ∃ g c', e = .returned (.slice (some ⟨g, 0, none⟩) n c') ∧ n ≤ c' ∧ owns w' w.heap.size (.slice (some ⟨g, 0, none⟩) n c') xs ∧ Below w.heap.size w w' := by
  refine (Try.bytes_Clone_at a n c xs w hx (by omega) ?_).mono ?_
  · intro i hi
    obtain ⟨a', c', he, -, hr⟩ := hrow
    cases he
    obtain ⟨b, hb, _, hc⟩ := hr (by intro h0; rw [h0] at hi; simp at hi)
    cases hb
    exact hc i (by omega)
  · rintro e w' ⟨v', rfl, ho, hne, hb⟩
    have ho' : owns w' w.heap.size v' xs := by unfold owns; rw [hx]; exact ho
    rcases ho'.form with ⟨h, _⟩ | ⟨g, c', h, _, _, hc⟩
    · exact absurd h hne
    · subst h
      rw [hx] at ho' hc
      exact ⟨g, c', by rw [hx], hc, ho', hb⟩

theorem run_slice_hh {P : Program} (w : World) (t e : TypeId) (ht : P.underlying t = some (.slice e)) (he : ∀ u : World, (sizeOf e).run P u = .ok 1 u) (a : Option Addr) (len cap h : Nat) (x y : Int) (hx : x = h) (hy : y = h) (h2 : h ≤ cap) (k k' : IntKind) :
    (Instr.slice t (.slice a len cap) none (some (.int k x)) (some (.int k' y))).run P w = .ok (.slice a h h) w := by
  subst hx hy
  simp [Instr.slice, run_underlying ht, Instr.sliceBounds, run_sliceBound, he, h2, Sem.run_bind, Result.andThen]
  intro _
  cases a <;> simp [Addr.add_zero']

set_option maxHeartbeats 1000000 in
set_option maxRecDepth 100000 in
theorem read_ok (v : Value) (l : List Int) (N : Nat) (w : World) (hv : isRow w .u8 v l) (hnil : NilOk v) (hb : isByte l) (hl : l.length ≤ 2 ^ 46) (h : Hid ((lengthL l).2 = 0)) (hN : Hid ((lengthL l).1 = N)) (hs : N ≤ l.length) (h12 : 12 ≤ N) (hgood : Hid (sumOk l N = true)) :
    Calls Try.prog 39 #[v] w (ReadPost w ⟨l.getD 3 0, withinL l N, N, 0⟩) := by
  have HV := Lib.hid hv
  have HI := Lib.hid hnil
  have HB := Lib.hid hb
  have HL := Lib.hid hl
  have i1 : (l.length : Int) ≤ 70368744177664 := by omega
  clear hnil hb hl
  obtain ⟨a, c, rfl, hc, -⟩ := hv
  have HC := Lib.hid (fun u hu => length_calls _ l u hu HI.out HB.out HL.out)
  rw [hN.out, h.out] at HC
  obtain ⟨M, rfl⟩ : ∃ M, N = M + 4 := ⟨N - 4, by omega⟩
  obtain ⟨a0, rfl, -⟩ := HV.out.at 0 (by omega)
  have r1 := HV.out.upto M (by omega) c (by omega)
  have r2 : isRow w .u8 (.slice (some (a0.add M)) 4 (c - M)) ((l.drop M).take 4) := by
    have := HV.out.sub M (M + 4) (by omega) hs (c - M) (by omega)
    rwa [show M + 4 - M = 4 from by omega] at this
  have R1 := Lib.hid r1
  have R2 := Lib.hid r2
  have hB1 := HB.out.take M
  have hB2 := (HB.out.drop M).take 4
  have BY1 := Lib.hid hB1
  have BY2 := Lib.hid hB2
  have hq : decide ((shaL (l.take M)).take 4 = (l.drop M).take 4) = true := by
    have := hgood.out
    unfold sumOk at this
    rwa [show M + 4 - 4 = M from by omega] at this
  clear r1 r2 hB1 hB2
  have j1 : (0 : Int) ≤ M := by omega
  have j2 : (M : Int) ≤ l.length := by omega
  have j3 : (M : Int) + 4 ≤ l.length := by omega
  have e1 : ((M + 4 : Nat) : Int) - 4 = (M : Int) := by omega
  have j5 : (M : Int) ≤ c := by omega
  have j6 : (M : Int) + 4 ≤ c := by omega
  have j7 : M ≤ c := by omega
  go_enter Try.func39, Try.ntmps39
  go_wp2_with fail
  refine (HC.out w HV.out).mono ?_
  rintro e w1 ⟨rfl, hb1⟩
  have R1w := Lib.hid (R1.out.below hb1 (Nat.le_refl _))
  have R2w := Lib.hid (R2.out.below hb1 (Nat.le_refl _))
  have HB1 := Lib.hid hb1
  clear hb1
  go_wp2_with fail
  have ew : IntKind.i64.wrap (M : Int) = M := IntWalk.i64_in _ (by omega)
  have hsl := fun u : World => run_slice_lh (P := Try.prog) u 26 5 Try.underlying26 Try.sizeOf5 a0 l.length c M (M + 4) (M : Int) ((M : Int) + 4) rfl (by omega) (by omega) (by omega) (by omega) .i64 .i64
  go_region_law (first
    | (go_simp; go_at_call 35; (apply Calls.mono (check_calls _ (l.take M) _ (show isRow w1.drew .u8 _ _ from R1w.out) BY1.out (Lib.hid (by rw [List.length_take]; omega))); rintro e w2 ⟨g2, rfl, hg2, hrow2, hb2⟩))
    | (go_simp; go_at_call 32; (apply Calls.mono (bytes_equal_calls _ _ _ _ w2 hrow2 ((show isRow w1.drew .u8 _ _ from R2w.out).below hb2 (Nat.le_refl _)) ((shaL_byte _).take 4) BY2.out); rintro e w3 ⟨rfl, rfl⟩; rw [hq])))
  have hB2' := HB1.out.drew.trans (hb2.mono HB1.out.size)
  have hrow8 : isRow w2 .u8 (.slice (some ⟨a0.block, a0.off + 8, none⟩) (M - 8) (c - 8)) ((l.drop 8).take (M - 8)) := by
    have := (HV.out.below hB2' (Nat.le_refl _)).sub 8 M (by omega) (by omega) (c - 8) (by omega)
    rwa [show a0.add 8 = ⟨a0.block, a0.off + 8, none⟩ from rfl] at this
  have hc3 : w2.cell? ⟨a0.block, a0.off + 3, none⟩ = some (.int .u8 (l.getD 3 0)) := by
    obtain ⟨b', he, h3⟩ := (HV.out.below hB2' (Nat.le_refl _)).at 3 (by omega)
    cases he
    exact h3
  have hlb := World.block_lt_of_cell? w2 _ hc3
  have HB2 := Lib.hid hB2'
  have HR8 := Lib.hid hrow8
  have HC3 := Lib.hid hc3
  have hlen8 : ((l.drop 8).take (M - 8)).length = M - 8 := by rw [List.length_take, List.length_drop]; omega
  have HL8 := Lib.hid hlen8
  clear hb2 hrow2 hg2 hB2' hrow8 hc3 hlen8
  have hsl8 := fun u : World => run_slice_lh (P := Try.prog) u 26 5 Try.underlying26 Try.sizeOf5 a0 l.length c 8 M 8 (M : Int) rfl rfl (by omega) (by omega) (by omega) .i64 .i64
  rw [show a0.add 8 = ⟨a0.block, a0.off + 8, none⟩ from rfl] at hsl8
  go_wp2_with fail
  refine (clone8_calls _ _ _ (c - 8) w2 HL8.out HR8.out (by omega)).mono ?_
  rintro e w3 ⟨g, c3, rfl, hc3', ho3, hb3⟩
  have hc3 := (hb3.cell (p := ⟨a0.block, a0.off + 3, none⟩) hlb).trans HC3.out
  obtain ⟨x3, hx3⟩ : ∃ x3, x3 = l.getD 3 0 := ⟨_, rfl⟩
  rw [← hx3] at hc3
  have hxb := getD_byte HB.out 3
  rw [← hx3] at hxb
  have x30 := hxb.1
  have x31 := hxb.2
  have HX3 := Lib.hid hx3
  clear hxb
  have HO3 := Lib.hid ho3
  have HB3 := Lib.hid (HB2.out.trans (hb3.mono HB2.out.size))
  clear ho3 hb3 hx3 hsl8 hsl
  have hsl3 := fun u : World => run_slice_hh (P := Try.prog) u 26 5 Try.underlying26 Try.sizeOf5 (some ⟨g, 0, none⟩) (M - 8) c3 (M - 8) _ _ rfl rfl hc3' .i64 .i64
  go_wp2_with fail
  go_quiet (fail)
  go_wp2_with fail
  refine bodyPost_ret (v := .tuple #[.int .i64 x3, .slice (some ⟨g, 0, none⟩) (M - 8) (M - 8), .int .i64 ((M : Int) + 4), .int .i64 0]) (by simp [results, Try.results39, go_sem]) rfl ⟨_, by rw [← HX3.out]; rfl, ?_, nilOk_some _ _ _, below_drewN HB3.out _⟩
  have hw : withinL l (M + 4) = (l.drop 8).take (M - 8) := by unfold withinL; rw [show M + 4 - 4 - 8 = M - 8 from by omega]
  show isRow _ .u8 _ (withinL l (M + 4))
  rw [hw]
  have h1 : isRow w3 .u8 (.slice (some ⟨g, 0, none⟩) (M - 8) c3) ((l.drop 8).take (M - 8)) := HO3.out.row
  have h2 := h1.upto (M - 8) (by rw [HL8.out]; exact Nat.le_refl _) (M - 8) (Nat.le_refl _)
  rw [List.take_take, Nat.min_self] at h2
  exact h2
theorem frame_read_calls (v : Value) (l : List Int) (w : World) (hv : isRow w .u8 v l) (hnil : NilOk v) (hb : isByte l) (hl : l.length ≤ 2 ^ 46) :
    Calls Try.prog 39 #[v] w (ReadPost w (readL l)) := by
  unfold readL
  by_cases h : (lengthL l).2 = 0
  · rw [if_neg (by simpa using h)]
    have hbd := lengthL_bd hb h
    by_cases hs : (l.length : Int) < (lengthL l).1
    · rw [if_pos hs]
      exact read_short v l w hv hnil hb hl h hs
    · rw [if_neg hs]
      have hN : (lengthL l).1 = ((lengthL l).1.toNat : Int) := by omega
      by_cases hk : sumOk l (lengthL l).1.toNat = true
      · rw [if_neg (by rw [hk]; decide)]
        have := read_ok v l (lengthL l).1.toNat w hv hnil hb hl h hN (by omega) (by omega) hk
        rw [← hN] at this
        exact this
      · rw [if_pos (by simpa using hk)]
        exact read_sum v l (lengthL l).1.toNat w hv hnil hb hl h hN (by omega) (by omega) (by simpa [Hid] using hk)
  · rw [if_pos h]
    exact read_bad v l w hv hnil hb hl h

/-- what frame.Open tells -/
def openL (l : List Int) : ReadOf := if (lengthL l).2 = 0 ∧ (lengthL l).1 < l.length then ⟨0, [], 0, 11⟩ else readL l

/-- behind an Open -/
def OpenPost (w : World) (r : ReadOf) (e : Ending) (w' : World) : Prop :=
  ∃ v', e = .returned (.tuple #[.int .i64 r.kind, v', .int .i64 r.bad]) ∧ isRow w' .u8 v' r.within ∧ NilOk v' ∧ Below w.heap.size w w'

set_option maxHeartbeats 1000000 in
set_option maxRecDepth 100000 in
theorem open_calls (v : Value) (l : List Int) (w : World) (hv : isRow w .u8 v l) (hnil : NilOk v) (hb : isByte l) (hl : l.length ≤ 2 ^ 46) :
    Calls Try.prog 30 #[v] w (OpenPost w (openL l)) := by
  have HV := Lib.hid hv
  have HI := Lib.hid hnil
  have HB := Lib.hid hb
  have HL := Lib.hid hl
  have i1 : (l.length : Int) ≤ 70368744177664 := by omega
  clear hnil hb hl
  obtain ⟨a, c, rfl, hc, -⟩ := hv
  have HC := Lib.hid (fun u hu => length_calls _ l u hu HI.out HB.out HL.out)
  have HD := Lib.hid (fun u hu => frame_read_calls _ l u hu HI.out HB.out HL.out)
  obtain ⟨r, hr⟩ : ∃ r, r = readL l := ⟨_, rfl⟩
  have hop : openL l = if (lengthL l).2 = 0 ∧ (lengthL l).1 < l.length then ⟨0, [], 0, 11⟩ else r := by unfold openL; rw [hr]
  rw [← hr] at HD
  obtain ⟨n, hn⟩ : ∃ n, n = (lengthL l).1 := ⟨_, rfl⟩
  obtain ⟨x, hx⟩ : ∃ x, x = (lengthL l).2 := ⟨_, rfl⟩
  rw [← hn, ← hx] at HC hop
  rw [hop]
  clear hn hx hr hop
  obtain ⟨rk, rw0, rn, rb⟩ := r
  by_cases hx : x = 0
  · subst hx
    by_cases hlt : n < l.length
    · rw [if_pos ⟨rfl, hlt⟩]
      go_enter Try.func30, Try.ntmps30
      go_wp2_with fail
      refine (HC.out w HV.out).mono ?_
      rintro e w1 ⟨rfl, hb1⟩
      have HB1 := Lib.hid hb1
      clear hb1
      go_wp2_with fail
      go_ret3
      exact ⟨_, rfl, nil_isRow _, nil_nilOk, HB1.out⟩
    · rw [if_neg (fun h => hlt h.2)]
      go_enter Try.func30, Try.ntmps30
      go_wp2_with fail
      refine (HC.out w HV.out).mono ?_
      rintro e w1 ⟨rfl, hb1⟩
      have HV1 := Lib.hid (HV.out.below hb1 (Nat.le_refl _))
      have HB1 := Lib.hid hb1
      clear hb1
      go_wp2_with fail
      refine (HD.out w1 HV1.out).mono ?_
      rintro e w2 ⟨v2, rfl, hr2, hn2, hb2⟩
      have HR2 := Lib.hid hr2
      have HN2 := Lib.hid hn2
      have HB2 := Lib.hid (HB1.out.trans (hb2.mono HB1.out.size))
      clear hr2 hn2 hb2
      go_wp2_with fail
      go_ret3
      exact ⟨_, rfl, HR2.out, HN2.out, HB2.out⟩
  · have hd : (x == 0) = false := beq_eq_false_iff_ne.2 hx
    rw [if_neg (fun h => hx h.1)]
    go_enter Try.func30, Try.ntmps30
    go_wp2_with fail
    refine (HC.out w HV.out).mono ?_
    rintro e w1 ⟨rfl, hb1⟩
    have HV1 := Lib.hid (HV.out.below hb1 (Nat.le_refl _))
    have HB1 := Lib.hid hb1
    clear hb1
    go_wp2_with fail
    refine (HD.out w1 HV1.out).mono ?_
    rintro e w2 ⟨v2, rfl, hr2, hn2, hb2⟩
    have HR2 := Lib.hid hr2
    have HN2 := Lib.hid hn2
    have HB2 := Lib.hid (HB1.out.trans (hb2.mono HB1.out.size))
    clear hr2 hn2 hb2
    go_wp2_with fail
    go_ret3
    exact ⟨_, rfl, HR2.out, HN2.out, HB2.out⟩
end Go.Proofs.Ytpacfijkhhjfeaa
