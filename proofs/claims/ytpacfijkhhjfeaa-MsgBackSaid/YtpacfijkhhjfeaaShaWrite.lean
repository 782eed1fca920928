/- The contract of (*sha.Hash).Write. -/
import Derived.Test.YtpacfijkhhjfeaaShaFeed
import Derived.Deep.CutBlock
import Derived.Deep.DeepCutAuto
namespace Go.Proofs.Ytpacfijkhhjfeaa
set_option linter.unusedVariables false
set_option linter.unusedSimpArgs false
open Go.RowKit

def sliceLen : Value → Nat
  | .slice _ n _ => n
  | _ => 0

theorem grow_trans {a b c : World} {row : Option Nat} (h : a.grownBy b row) (k : b.grownBy c row) : a.grownBy c row :=
  ⟨k.os.trans h.os, k.tape.trans h.tape, k.output.trans h.output, Nat.le_trans h.size k.size, fun i hi hne => (k.block i (Nat.lt_of_lt_of_le hi h.size) hne).trans (h.block i hi hne)⟩
theorem grow_past {w w' : World} {row : Option Nat} {k : Nat} (h : (w.drewN k).grownBy w' row) : w.grownBy w' row := ⟨h.os, h.tape, h.output, h.size, h.block⟩
theorem grow_setCells {w : World} (g : Nat) : ∀ (vs : List Value) (o : Nat) {w' : World}, w.grownBy w' (some g) → w.grownBy (w'.setCells g o vs) (some g)
  | [], _, _, h => h
  | v :: r, o, _, h => grow_setCells g r (o + 1) (grow_setCell h o v)

/-- no element of v lies in block g -/
def offBlock (v : Value) (g : Nat) : Prop := ∀ a n c, v = .slice (some a) n c → 0 < n → a.block ≠ g

theorem run_slice_l_to {P : Program} (w : World) (t e : TypeId) (ht : P.underlying t = some (.slice e)) (he : ∀ u : World, (sizeOf e).run P u = .ok 1 u) (a : Option Addr) (len cap l : Nat) (x : Int) (hx : x = l) (h1 : l ≤ len) (k : IntKind) :
    (Instr.slice t (.slice a len cap) (some (.int k x)) none none).run P w = .ok (.slice (if cap = l then a else a.map (·.add (l * 1))) (len - l) (cap - l)) w := by
  subst hx
  simp [Instr.slice, run_underlying ht, Instr.sliceBounds, run_sliceBound, he, h1, Sem.run_bind, Result.andThen]

theorem piece {wo wn : World} {k : IntKind} {b : Addr} {R l : List Int} {c t d g : Nat} {z : Option Addr} (hv : isRow wo k (.slice (some b) R.length c) R) (hz : z = if c = t then some b else (some b).map (·.add (t * 1)))
    (hR : R = l.drop d) (ht : t ≤ R.length) (hpos : 0 < R.length) (ho : offBlock (.slice (some b) R.length c) g) (hg : wo.grownBy wn (some g)) : isRow wn k (.slice z (R.length - t) (c - t)) (l.drop (d + t)) := by
  have hbg := ho b _ _ rfl hpos
  have h2 : isRow wn k (.slice (some b) R.length c) R := hv.kept hg.size fun x hx a n c' he hab => by
    cases he
    exact hg.block x hx (by intro hh; cases hh; exact hbg hab)
  have h3 := h2.drop t ht
  rw [← hz] at h3
  have h4 : R.drop t = l.drop (d + t) := by rw [hR, List.drop_drop]
  rwa [h4] at h3
  
theorem offPiece {b : Addr} {m c t g : Nat} {z : Option Addr} (hz : z = if c = t then some b else (some b).map (·.add (t * 1))) (ho : offBlock (.slice (some b) m c) g) (hpos : 0 < t) (ht : t ≤ m) : offBlock (.slice z (m - t) (c - t)) g := by
  intro a n c' he hn
  have hb := ho b _ _ rfl (by omega)
  cases he
  split at hz
  · cases hz; exact hb
  · simp only [Option.map_some, Option.some.injEq] at hz
    rw [hz, add_block]; exact hb

set_option maxHeartbeats 4000000 in
set_option maxRecDepth 100000 in
theorem write_calls (g : Nat) (q : Fed) (v : Value) (l : List Int) (w : World) (hH : HashAt w g true q.s q.r q.n) (hq : okFed q) (hv : isRow w .u8 v l) (ho : offBlock v g) (hl : isByte l) (hn : q.n + l.length < 2 ^ 62) :
    Calls Try.prog 62 #[.pointer (some ⟨g, 0, none⟩), v] w fun e w' => e = .returned (.tuple #[]) ∧ HashAt w' g true (feed q l).s (feed q l).r (feed q l).n ∧ w.grownBy w' (some g) := by
  have hg := hH.lt
  have hm := hH.madeIs
  have HQ := Lib.hid hq
  have HL := Lib.hid hl
  have HN := Lib.hid hn
  clear hq hl hn
  go_enter Try.func62, Try.ntmps62
  go_wp2_with fail
  go_loopw [1] (fun x wr => ∃ d : Nat, d ≤ l.length ∧ isRow wr .u8 x (l.drop d) ∧ offBlock x g ∧ HashAt wr g true (feed q (l.take d)).s (feed q (l.take d)).r (feed q (l.take d)).n ∧ w.grownBy wr (some g)) (fun x _ => sliceLen x)
  case atStart => exact ⟨0, by omega, hv, ho, by simpa [feed_nil] using hH, World.grownBy.refl _ _⟩
  case round =>
    clear hv ho hH hm
    obtain ⟨d, hd, hv, ho, hH, hgb⟩ := hrel
    obtain ⟨wo, rfl⟩ : ∃ wo : World, wo = wr := ⟨_, rfl⟩
    obtain ⟨R, hR⟩ : ∃ R, R = l.drop d := ⟨_, rfl⟩
    rw [← hR] at hv
    have hRl : R.length = l.length - d := by rw [hR]; simp
    have HV := Lib.hid hv
    obtain ⟨a, c, rfl, hc, hr⟩ := hv
    by_cases hlt : d < l.length
    · have hne : R ≠ [] := by intro h; rw [h] at hRl; simp at hRl; omega
      obtain ⟨b, rfl, hb, hcell⟩ := hr hne
      have hnn := feed_n (l.take d) q
      have hok := feed_ok (l.take d) HQ.out (HL.out.take d)
      have hsz := hgb.size
      have HG := Lib.hid (rfl : feed q (l.take d) = feed q (l.take d))
      generalize hqq : feed q (l.take d) = q' at *
      obtain ⟨s, r, n⟩ := q'
      simp only at hnn
      have HNN := Lib.hid hnn
      have hl64 : l.length < 2 ^ 62 := by have := HN.out; omega
      have hn64 : n < 2 ^ 62 := by have := HN.out; simp at hnn; omega
      have hcount := hH.count hok.s.1 hok.r
      obtain ⟨t, ht⟩ : ∃ t, t = Nat.min R.length (64 - n % 64) := ⟨_, rfl⟩
      have hRpos : 0 < R.length := by omega
      have htpos : 0 < t := by rw [ht]; exact Nat.lt_min.2 ⟨hRpos, by omega⟩
      have htl : t ≤ R.length := by rw [ht]; exact Nat.min_le_left _ _
      have htm : n % 64 + t ≤ 64 := by have : t ≤ 64 - n % 64 := by rw [ht]; exact Nat.min_le_right _ _
                                       omega
      have i1 : (0 : Int) < (R.length : Int) := by omega
      have hlen : (R.take t).length = t := by rw [List.length_take]; exact Nat.min_eq_left htl
      have hfn : feed q (l.take (d + t)) = ⟨if (n + t) % 64 = 0 then takeL s (fun i => (laid r (n % 64) (R.take t)).getD i 0) else s, laid r (n % 64) (R.take t), n + t⟩ := by
        have hw := feed_within (R.take t) ⟨s, r, n⟩ (by rw [hlen]; exact htm) (by intro hh; rw [hh] at hlen; simp at hlen; omega)
        rw [hlen] at hw
        rw [List.take_add, feed_append, hqq, ← hR, hw]
      have HFN := Lib.hid hfn
      have HQQ := Lib.hid hqq
      clear hfn hlen hqq
      have hmod : (n : Int) % 64 = ((n % 64 : Nat) : Int) := by omega
      have hcp : ∀ k : Nat, (Builtin.copy_ #[26, 26] 3 #[.slice (some ⟨g, 9 + n % 64, none⟩) (64 - n % 64) (64 - n % 64), .slice (some b) R.length c]).run Try.prog (wo.drewN k) =
          .ok (.int .i64 t) ((wo.drewN k).setCells g (9 + n % 64) ((R.take t).map (Value.int .u8))) := fun k => by
        have hHk := hH.drewN k
        have hlen : ((R.take t).map (Value.int .u8)).length = t := by simp; omega
        have hh := run_copy_cells (P := Try.prog) (wo.drewN k) 26 26 3 5 g (9 + n % 64) (64 - n % 64) (64 - n % 64) b R.length c ((R.take t).map (Value.int .u8))
          Try.underlying26 (by kernel_rfl) (by rw [hlen, ht]) ?_ ?_ (fun j _ => hHk.frozen _) (fun x hx => by
            obtain ⟨y, _, rfl⟩ := List.mem_map.1 hx
            rfl)
        · rw [hlen] at hh; exact hh
        · intro j x hj
          have hjl : j < t := by
            rcases Nat.lt_or_ge j t with h | h
            · exact h
            · rw [List.getElem?_eq_none (by rw [hlen]; exact h)] at hj; cases hj
          have hcj := hcell j (by omega)
          have : (wo.drewN k).cell? (b.add j) = wo.cell? (b.add j) := cell_block rfl
          rw [this, hcj]
          rw [List.getElem?_map, List.getElem?_take_of_lt hjl, List.getElem?_eq_getElem (by omega)] at hj
          simp only [Option.map_some] at hj
          rw [← hj]
          simp [List.getD, (by omega : j < R.length)]
        · intro j hj
          rw [hlen] at hj
          rw [show 9 + n % 64 + j = 9 + (n % 64 + j) by omega, hHk.rest hok.s.1 _ (by rw [hok.r]; omega)]; rfl
      have hsl := fun u : World => run_slice_arr_l (P := Try.prog) u 133 5 64 Try.underlying133 Try.sizeOf5 g 9 (n % 64) ((n : Int).tmod 64) (by rw [Int.tmod_eq_emod_of_nonneg (by omega)]; omega) (by omega) .u64
      have hsl2 := fun u : World => run_slice_arr_l (P := Try.prog) u 133 5 64 Try.underlying133 Try.sizeOf5 g 9 (n % 64) ((n : Int) % 64) (by omega) (by omega) .u64
      have hcp1 : (Builtin.copy_ #[26, 26] 3 #[.slice (some ⟨g, 9 + n % 64, none⟩) (64 - n % 64) (64 - n % 64), .slice (some b) R.length c]).run Try.prog wo.drew =
          .ok (.int .i64 t) (wo.drew.setCells g (9 + n % 64) ((R.take t).map (Value.int .u8))) := hcp 1
      obtain ⟨z, hz⟩ : ∃ z : Option Addr, z = if c = t then some b else (some b).map (·.add (t * 1)) := ⟨_, rfl⟩
      have hsl3 : ∀ u : World, (Instr.slice 26 (.slice (some b) R.length c) (some (.int .i64 t)) none none).run Try.prog u = .ok (.slice z (R.length - t) (c - t)) u := fun u => by
        rw [hz]
        exact run_slice_l_to u _ _ Try.underlying26 Try.sizeOf5 (some b) R.length c t t rfl htl .i64
      have HZ := Lib.hid hz
      have HT := Lib.hid ht
      clear hz ht
      have ht1 : 0 < t := htpos
      have HRL := Lib.hid hRl
      have HR := Lib.hid hR
      clear hnn hRl hR
      go_upto_region 4 with (fail)
      go_cut [1, 4] (fun x y wx => x = .slice (some b) R.length c ∧ y = .int .i64 t ∧ HashAt wx g true s (laid r (n % 64) (R.take t)) n ∧ wo.grownBy wx (some g))
      case first =>
        go_region
        go_wp2_with fail
        go_meet
        case rel =>
          refine ⟨rfl, rfl, ?_, ?_⟩
          · have hfin := (hH.drew).laid hok.s.1 (R.take t) (n % 64) (by have h1 := List.length_take_le t R; have h2 : r.length = 64 := hok.r; omega)
            rw [List.map_take] at hfin
            exact hfin
          · exact grow_setCells g _ _ (grow_drew (World.grownBy.refl _ _))
      case rest =>
        obtain ⟨wc', rfl⟩ : ∃ wc' : World, wc' = wc := ⟨_, rfl⟩
        obtain ⟨rfl, rfl, hH2, hg2⟩ := hcut
        have hll : (laid r (n % 64) (R.take t)).length = 64 := by rw [laid_length]; exact hok.r
        have hcount2 := hH2.count hok.s.1 hll
        have hfr2 := hH2.frozen 73
        have b1 : (0 : Int) ≤ (n : Int) + t := by omega
        have b2 : (n : Int) + t ≤ 18446744073709551615 := by omega
        have b3 : (0 : Int) ≤ (t : Int) := by omega
        have b4 : (t : Int) ≤ 18446744073709551615 := by omega
        have hH3 := Lib.hid (hH2.setCount hok.s.1 hll ((n : Int) + t))
        clear hH2 hcp1 hcp hcount hl64 hn64 hmod htm hRpos i1 hsl hsl2
        go_upto_region 7 with (fail)
        have hg3 : wo.grownBy (wc'.setCell ⟨g, 73, none⟩ (.int .u64 ((n : Int) + t))) (some g) := grow_setCell hg2 73 _
        generalize wc'.setCell ⟨g, 73, none⟩ (.int .u64 ((n : Int) + t)) = w3 at *
        have hcount3 := hH3.out.count hok.s.1 hll
        have hnt : ((n : Int) + t) = ((n + t : Nat) : Int) := by omega
        rw [hnt] at hcount3
        have hH4 := hH3.out
        rw [hnt] at hH4
        have HH4 := Lib.hid hH4
        clear hH3 hH4 hnt hcount2 hfr2 b1 b2 b3 b4 hg2 HG
        have hnn2 : (n : Int) + t = ((n + t : Nat) : Int) := by omega
        rw [hnn2]
        clear hnn2
        generalize n + t = N2 at *
        have e1 : (N2 : Int).tmod 64 = ((N2 % 64 : Nat) : Int) := by rw [Int.tmod_eq_emod_of_nonneg (by omega)]; omega
        have e2 : (N2 : Int) % 64 = ((N2 % 64 : Nat) : Int) := by omega
        by_cases hz : N2 % 64 = 0
        · rw [hz] at e1 e2
          have hfz : feed q (l.take (d + t)) = ⟨takeL s (fun i => (laid r (n % 64) (R.take t)).getD i 0), laid r (n % 64) (R.take t), N2⟩ := by rw [HFN.out, if_pos hz]
          have HFZ := Lib.hid hfz
          clear hfz
          go_upto_region 8 with (fail)
          go_region_with (go_at_call 67; refine (take_calls g true s (laid r (n % 64) (R.take t)) N2 _ (HH4.out.drewN _) hok.s hll (Lib.hid (laid_byte _ _ _ hok.b (isByte.take (by rw [HR.out]; exact HL.out.drop d) t)))).mono ?_; rintro e w' ⟨rfl, hx1, hx2⟩)
          have hx3 := grow_trans hg3 (grow_past hx2)
          go_wp2_with fail
          exact ⟨⟨d + t, by have := HRL.out; omega, piece HV.out HZ.out HR.out htl (Nat.lt_of_lt_of_le ht1 htl) ho hx3, offPiece HZ.out ho ht1 htl, by rw [HFZ.out]; exact hx1, grow_trans hgb hx3⟩, by simp [sliceLen]; omega⟩
        · have hfz : feed q (l.take (d + t)) = ⟨s, laid r (n % 64) (R.take t), N2⟩ := by rw [HFN.out, if_neg hz]
          have HFZ := Lib.hid hfz
          have e3 : ¬ (N2 : Int) % 64 = 0 := by omega
          have e4 : ¬ (N2 : Int).tmod 64 = 0 := by rw [e1]; omega
          clear hfz e1 e2
          go_wp2_with fail
          exact ⟨⟨d + t, by have := HRL.out; omega, piece HV.out HZ.out HR.out htl (Nat.lt_of_lt_of_le ht1 htl) ho hg3, offPiece HZ.out ho ht1 htl, by rw [HFZ.out]; exact HH4.out, grow_trans hgb hg3⟩, by simp only [sliceLen]; omega⟩
    · have hdl : d = l.length := by omega
      subst hdl
      have hR0 : R.length = 0 := by omega
      rw [hR0]
      go_wp2_with fail
      go_end0
      rw [List.take_length] at hH
      exact ⟨rfl, hH, hgb⟩
end Go.Proofs.Ytpacfijkhhjfeaa
