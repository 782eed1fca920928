/- frame.length. -/
import Derived.Test.YtpacfijkhhjfeaaReadRaw
import Derived.Laws.RangeString
import Derived.Laws.RangeAny
namespace Go.Proofs.Ytpacfijkhhjfeaa
set_option linter.unusedVariables false
set_option linter.unusedSimpArgs false
open Go.RowKit
variable {lo : Nat}

def setIter (w : World) (b : Nat) (s : ByteArray) (p : Nat) : World := { w with heap := w.heap.setIfInBounds b (.stringIter s p) }

theorem setIter_heap {w : World} {b : Nat} {s : ByteArray} {p q : Nat} (hb : w.heap[b]? = some (.stringIter s p)) : (setIter w b s q).heap[b]? = some (.stringIter s q) := by
  have hlt : b < w.heap.size := (Array.getElem?_eq_some_iff.1 hb).1
  simp [setIter, Array.getElem?_setIfInBounds, hlt]
theorem setIter_other {w : World} {b k : Nat} {s : ByteArray} {q : Nat} (h : k ≠ b) : (setIter w b s q).heap[k]? = w.heap[k]? := by
  simp [setIter, Array.getElem?_setIfInBounds, Ne.symm h]
theorem setIter_size (w : World) (b : Nat) (s : ByteArray) (q : Nat) : (setIter w b s q).heap.size = w.heap.size := by simp [setIter]
theorem setIter_below {B b : Nat} {w0 w : World} (h : Below B w0 w) (hB : B ≤ b) (s : ByteArray) (q : Nat) : Below B w0 (setIter w b s q) :=
  ⟨h.os, h.tape, h.output, by rw [setIter_size]; exact h.size, fun k hk => (setIter_other (by omega)).trans (h.block k hk)⟩

theorem run_next_at {P : Program} (w : World) (b : Nat) (s : ByteArray) (pos : Nat) (ty : TypeId) (hb : w.heap[b]? = some (.stringIter s pos)) (h : pos < s.size) (ha : (s[pos]'h).toNat < 128) :
    (Instr.next (.pointer (some ⟨b, 0, none⟩)) true ty).run P w = .ok (.tuple #[.bool true, .int .i64 pos, .int .i32 (s[pos]'h).toNat]) (setIter w b s (pos + 1)) := by
  simp only [Instr.next, getObj, setObj, Sem.run_bind, Sem.run, hb, Result.andThen, h, if_true, decode_ascii s pos h ha]
  simp [goInt, Sem.run, hb, setIter]
theorem run_next_over {P : Program} (w : World) (b : Nat) (s : ByteArray) (pos : Nat) (ty : TypeId) (hb : w.heap[b]? = some (.stringIter s pos)) (h : ¬ pos < s.size) :
    (Instr.next (.pointer (some ⟨b, 0, none⟩)) true ty).run P w = .ok (.tuple #[.bool false]) w := by
  simp [Instr.next, getObj, Sem.run, hb, h]

def magicB : ByteArray := ⟨#[67, 70, 49]⟩
def magicL : List Int := [67, 70, 49]

theorem magic_ascii (pos : Nat) (h : pos < magicB.size) : (magicB[pos]'h).toNat < 128 := by
  have h3 : pos < 3 := h
  obtain rfl | rfl | rfl : pos = 0 ∨ pos = 1 ∨ pos = 2 := by omega
  · show (67 : UInt8).toNat < 128; decide
  · show (70 : UInt8).toNat < 128; decide
  · show (49 : UInt8).toNat < 128; decide

/-- does the beginning's k bytes, as far as they are there, stand as the frame's magic does? -/
def magicTo (l : List Int) (k : Nat) : Bool := (List.range k).all fun i => decide (l.length ≤ i) || decide (l.getD i 0 = magicL.getD i 0)

/-- what frame.length tells -/
def lengthL (l : List Int) : Int × Int :=
  if magicTo l 3 = false then (0, 11)
  else if 3 < l.length ∧ l.getD 3 0 = 0 then (0, 11)
  else if l.length < 8 then (0, 10)
  else if 65536 < numOf ((l.drop 4).take 4) then (0, 3)
  else (12 + numOf ((l.drop 4).take 4), 0)

set_option maxHeartbeats 1000000 in
set_option maxRecDepth 100000 in
theorem is_calls (i : Int) (good : Bool) (b n c : Nat) (a : Option Addr) (w : World) (h : w.cell? ⟨b, 0, none⟩ = some (.slice a n c)) :
    Calls Try.prog 48 #[.int .i64 i, .bool good, .pointer (some ⟨b, 0, none⟩)] w fun e w' => e = .returned (.bool (decide ((n : Int) ≤ i) || good)) ∧ w = w' := by
  by_cases hi : (n : Int) ≤ i
  all_goals
    go_enter Try.func48, Try.ntmps48
    go_wp2_with fail
    go_ret
  · exact ⟨by rw [decide_eq_true hi]; rfl, rfl⟩
  · exact ⟨by rw [decide_eq_false (by omega)]; rfl, rfl⟩

theorem isRow.sub {w : World} {k : IntKind} {a : Addr} {n c : Nat} {l : List Int} (h : isRow w k (.slice (some a) n c) l) (i j : Nat) (hij : i ≤ j) (hj : j ≤ l.length) (c' : Nat) (hc : j - i ≤ c') :
    isRow w k (.slice (some (a.add i)) (j - i) c') ((l.drop i).take (j - i)) := by
  obtain ⟨a', c0, he, -, hr⟩ := h
  cases he
  have hlen : ((l.drop i).take (j - i)).length = j - i := by rw [List.length_take, List.length_drop]; omega
  refine ⟨_, c', by rw [hlen], by rw [hlen]; exact hc, fun hne => ?_⟩
  have hne' : l ≠ [] := by intro h0; rw [h0] at hne; simp at hne
  obtain ⟨b, hb, hlt, hcell⟩ := hr hne'
  cases hb
  refine ⟨_, rfl, by rw [add_block]; exact hlt, fun q hq => ?_⟩
  rw [hlen] at hq
  rw [Addr.add_add, hcell _ (by omega)]
  simp [List.getD, List.getElem?_take_of_lt hq]

theorem below_of_grown_at {w w' : World} {g B : Nat} (h : w.grownBy w' (some g)) (hB : B ≤ g) (hs : B ≤ w.heap.size) : Below B w w' :=
  ⟨h.os, h.tape, h.output, h.size, fun k hk => h.block k (by omega) (by simp; omega)⟩

theorem magicTo_mono {l : List Int} {j k : Nat} (h : j ≤ k) (hk : magicTo l k = true) : magicTo l j = true := by
  unfold magicTo at hk ⊢
  rw [List.all_eq_true] at hk ⊢
  intro i hi
  exact hk i (by rw [List.mem_range] at hi ⊢; omega)
theorem magicTo_false {l : List Int} {k : Nat} (h : k < 3) (hk : magicTo l (k + 1) = false) : magicTo l 3 = false := by
  cases h3 : magicTo l 3 with
  | false => rfl
  | true => rw [magicTo_mono (by omega) h3] at hk; cases hk

theorem measure_iter {wo w2 : World} {b : Nat} {s : ByteArray} {p q n : Nat} (h1 : wo.heap[b]? = some (.stringIter s p)) (h2 : w2.heap[b]? = some (.stringIter s q)) (h : p < q ∧ q ≤ n) : n - w2.iterPos b < n - wo.iterPos b := by
  have e1 : wo.iterPos b = p := by unfold World.iterPos; rw [h1]
  have e2 : w2.iterPos b = q := by unfold World.iterPos; rw [h2]
  omega

theorem is_quiet (i : Int) (good : Bool) (b n c : Nat) (a : Option Addr) (w : World) (k : Nat) (h : w.cell? ⟨b, 0, none⟩ = some (.slice a n c)) :
    Calls Try.prog 48 #[.int .i64 i, .bool good, .pointer (some ⟨b, 0, none⟩)] (w.drewN k) fun e w' => e = .returned (.bool (decide ((n : Int) ≤ i) || good)) ∧ ∃ m, w' = w.drewN m :=
  Calls.quiet_of_same ((is_calls i good b n c a (w.drewN k) h).mono fun _ _ h => ⟨h.1, h.2.symm⟩)

theorem isRow.at {w : World} {k : IntKind} {a : Option Addr} {n c : Nat} {l : List Int} (h : isRow w k (.slice a n c) l) (i : Nat) (hi : i < l.length) : ∃ b, a = some b ∧ w.cell? (b.add i) = some (.int k (l.getD i 0)) := by
  obtain ⟨a', c', he, -, hr⟩ := h
  cases he
  obtain ⟨b, rfl, _, hc⟩ := hr (by intro h0; rw [h0] at hi; simp at hi)
  exact ⟨b, rfl, hc i hi⟩

theorem magicTo_succ (l : List Int) (k : Nat) : magicTo l (k + 1) = (magicTo l k && (decide (l.length ≤ k) || decide (l.getD k 0 = magicL.getD k 0))) := by
  simp [magicTo, List.range_succ]

set_option maxHeartbeats 1000000 in
set_option maxRecDepth 100000 in
theorem length_calls (v : Value) (l : List Int) (w : World) (hv : isRow w .u8 v l) (hnil : NilOk v) (hb : isByte l) (hl : l.length ≤ 2 ^ 46) :
    Calls Try.prog 38 #[v] w fun e w' => e = .returned (.tuple #[.int .i64 (lengthL l).1, .int .i64 (lengthL l).2]) ∧ Below w.heap.size w w' := by
  have HV := Lib.hid hv
  have HI := Lib.hid hnil
  have HB := Lib.hid hb
  have HL := Lib.hid hl
  obtain ⟨a, c, rfl, hc, -⟩ := hv
  have i1 : (0 : Int) ≤ l.length := by omega
  have i2 : (l.length : Int) ≤ 70368744177664 := by omega
  clear hnil hb hl
  have hbx := heap_alloc_new w (.cells #[.slice a l.length c] 26)
  have HBX := Lib.hid hbx
  clear hbx
  go_enter Try.func38, Try.ntmps38
  go_wp2_with fail
  go_loopw [5] (fun i wr => ∃ pos : Nat, pos ≤ 3 ∧ wr.heap[w.heap.size + 1]? = some (.stringIter magicB pos) ∧ wr.heap[w.heap.size]? = some (.cells #[.slice a l.length c] 26 (0, 0)) ∧ Below w.heap.size w wr ∧ magicTo l pos = true) (fun _ wr => 3 - wr.iterPos (w.heap.size + 1))
  case atStart =>
    refine ⟨0, by omega, ?_, ?_, ((Below.refl w.heap.size w).alloc (Nat.le_refl _) _).alloc (by simp) _, rfl⟩
    · have := heap_alloc_new (w.alloc (.cells #[.slice a l.length c] 26)) (.stringIter magicB 0)
      rwa [World.size_alloc] at this
    · exact (Below.heap_alloc _ _ _ (by simp)).trans HBX.out
  case round =>
    obtain ⟨pos, hpos, hit, hbx, hbw, hm⟩ := hrel
    obtain ⟨wo, rfl⟩ : ∃ wo : World, wo = wr := ⟨_, rfl⟩
    have HIT := Lib.hid hit
    have HX := Lib.hid hbx
    have HW := Lib.hid hbw
    have HM := Lib.hid hm
    clear hit hbx hbw hm
    by_cases hp : pos < 3
    · have hne : w.heap.size ≠ w.heap.size + 1 := by omega
      have hit2 := setIter_heap (q := pos + 1) HIT.out
      have hx2 := (setIter_other (w := wo) (b := w.heap.size + 1) (s := magicB) (q := pos + 1) hne).trans HX.out
      have hbw2 := setIter_below HW.out (Nat.le_succ _) magicB (pos + 1)
      have hro2 := HV.out.below hbw2 (Nat.le_refl _)
      have hnx := fun ty => run_next_at (P := Try.prog) wo (w.heap.size + 1) magicB pos ty HIT.out hp (magic_ascii pos hp)
      obtain ⟨w2, hw2⟩ : ∃ w2, w2 = setIter wo (w.heap.size + 1) magicB (pos + 1) := ⟨_, rfl⟩
      rw [← hw2] at hit2 hx2 hbw2 hro2 hnx
      have hbc := cell_of_row _ _ 0 _ _ _ hx2
      have HIT2 := Lib.hid hit2
      have HX2 := Lib.hid hx2
      have HW2 := Lib.hid hbw2
      have HRO := Lib.hid hro2
      clear hw2 hit2 hx2 hbw2 hro2 hne
      obtain rfl | rfl | rfl : pos = 0 ∨ pos = 1 ∨ pos = 2 := by omega
      · have hg0 : ((⟨#[67, 70, 49]⟩ : ByteArray)[0]'(by decide)).toNat = 67 := rfl
        have hms := magicTo_succ l 0
        rw [HM.out, Bool.true_and] at hms
        have HMS := Lib.hid hms
        clear hms
        by_cases hlt : 0 < l.length
        · obtain ⟨a0, rfl, hc0⟩ := HRO.out.at 0 hlt
          have hltI : (0 : Int) < (l.length : Int) := by omega
          have hl0 : decide (l = []) = false := decide_eq_false (by intro h0; rw [h0] at hlt; simp at hlt)
          rw [Addr.add_zero'] at hc0
          obtain ⟨x0, hx0⟩ : ∃ x0, x0 = l.getD 0 0 := ⟨_, rfl⟩
          rw [← hx0] at hc0
          have HX0 := Lib.hid hx0
          clear hx0
          by_cases heq : (x0 == 67) = true
          · have hm2 : magicTo l (0 + 1) = true := by
              have h1 := HMS.out
              have h2 := HX0.out
              have h3 : x0 = 67 := by simpa using heq
              rw [h1, ← h2, h3]
              simp [magicL]
            have HM2 := Lib.hid hm2
            clear hm2
            go_wp2_with fail
            go_quiet ((go_at_call 48; exact is_quiet _ _ _ _ _ _ _ _ hbc))
            go_wp2_with fail
            exact ⟨⟨0 + 1, by omega, HIT2.out, HX2.out, below_drewN HW2.out _, HM2.out⟩, measure_iter HIT.out HIT2.out (by omega)⟩
          · have heq2 : (x0 == 67) = false := by simpa using heq
            have hm2 : magicTo l 3 = false := by
              have h1 := HMS.out
              have h2 := HX0.out
              refine magicTo_false (k := 0) (by omega) ?_
              have h3 : ¬ x0 = 67 := by simpa using heq
              rw [h1, ← h2, decide_eq_false (show ¬ l.length ≤ 0 by omega), decide_eq_false (show ¬ x0 = magicL.getD 0 0 from h3)]
              rfl
            have HM2 := Lib.hid hm2
            clear hm2 heq
            go_wp2_with fail
            go_quiet ((go_at_call 48; exact is_quiet _ _ _ _ _ _ _ _ hbc))
            go_wp2_with fail
            go_ret2
            refine ⟨?_, below_drewN HW2.out _⟩
            unfold lengthL
            rw [if_pos HM2.out]
            rfl
        · have hd : decide ((0 : Int) < l.length) = false := decide_eq_false (by omega)
          have hl0 : decide (l = []) = true := decide_eq_true (List.eq_nil_of_length_eq_zero (by omega))
          have hm2 : magicTo l (0 + 1) = true := by
            have h1 := HMS.out
            rw [h1, decide_eq_true (by omega)]
            rfl
          have HM2 := Lib.hid hm2
          clear hm2
          go_wp2_with fail
          go_quiet ((go_at_call 48; exact is_quiet _ _ _ _ _ _ _ _ hbc))
          go_wp2_with fail
          exact ⟨⟨0 + 1, by omega, HIT2.out, HX2.out, below_drewN HW2.out _, HM2.out⟩, measure_iter HIT.out HIT2.out (by omega)⟩
      · have hg0 : ((⟨#[67, 70, 49]⟩ : ByteArray)[1]'(by decide)).toNat = 70 := rfl
        have hms := magicTo_succ l 1
        rw [HM.out, Bool.true_and] at hms
        have HMS := Lib.hid hms
        clear hms
        by_cases hlt : 1 < l.length
        · obtain ⟨a0, rfl, hc0⟩ := HRO.out.at 1 hlt
          have hltI : (1 : Int) < (l.length : Int) := by omega
          have hl0 : decide ((l.length : Int) ≤ 1) = false := decide_eq_false (by omega)
          rw [show a0.add 1 = ⟨a0.block, a0.off + 1, none⟩ from rfl] at hc0
          obtain ⟨x0, hx0⟩ : ∃ x0, x0 = l.getD 1 0 := ⟨_, rfl⟩
          rw [← hx0] at hc0
          have HX0 := Lib.hid hx0
          clear hx0
          by_cases heq : (x0 == 70) = true
          · have hm2 : magicTo l (1 + 1) = true := by
              have h1 := HMS.out
              have h2 := HX0.out
              have h3 : x0 = 70 := by simpa using heq
              rw [h1, ← h2, h3]
              simp [magicL]
            have HM2 := Lib.hid hm2
            clear hm2
            go_wp2_with fail
            go_quiet ((go_at_call 48; exact is_quiet _ _ _ _ _ _ _ _ hbc))
            go_wp2_with fail
            exact ⟨⟨1 + 1, by omega, HIT2.out, HX2.out, below_drewN HW2.out _, HM2.out⟩, measure_iter HIT.out HIT2.out (by omega)⟩
          · have heq2 : (x0 == 70) = false := by simpa using heq
            have hm2 : magicTo l 3 = false := by
              have h1 := HMS.out
              have h2 := HX0.out
              refine magicTo_false (k := 1) (by omega) ?_
              have h3 : ¬ x0 = 70 := by simpa using heq
              rw [h1, ← h2, decide_eq_false (show ¬ l.length ≤ 1 by omega), decide_eq_false (show ¬ x0 = magicL.getD 1 0 from h3)]
              rfl
            have HM2 := Lib.hid hm2
            clear hm2 heq
            go_wp2_with fail
            go_quiet ((go_at_call 48; exact is_quiet _ _ _ _ _ _ _ _ hbc))
            go_wp2_with fail
            go_ret2
            refine ⟨?_, below_drewN HW2.out _⟩
            unfold lengthL
            rw [if_pos HM2.out]
            rfl
        · have hd : decide ((1 : Int) < l.length) = false := decide_eq_false (by omega)
          have hl0 : decide ((l.length : Int) ≤ 1) = true := decide_eq_true (by omega)
          have hm2 : magicTo l (1 + 1) = true := by
            have h1 := HMS.out
            rw [h1, decide_eq_true (by omega)]
            rfl
          have HM2 := Lib.hid hm2
          clear hm2
          go_wp2_with fail
          go_quiet ((go_at_call 48; exact is_quiet _ _ _ _ _ _ _ _ hbc))
          go_wp2_with fail
          exact ⟨⟨1 + 1, by omega, HIT2.out, HX2.out, below_drewN HW2.out _, HM2.out⟩, measure_iter HIT.out HIT2.out (by omega)⟩
      · have hg0 : ((⟨#[67, 70, 49]⟩ : ByteArray)[2]'(by decide)).toNat = 49 := rfl
        have hms := magicTo_succ l 2
        rw [HM.out, Bool.true_and] at hms
        have HMS := Lib.hid hms
        clear hms
        by_cases hlt : 2 < l.length
        · obtain ⟨a0, rfl, hc0⟩ := HRO.out.at 2 hlt
          have hltI : (2 : Int) < (l.length : Int) := by omega
          have hl0 : decide ((l.length : Int) ≤ 2) = false := decide_eq_false (by omega)
          rw [show a0.add 2 = ⟨a0.block, a0.off + 2, none⟩ from rfl] at hc0
          obtain ⟨x0, hx0⟩ : ∃ x0, x0 = l.getD 2 0 := ⟨_, rfl⟩
          rw [← hx0] at hc0
          have HX0 := Lib.hid hx0
          clear hx0
          by_cases heq : (x0 == 49) = true
          · have hm2 : magicTo l (2 + 1) = true := by
              have h1 := HMS.out
              have h2 := HX0.out
              have h3 : x0 = 49 := by simpa using heq
              rw [h1, ← h2, h3]
              simp [magicL]
            have HM2 := Lib.hid hm2
            clear hm2
            go_wp2_with fail
            go_quiet ((go_at_call 48; exact is_quiet _ _ _ _ _ _ _ _ hbc))
            go_wp2_with fail
            exact ⟨⟨2 + 1, by omega, HIT2.out, HX2.out, below_drewN HW2.out _, HM2.out⟩, measure_iter HIT.out HIT2.out (by omega)⟩
          · have heq2 : (x0 == 49) = false := by simpa using heq
            have hm2 : magicTo l 3 = false := by
              have h1 := HMS.out
              have h2 := HX0.out
              refine magicTo_false (k := 2) (by omega) ?_
              have h3 : ¬ x0 = 49 := by simpa using heq
              rw [h1, ← h2, decide_eq_false (show ¬ l.length ≤ 2 by omega), decide_eq_false (show ¬ x0 = magicL.getD 2 0 from h3)]
              rfl
            have HM2 := Lib.hid hm2
            clear hm2 heq
            go_wp2_with fail
            go_quiet ((go_at_call 48; exact is_quiet _ _ _ _ _ _ _ _ hbc))
            go_wp2_with fail
            go_ret2
            refine ⟨?_, below_drewN HW2.out _⟩
            unfold lengthL
            rw [if_pos HM2.out]
            rfl
        · have hd : decide ((2 : Int) < l.length) = false := decide_eq_false (by omega)
          have hl0 : decide ((l.length : Int) ≤ 2) = true := decide_eq_true (by omega)
          have hm2 : magicTo l (2 + 1) = true := by
            have h1 := HMS.out
            rw [h1, decide_eq_true (by omega)]
            rfl
          have HM2 := Lib.hid hm2
          clear hm2
          go_wp2_with fail
          go_quiet ((go_at_call 48; exact is_quiet _ _ _ _ _ _ _ _ hbc))
          go_wp2_with fail
          exact ⟨⟨2 + 1, by omega, HIT2.out, HX2.out, below_drewN HW2.out _, HM2.out⟩, measure_iter HIT.out HIT2.out (by omega)⟩
    · obtain rfl : pos = 3 := by omega
      have hnx := fun ty => run_next_over (P := Try.prog) wo (w.heap.size + 1) magicB 3 ty HIT.out hp
      have hbc := cell_of_row _ _ 0 _ _ _ HX.out
      have HRO := Lib.hid (HV.out.below HW.out (Nat.le_refl _))
      clear hp
      by_cases hlt : 3 < l.length
      · obtain ⟨a0, rfl, hc0⟩ := HRO.out.at 3 hlt
        have hltI : (3 : Int) < (l.length : Int) := by omega
        have hl0 : decide ((l.length : Int) ≤ 3) = false := decide_eq_false (by omega)
        rw [show a0.add 3 = ⟨a0.block, a0.off + 3, none⟩ from rfl] at hc0
        obtain ⟨x0, hx0⟩ : ∃ x0, x0 = l.getD 3 0 := ⟨_, rfl⟩
        rw [← hx0] at hc0
        have HX0 := Lib.hid hx0
        clear hx0
        by_cases heq : x0 = 0
        · have hq : (x0 != 0) = false := by rw [heq]; rfl
          have HQ := Lib.hid heq
          clear heq
          go_wp2_with fail
          refine (is_calls 3 _ w.heap.size l.length c (some a0) wo hbc).mono ?_
          rintro e w1 ⟨rfl, rfl⟩
          go_wp2_with fail
          go_ret2
          refine ⟨?_, HW.out⟩
          unfold lengthL
          rw [if_neg (by rw [HM.out]; decide), if_pos ⟨hlt, by rw [← HX0.out]; exact HQ.out⟩]
          rfl
        · have hq : (x0 != 0) = true := by rw [bne_iff_ne]; exact heq
          have HQ := Lib.hid heq
          clear heq
          go_wp2_with fail
          refine (is_calls 3 _ w.heap.size l.length c (some a0) wo hbc).mono ?_
          rintro e w1 ⟨rfl, rfl⟩
          by_cases h8 : l.length < 8
          · go_wp2_with fail
            go_ret2
            refine ⟨?_, HW.out⟩
            unfold lengthL
            rw [if_neg (by rw [HM.out]; decide), if_neg (by rw [← HX0.out]; exact fun h => HQ.out h.2), if_pos h8]
            rfl
          · have hsub := HRO.out.sub 4 8 (by omega) (by omega) (c - 4) (by omega)
            rw [show a0.add 4 = ⟨a0.block, a0.off + 4, none⟩ from rfl] at hsub
            have HSUB := Lib.hid hsub
            have hbyt : isByte ((l.drop 4).take (8 - 4)) := (HB.out.drop 4).take _
            have HBYT := Lib.hid hbyt
            have hlen : ((l.drop 4).take (8 - 4)).length = 4 := by rw [List.length_take, List.length_drop]; omega
            have HLEN := Lib.hid hlen
            clear hsub hbyt hlen
            go_wp2_with fail
            refine (reader_new_calls _ _ wo HSUB.out (nilOk_some _ _ _) (by rw [HLEN.out]; decide)).mono ?_
            rintro e w1 ⟨g, rfl, hg, hr, hb1⟩
            have HR := Lib.hid hr
            have HB1 := Lib.hid hb1
            clear hr hb1
            go_wp2_with fail
            refine (num_calls g _ 0 4 w1 HR.out (by rw [HLEN.out]; decide) HBYT.out (by decide) (by decide)).mono ?_
            rintro e w2 ⟨rfl, hr2, hg2, hs2⟩
            have hgot : gotL ((4 : Nat) : Int) ((l.drop 4).take (8 - 4)) 0 = (l.drop 4).take 4 := by
              unfold gotL
              rw [if_pos ⟨by decide, rfl, by rw [HLEN.out]; decide⟩, show (((4 : Nat) : Int)).toNat = 4 from rfl, List.take_take]
              rfl
            rw [hgot]
            obtain ⟨n, hn⟩ : ∃ n, n = numOf ((l.drop 4).take 4) := ⟨_, rfl⟩
            have hn0 : 0 ≤ n := by rw [hn]; exact (numOf_bd _ _ rfl ((HB.out.drop 4).take 4)).1
            rw [← hn]
            have HN := Lib.hid hn
            have hwb : Below w.heap.size w w2 := HW.out.trans ((HB1.out.mono HW.out.size).trans (below_of_grown_at hg2 (Nat.le_trans HW.out.size hg) (Nat.le_trans HW.out.size HB1.out.size)))
            have HWB := Lib.hid hwb
            clear hn hgot hr2 hg2 hs2 hwb
            by_cases hbig : 65536 < n
            · go_wp2_with fail
              go_ret2
              refine ⟨?_, HWB.out⟩
              unfold lengthL
              rw [if_neg (by rw [HM.out]; decide), if_neg (by rw [← HX0.out]; exact fun h => HQ.out h.2), if_neg h8, if_pos (by rw [← HN.out]; exact hbig)]
              rfl
            · go_wp2_with fail
              go_ret2
              refine ⟨?_, HWB.out⟩
              unfold lengthL
              rw [if_neg (by rw [HM.out]; decide), if_neg (by rw [← HX0.out]; exact fun h => HQ.out h.2), if_neg h8, if_neg (by rw [← HN.out]; omega), ← HN.out]
              rfl
      · have hl0 : decide ((l.length : Int) ≤ 3) = true := decide_eq_true (by omega)
        have hl1 : decide ((3 : Int) < l.length) = false := decide_eq_false (by omega)
        go_wp2_with fail
        refine (is_calls 3 _ w.heap.size l.length c a wo hbc).mono ?_
        rintro e w1 ⟨rfl, rfl⟩
        go_wp2_with fail
        go_ret2
        refine ⟨?_, HW.out⟩
        unfold lengthL
        rw [if_neg (by rw [HM.out]; decide), if_neg (fun h => hlt h.1), if_pos (by omega)]
        rfl
end Go.Proofs.Ytpacfijkhhjfeaa
