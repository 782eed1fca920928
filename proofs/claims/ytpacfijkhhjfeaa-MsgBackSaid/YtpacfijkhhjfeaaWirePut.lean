/- wire.Put and wire.Sized. -/
import Derived.Test.YtpacfijkhhjfeaaClone
import Derived.Deep.Upon
namespace Go.Proofs.Ytpacfijkhhjfeaa
set_option linter.unusedVariables false
set_option linter.unusedSimpArgs false
open Go.RowKit

/-- the lowest k bytes of a number, the highest first -/
def numBytes (c : Int) : Nat → List Int
  | 0 => []
  | k + 1 => (c / 2 ^ (8 * k)) % 256 :: numBytes c k

theorem numBytes_length (c : Int) : ∀ k, (numBytes c k).length = k
  | 0 => rfl
  | k + 1 => by rw [numBytes, List.length_cons, numBytes_length c k]

theorem below_of_grown {w w' : World} (h : w.grownBy w' none) : Below w.heap.size w w' := ⟨h.os, h.tape, h.output, h.size, fun k hk => h.block k hk (by simp)⟩

theorem owns.ge {w : World} {B : Nat} {v : Value} {l : List Int} (h : owns w B v l) : ∀ k, v.ownBlock = some k → B ≤ k := fun k hk => (World.ownsRow.lt h k hk).1

set_option maxHeartbeats 2000000 in
set_option maxRecDepth 100000 in
theorem put_calls (v : Value) (l : List Int) (x : Int) (n : Nat) (w : World) (hv : isRow w .u8 v l) (hnil : NilOk v) (hl : l.length + 8 ≤ 2 ^ 46) (hx : Hid (0 ≤ x ∧ x ≤ 18446744073709551615)) (hn : n ≤ 8) :
    Calls Try.prog 36 #[v, .int .u64 x, .int .i64 n] w fun e w' => ∃ v', e = .returned v' ∧ owns w' w.heap.size v' (l ++ numBytes x n) ∧ Below w.heap.size w w' := by
  obtain ⟨i0, hi, hz0, hz1, hz2⟩ := info_parts info_u8
  have HL : Hid (l.length + 8 ≤ 2 ^ 46) := hl
  have HV := Lib.hid hv
  have HI := Lib.hid hnil
  have i1 : (0 : Int) ≤ n := by omega
  have i2 : (n : Int) ≤ 8 := by omega
  clear hl hv hnil
  go_enter Try.func36, Try.ntmps36
  go_wp2_with fail
  refine (clone_calls v l w HV.out HI.out (by have := HL.out; omega)).mono ?_
  rintro e w1 ⟨v1, rfl, ho1, hg1, -⟩
  have HO := Lib.hid ho1
  have HB := Lib.hid (below_of_grown hg1)
  clear ho1 hg1
  go_wp2_with fail
  go_loopw [7, 8] (fun v2 y wr => ∃ (k : Nat) (m : List Int), k ≤ n ∧ y = .int .i64 ((k : Int) - 1) ∧ owns wr w.heap.size v2 (l ++ m) ∧ m ++ numBytes x k = numBytes x n ∧ Below w.heap.size w wr) (fun _ y _ => (intOf y + 1).toNat)
  case atStart => exact ⟨n, [], Nat.le_refl _, rfl, by rw [List.append_nil]; exact HO.out, rfl, HB.out⟩
  case round =>
    clear HO HB HV HI
    obtain ⟨k, m, hk, rfl, ho, hm, hb⟩ := hrel
    obtain ⟨wo, rfl⟩ : ∃ wo : World, wo = wr := ⟨_, rfl⟩
    have hbs := hb.size
    have HO := Lib.hid ho
    have HM := Lib.hid hm
    have HB := Lib.hid hb
    clear ho hm hb
    rcases Nat.eq_zero_or_pos k with hk0 | hk0
    · subst hk0
      go_wp2_with fail
      go_ret
      refine ⟨_, rfl, ?_, HB.out⟩
      have h1 := HM.out
      rw [numBytes, List.append_nil] at h1
      rw [← h1]
      exact HO.out
    · obtain ⟨j, rfl⟩ : ∃ j, k = j + 1 := ⟨k - 1, by omega⟩
      have hj : ((j + 1 : Nat) : Int) - 1 = (j : Int) := by omega
      have j1 : (0 : Int) ≤ j := by omega
      have j2 : (j : Int) ≤ 7 := by omega
      have hlen : m.length ≤ 8 := by
        have h1 := congrArg List.length HM.out
        rw [List.length_append, numBytes_length, numBytes_length] at h1
        omega
      have HLN : Hid (m.length ≤ 8) := hlen
      have HX := hx
      have x1 := hx.out.1
      have x2 := hx.out.2
      clear hlen hk0
      rw [hj]
      go_wp2_with (at_builtin; refine wpList_append_own_at _ rfl (.tmp 18) (.tmp 24) 26 rfl w.heap.size 5 i0 (.int .u8 0) 1 1 Try.underlying26 hi hz0 hz1 hz2 rfl (by decide) _ _ _ rfl (World.ownsRow.alloc HO.out _) ⟨wo.heap.size, 0, none⟩ 1 1 _ rfl ?c1 (cell_one_new _ _ _) ?c3 ?c4 ?c5 ?c6 ?_)
      case c1 => rfl
      case c3 => intro u hu; simp at hu; subst hu; rfl
      case c4 => have h1 := HL.out; have h2 := HLN.out; rw [List.length_append]; unfold maxLen; omega
      case c5 => have h1 := HL.out; have h2 := HLN.out; rw [List.length_append]; omega
      case c6 => simp; omega
      intro v' w' hown hgrow _ _
      have hb2 : Below w.heap.size w w' := (HB.out.alloc hbs _).grown hgrow (by simp; omega) (fun k hk => HO.out.ge k hk)
      have ho2 : owns w' w.heap.size v' (l ++ (m ++ [x / 2 ^ (8 * j) % 256])) := by
        unfold owns
        rw [show (l ++ (m ++ [x / 2 ^ (8 * j) % 256])).length = l.length + m.length + 1 by simp; omega]
        simpa using hown
      have HO2 := Lib.hid ho2
      clear hown hgrow ho2
      go_wp2_with fail
      exact ⟨⟨j, m ++ [x / 2 ^ (8 * j) % 256], by omega, rfl, HO2.out, by rw [← HM.out, numBytes, List.append_assoc]; rfl, hb2⟩, by simp [intOf]⟩

/-- 'append(v, x...)' of bytes, v the call's own, x read from wherever -/
theorem wpList_append_bytes {w : World} {ops : Array Oper} {rest : List Oper} {o : Oper} {a : Act} {Q : Exit → Act → World → Prop} (hgd : o.guard = none) (s x : Operand)
    (ho : o.op = .call { callee := .builtin .append, args := #[s, x], argTypes := #[26, 26] })
    {B : Nat} {v xv : Value} {l m : List Int} (hs : a.eval s = v) (hx : a.eval x = xv) (hown : owns w B v l) (hrow : isRow w .u8 xv m) (hnil : NilOk xv) (hl : l.length + m.length ≤ 2 ^ 46) (hB : B ≤ w.heap.size)
    (h : ∀ v' w', owns w' B v' (l ++ m) → Below B w w' → wpList Try.prog ops Q rest (a.put o.dst v') w') : wpList Try.prog ops Q (o :: rest) a w := by
  obtain ⟨i0, hi, hz0, hz1, hz2⟩ := info_parts info_u8
  obtain ⟨ad, c, rfl, hc, hr⟩ := hrow
  rcases ad with _ | ad
  · obtain ⟨h1, h2⟩ := hnil _ _ rfl
    have hm := List.eq_nil_of_length_eq_zero h1
    subst hm h2
    refine wpList_plain hgd fun K hK => ?_
    have hle : ∃ base n cap, v = .slice base n cap ∧ n ≤ cap := by
      rcases hown.form with ⟨rfl, _⟩ | ⟨g, c', rfl, _, _, hc'⟩
      · exact ⟨none, 0, 0, rfl, Nat.le_refl _⟩
      · exact ⟨_, _, _, rfl, hc'⟩
    obtain ⟨base, n, cap, rfl, hle⟩ := hle
    have hrun := run_append_nothing (P := Try.prog) w 26 26 o.type 5 i0 Try.underlying26 hi base n cap hle (.slice none 0 0) (Src.ofNil w Try.underlying26 0)
    unfold Oper.wp execOp
    simp only [List.length_nil] at hx
    simp only [ho, resolve, invoke, builtin, Sem.run_bind, Sem.run_pure, Result.andThen_ok, List.map_toArray, List.map_cons, List.map_nil, hs, hx, hrun]
    exact hK _ _ (h _ w (by rw [List.append_nil]; exact hown) (Below.refl _ _))
  · refine wpList_append_own_at w hgd s x 26 ho B 5 i0 (.int .u8 0) 1 1 Try.underlying26 hi hz0 hz1 hz2 rfl (by decide) v l.length (l.map (Value.int .u8)) hs hown ad m.length c (m.map (Value.int .u8)) hx (by simp) ?_ ?_ (by unfold maxLen; omega) (by omega) hB ?_
    · intro j u hj
      rcases Nat.lt_or_ge j m.length with h | h
      · obtain ⟨b, hb, _, hcell⟩ := hr (by intro hh; rw [hh] at h; simp at h)
        cases hb
        rw [hcell j h, ← hj]
        simp [List.getD, h]
      · rw [List.getElem?_eq_none (by simpa using h)] at hj; cases hj
    · intro u hu
      obtain ⟨y, _, rfl⟩ := List.mem_map.1 hu
      rfl
    · intro v' w' hown' hgrow _ _
      refine h v' w' ?_ ((Below.refl B w).grown hgrow hB fun k hk => hown.ge k hk)
      unfold owns
      rw [List.length_append, List.map_append]
      exact hown'

set_option maxHeartbeats 2000000 in
set_option maxRecDepth 100000 in
theorem sized_calls (v u : Value) (l m : List Int) (w : World) (hv : isRow w .u8 v l) (hnil : NilOk v) (hu : isRow w .u8 u m) (hunil : NilOk u) (hl : Hid (l.length + m.length + 8 ≤ 2 ^ 46)) :
    Calls Try.prog 34 #[v, u] w fun e w' => ∃ v', e = .returned v' ∧ owns w' w.heap.size v' (l ++ numBytes m.length 4 ++ m) ∧ Below w.heap.size w w' := by
  obtain ⟨i0, hi, hz0, hz1, hz2⟩ := info_parts info_u8
  have HV := Lib.hid hv
  have HI := Lib.hid hnil
  have HU := Lib.hid hu
  have HJ := Lib.hid hunil
  obtain ⟨a, c, rfl, hc, -⟩ := hu
  have b1 : (0 : Int) ≤ m.length := by omega
  have b2 : (m.length : Int) ≤ 18446744073709551615 := by have := hl.out; omega
  clear hv hnil hunil
  go_enter Try.func34, Try.ntmps34
  go_wp2_with fail
  refine (put_calls v l m.length 4 w HV.out HI.out (by have := hl.out; omega) (Lib.hid ⟨b1, b2⟩) (by omega)).mono ?_
  rintro e w1 ⟨v1, rfl, ho1, hb1⟩
  have HO := Lib.hid ho1
  have HB := Lib.hid hb1
  have HU1 := Lib.hid (HU.out.below hb1 (Nat.le_refl _))
  have hbs := hb1.size
  clear ho1 hb1
  go_wp2_with (at_builtin; refine wpList_append_bytes rfl (.tmp 9) (.tmp 10) rfl rfl rfl HO.out HU1.out HJ.out ?c1 hbs ?_)
  case c1 => have := hl.out; rw [List.length_append, numBytes_length]; omega
  intro v2 w2 ho2 hb2
  have HO2 := Lib.hid ho2
  have HB2 := Lib.hid (HB.out.trans hb2)
  clear ho2 hb2
  go_wp2_with fail
  go_ret
  exact ⟨_, rfl, by rw [List.append_assoc]; exact HO2.out, HB2.out⟩
end Go.Proofs.Ytpacfijkhhjfeaa
