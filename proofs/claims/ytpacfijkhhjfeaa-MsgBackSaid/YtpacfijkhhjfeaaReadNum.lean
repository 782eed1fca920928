/- (*Reader).Num, Raw. -/
import Derived.Test.YtpacfijkhhjfeaaReadTake
import Derived.Laws.BitsAllLaws
namespace Go.Proofs.Ytpacfijkhhjfeaa
set_option linter.unusedVariables false
set_option linter.unusedSimpArgs false
open Go.RowKit
variable {lo : Nat}

/-- the number that bytes are, the highest first -/
def numOf (l : List Int) : Int := l.foldl (fun v c => v * 256 + c) 0

theorem numOf_snoc (l : List Int) (c : Int) : numOf (l ++ [c]) = numOf l * 256 + c := by simp [numOf, List.foldl_append]

theorem take_succ_int {l : List Int} {i : Nat} (hi : i < l.length) : l.take (i + 1) = l.take i ++ [l.getD i 0] := by
  rw [List.take_succ_eq_append_getElem hi]
  simp [List.getD, hi]

theorem numOf_bd : ∀ (n : Nat) (l : List Int), l.length = n → isByte l → 0 ≤ numOf l ∧ numOf l < 256 ^ n
  | 0, l, h, _ => by
    obtain rfl := List.eq_nil_of_length_eq_zero h
    simp [numOf]
  | n + 1, l, h, hb => by
    obtain ⟨m, c, rfl⟩ : ∃ m c, l = m ++ [c] := ⟨l.dropLast, l.getLast (by intro h0; rw [h0] at h; simp at h), (List.dropLast_concat_getLast _).symm⟩
    have hm : m.length = n := by simpa using h
    have ih := numOf_bd n m hm (fun x hx => hb x (List.mem_append_left _ hx))
    have hc := hb c (by simp)
    rw [numOf_snoc, Int.pow_succ]
    omega

theorem numOf_u64 (l : List Int) (h : isByte l) (hl : l.length ≤ 8) : 0 ≤ numOf l ∧ numOf l ≤ 18446744073709551615 := by
  have h1 := numOf_bd l.length l rfl h
  refine ⟨h1.1, ?_⟩
  have h2 : ∀ n : Nat, n ≤ 8 → (256 : Int) ^ n ≤ 18446744073709551616 := by
    intro n hn
    have h : n = 0 ∨ n = 1 ∨ n = 2 ∨ n = 3 ∨ n = 4 ∨ n = 5 ∨ n = 6 ∨ n = 7 ∨ n = 8 := by omega
    rcases h with rfl | rfl | rfl | rfl | rfl | rfl | rfl | rfl | rfl <;> decide
  have := h2 _ hl
  omega

theorem or_u64 (v c : Int) (hv : 0 ≤ v) (h : v * 256 + c ≤ 18446744073709551615) (c0 : 0 ≤ c) (c1 : c ≤ 255) : bits .or .u64 (IntKind.u64.wrap (v * 256)) c = v * 256 + c := by
  rw [IntKind.wrap_u64, Int.emod_eq_of_lt (by omega) (by omega), u64_or _ _ (by omega) (by omega) (by omega) (by omega)]
  have h1 : (v * 256).toNat = v.toNat <<< 8 := by rw [Nat.shiftLeft_eq]; omega
  rw [h1, ← Nat.shiftLeft_add_eq_or_of_lt (by omega), ← h1]
  omega

set_option maxHeartbeats 1000000 in
set_option maxRecDepth 100000 in
theorem num_calls (g : Nat) (l : List Int) (e : Int) (n : Nat) (w : World) (h : RdAt lo w g l e) (hl : l.length ≤ 2 ^ 46) (hb : isByte l) (hn1 : 1 ≤ n) (hn : n ≤ 8) :
    Calls Try.prog 41 #[.pointer (some ⟨g, 0, none⟩), .int .i64 n] w fun x w' => x = .returned (.int .u64 (numOf (gotL n l e))) ∧ RdAt lo w' g (restL n l e) (wrongL n l e) ∧ w.grownBy w' (some g) ∧ w'.heap.size = w.heap.size := by
  have H := Lib.hid h
  have HL := Lib.hid hl
  have HB := Lib.hid hb
  have i1 : (1 : Int) ≤ n := by omega
  have i2 : (n : Int) ≤ 8 := by omega
  clear h hl hb
  go_enter Try.func41, Try.ntmps41
  go_wp2_with fail
  refine (rtake_calls g l e n w H.out HL.out).mono ?_
  rintro x w1 ⟨out, b, rfl, hrow, hnil, hlt, hr, hg, hs⟩
  obtain ⟨t, ht⟩ : ∃ t, t = gotL n l e := ⟨_, rfl⟩
  rw [← ht] at hrow
  have htb : isByte t := by rw [ht]; unfold gotL; split; exact HB.out.take _; exact isByte.nil
  have htl : t.length ≤ 8 := by rw [ht]; unfold gotL; split; (rw [List.length_take]; omega); simp
  have HT := Lib.hid ht
  have HTB := Lib.hid htb
  have HR := Lib.hid hr
  have HG := Lib.hid hg
  have HS := Lib.hid hs
  have HROW := Lib.hid hrow
  obtain ⟨a, c, rfl, hc, -⟩ := hrow
  have i3 : (t.length : Int) ≤ 8 := by omega
  clear ht htb hr hg hs hnil hlt
  go_wp2_with fail
  go_loop [7, 19] (fun v y => ∃ k : Nat, k ≤ t.length ∧ y = .int .i64 k ∧ v = .int .u64 (numOf (t.take k))) (fun _ y => (t.length - intOf y).toNat)
  case atStart => exact ⟨0, Nat.zero_le _, rfl, rfl⟩
  case round =>
    obtain ⟨k, hk, rfl, rfl⟩ := hrel
    by_cases hlt : k < t.length
    · obtain ⟨b', rfl, hcell⟩ : ∃ b', a = some b' ∧ w1.cell? (b'.add k) = some (.int .u8 (t.getD k 0)) := by
        obtain ⟨a', c', he, -, hr⟩ := HROW.out
        cases he
        obtain ⟨b', rfl, _, hr1⟩ := hr (by intro h; rw [h] at hlt; simp at hlt)
        exact ⟨b', rfl, hr1 k hlt⟩
      obtain ⟨c0, hc0⟩ : ∃ c0, c0 = t.getD k 0 := ⟨_, rfl⟩
      have hcb := getD_byte HTB.out k
      rw [← hc0] at hcell hcb
      have c1 := hcb.1
      have c2 := hcb.2
      have HC0 := Lib.hid hc0
      clear hcb hc0
      obtain ⟨v0, hv0⟩ : ∃ v0, v0 = numOf (t.take k) := ⟨_, rfl⟩
      rw [← hv0]
      have HV0 := Lib.hid hv0
      clear hv0
      go_wp2_with fail
      refine ⟨⟨k + 1, by omega, by go_num, ?_⟩, by simp [intOf]; omega⟩
      have hsn := take_succ_int hlt
      have hbt : isByte (t.take (k + 1)) := HTB.out.take _
      have hbd := numOf_u64 _ hbt (by rw [List.length_take]; omega)
      have hbd0 := numOf_u64 _ (HTB.out.take k) (by rw [List.length_take]; omega)
      rw [hsn, numOf_snoc, ← HC0.out, ← HV0.out] at hbd
      rw [hsn, numOf_snoc, ← HC0.out, ← HV0.out]
      rw [← HV0.out] at hbd0
      rw [or_u64 v0 c0 hbd0.1 hbd.2 c1 c2]
    · have hke : k = t.length := by omega
      subst hke
      go_wp2_with fail
      go_ret
      refine ⟨?_, HR.out, HG.out, HS.out⟩
      rw [← HT.out]
      simp [Act.eval]
end Go.Proofs.Ytpacfijkhhjfeaa
