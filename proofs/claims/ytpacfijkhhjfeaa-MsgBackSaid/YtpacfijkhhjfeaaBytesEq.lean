/- bytes.Equal, bytes.Clone in this seat's words. -/
import Derived.Test.YtpacfijkhhjfeaaNames16
import Derived.Test.YtpacfijkhhjfeaaShelf
namespace Go.Proofs.Ytpacfijkhhjfeaa
set_option linter.unusedVariables false
set_option linter.unusedSimpArgs false
open Go.RowKit

theorem isRow.bytesIn {w : World} {p : Option Addr} {n c : Nat} {l : List Int} (h : isRow w .u8 (.slice p n c) l) (hb : isByte l) : Lib.BytesIn w p n l := fun hn => by
  obtain ⟨a', c', he, -, hr⟩ := h
  cases he
  obtain ⟨b, rfl, _, hc⟩ := hr (by intro h0; rw [h0] at hn; simp at hn)
  exact Go.Lib.BytesIn.of_cells hc hn

theorem bytesOf_inj : ∀ {l m : List Int}, isByte l → isByte m → Lib.bytesOf l = Lib.bytesOf m → l = m
  | [], [], _, _, _ => rfl
  | [], y :: m, _, _, h => by simp [Lib.bytesOf] at h
  | x :: l, [], _, _, h => by simp [Lib.bytesOf] at h
  | x :: l, y :: m, hl, hm, h => by
    have hx := hl x (List.mem_cons_self ..)
    have hy := hm y (List.mem_cons_self ..)
    simp only [Lib.bytesOf, List.map_cons, List.cons.injEq] at h
    have h1 := congrArg UInt8.toNat h.1
    rw [UInt8.toNat_ofNat', UInt8.toNat_ofNat'] at h1
    have hxy : x = y := by omega
    rw [hxy, bytesOf_inj (fun z hz => hl z (List.mem_cons_of_mem _ hz)) (fun z hz => hm z (List.mem_cons_of_mem _ hz)) h.2]

theorem bytesOf_eq {l m : List Int} (hl : isByte l) (hm : isByte m) : (Lib.bytesOf l == Lib.bytesOf m) = decide (l = m) := by
  by_cases h : l = m
  · subst h; simp
  · rw [decide_eq_false h]
    exact beq_eq_false_iff_ne.2 fun h2 => h (bytesOf_inj hl hm h2)

theorem bytes_equal_calls (v u : Value) (l m : List Int) (w : World) (hv : isRow w .u8 v l) (hu : isRow w .u8 u m) (hl : isByte l) (hm : isByte m) :
    Calls Try.prog 32 #[v, u] w fun e w' => e = .returned (.bool (decide (l = m))) ∧ w = w' := by
  have hv' := hv
  have hu' := hu
  obtain ⟨p1, c1, rfl, -, -⟩ := hv'
  obtain ⟨p2, c2, rfl, -, -⟩ := hu'
  refine (Try.bytes_Equal_all p1 p2 l.length c1 m.length c2 l m w rfl rfl (hv.bytesIn hl) (hu.bytesIn hm)).mono ?_
  rintro e w' ⟨rfl, h⟩
  exact ⟨by rw [bytesOf_eq hl hm], h.symm⟩
end Go.Proofs.Ytpacfijkhhjfeaa
