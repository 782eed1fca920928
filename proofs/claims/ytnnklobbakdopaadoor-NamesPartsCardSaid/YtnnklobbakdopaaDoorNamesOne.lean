/- The contract of coffretlaw09.one. -/
import Derived.Test.YtnnklobbakdopaaDoorNamesPlain
namespace Go.Proofs.YtnnklobbakdopaaDoor
set_option linter.unusedVariables false
set_option linter.unusedSimpArgs false
open Go.RowKit

def sAB : ByteArray := ⟨#[97, 47, 98]⟩
def sMain : ByteArray := ⟨#[104, 101, 97, 100, 115, 47, 109, 97, 105, 110]⟩
def sTag : ByteArray := ⟨#[116, 97, 103, 115, 47, 49, 46, 48]⟩
def sBad : ByteArray := ⟨#[104, 101, 97, 100, 115, 47, 97, 46, 46, 98]⟩

theorem ok_ab : pathOk sAB = true := by rw [path_same]; decide +kernel
theorem len_ab : (slashB sAB).length = 2 := by rw [parts_same]; decide +kernel
theorem snd_ab : (slashB sAB).getD 1 ByteArray.empty = ⟨#[98]⟩ := by rw [parts_same]; decide +kernel
theorem kind_main : kindV sMain = 1 := by rw [kindV_eq]; decide +kernel
theorem kind_tag : kindV sTag = 2 := by rw [kindV_eq]; decide +kernel
theorem kind_bad : kindV sBad = 0 := by rw [kindV_eq]; decide +kernel

theorem path_ab (w : World) (hS : w.ShapedOpen Tryd.prog) :
    Calls Tryd.prog 7 #[.string ⟨#[97, 47, 98]⟩] w fun e w' => ∃ b, w.heap.size ≤ b ∧ e = .returned (.tuple #[.slice (some ⟨b, 0, none⟩) 2 2, .bool true]) ∧ w'.cell? ⟨b, 1, none⟩ = some (.string ⟨#[98]⟩) ∧ Below w.heap.size w w' := by
  refine (path_yes sAB w hS ok_ab).mono ?_
  rintro e w' ⟨b, hb, rfl, hc, hbw⟩
  rw [len_ab] at hc ⊢
  have := hc 1 (by omega)
  rw [snd_ab] at this
  exact ⟨b, hb, rfl, this, hbw⟩

theorem kind_at (s : ByteArray) (n : Int) (h : kindV s = n) (w : World) (hs : s.size < 100) (hS : w.ShapedOpen Tryd.prog) :
    Calls Tryd.prog 9 #[.string s] w fun e w' => e = .returned (.int .i64 n) ∧ Below w.heap.size w w' := by
  rw [← h]; exact kind_calls s w (by omega) hS

set_option maxHeartbeats 1000000 in
theorem one_calls (w : World) (hS : w.ShapedOpen Tryd.prog) :
    Calls Tryd.prog 13 #[] w fun e w' => e = .returned (.bool true) ∧ Below w.heap.size w w' := by
  have HS := Lib.hid hS; clear hS
  go_enter Tryd.func13, Tryd.ntmps13
  go_wp2_with fail
  refine (path_ab _ HS.out).mono ?_
  rintro e w1 ⟨b, hb, rfl, hc, hb1⟩
  have HS1 := Lib.hid (shaped_below HS.out hb1)
  have hbl : b < w1.heap.size := World.block_lt_of_cell? _ _ hc
  go_wp2_with fail
  refine (kind_at sMain 1 kind_main _ (by decide) HS1.out).mono ?_
  rintro e w2 ⟨rfl, hb2⟩
  have HS2 := Lib.hid (shaped_below HS1.out hb2)
  have hc2 := (hb2.cell (p := ⟨b, 1, none⟩) hbl).trans hc
  have hb2' := hb1.trans (hb2.mono hb1.size)
  go_wp2_with fail
  refine (kind_at sTag 2 kind_tag _ (by decide) HS2.out).mono ?_
  rintro e w3 ⟨rfl, hb3⟩
  have HS3 := Lib.hid (shaped_below HS2.out hb3)
  have hc3 := (hb3.cell (p := ⟨b, 1, none⟩) (Nat.lt_of_lt_of_le hbl hb2.size)).trans hc2
  have hb3' := hb2'.trans (hb3.mono hb2'.size)
  go_wp2_with fail
  refine (kind_at sBad 0 kind_bad _ (by decide) HS3.out).mono ?_
  rintro e w4 ⟨rfl, hb4⟩
  have hc4 := (hb4.cell (p := ⟨b, 1, none⟩) (Nat.lt_of_lt_of_le hbl (Nat.le_trans hb2.size hb3.size))).trans hc3
  have hb4' := hb3'.trans (hb4.mono hb3'.size)
  clear hc hc2 hc3 hb2 hb3 hb4
  go_wp2_with fail
  go_ret
  exact ⟨rfl, hb4'⟩
end Go.Proofs.YtnnklobbakdopaaDoor
