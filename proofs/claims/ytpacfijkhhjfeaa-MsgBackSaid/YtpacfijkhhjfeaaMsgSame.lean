/- slices.Equal of names; msg.SameRequest, msg.SameReply. -/
import Derived.Test.YtpacfijkhhjfeaaCoreEqual
import Derived.Test.YtpacfijkhhjfeaaBytesEq
import Derived.Test.YtpacfijkhhjfeaaMsgOpen
import Derived.Deep.QuietTactic
import Derived.BigQuiet
namespace Go.Proofs.Ytpacfijkhhjfeaa
set_option linter.unusedVariables false
set_option linter.unusedSimpArgs false
open Go.RowKit

@[irreducible] noncomputable def loadN (x : Value) : Sem Value := Instr.loadAt 24 x
theorem loadN_eq (x : Value) : Instr.loadAt 24 x = loadN x := by unfold loadN; rfl
attribute [local go_sem ↓] loadN_eq

theorem loadN_of {u : World} {b o : Nat} {l : List Int} (h : u.rangeAt b o (l.map (Value.int .u8))) (hl : l.length = 16) : (loadN (.pointer (some ⟨b, o, none⟩))).run Try.prog u = .ok (.agg (l.map (Value.int .u8)).toArray) u := by
  unfold loadN
  exact run_loadAt_mid (P := Try.prog) u b o 24 _ _ h Try.underlying24 rfl (by rw [List.length_map, hl]; exact size_name)

theorem names_at {w wo : World} {a : Option Addr} {c : Nat} {ns : List (List Int)} (h : isNames w 16 (.slice a ns.length c) ns) (hb : Below w.heap.size w wo) (k : Nat) (hk : k < ns.length) :
    ∃ b off, a = some ⟨b, off, none⟩ ∧ ∀ n, (loadN (.pointer (some ⟨b, off + k * 16, none⟩))).run Try.prog (wo.drewN n) = .ok (.agg ((ns.getD k []).map (Value.int .u8)).toArray) (wo.drewN n) := by
  have hl := h.length k hk
  obtain ⟨a', c', he, -, -, hr⟩ := h
  cases he
  obtain ⟨b, off, rfl, hb1, hr1⟩ := hr (by intro h; rw [h] at hk; simp at hk)
  exact ⟨b, off, rfl, fun n => loadN_of (rangeAt_block (rangeAt_block (hr1 k hk) (hb.block b hb1)) (by simp)) hl⟩

set_option maxHeartbeats 2000000 in
set_option maxRecDepth 100000 in
theorem names_equal_calls (v u : Value) (ns ms : List (List Int)) (w : World) (hv : isNames w 16 v ns) (hu : isNames w 16 u ms) (h1 : ns.length ≤ 9223372036854775807) (h2 : ms.length ≤ 9223372036854775807) (nb : ∀ n ∈ ns, isByte n) (mb : ∀ n ∈ ms, isByte n) :
    Calls Try.prog 33 #[v, u] w fun e w' => e = .returned (.bool (decide (ns = ms))) ∧ Below w.heap.size w w' := by
  have HV := Lib.hid hv
  have HU := Lib.hid hu
  obtain ⟨a, c, rfl, -, hn, -⟩ := hv
  obtain ⟨b, d, rfl, -, hm, -⟩ := hu
  have HN := Lib.hid hn
  have HM := Lib.hid hm
  have NB := Lib.hid nb
  have MB := Lib.hid mb
  have i1 : (0 : Int) ≤ ns.length := by omega
  have i2 : (ns.length : Int) ≤ 9223372036854775807 := by omega
  have i3 : (ms.length : Int) ≤ 9223372036854775807 := by omega
  clear hn hm h1 h2 nb mb
  by_cases hl : ns.length = ms.length
  · have hb : ((ns.length : Int) != ms.length) = false := by rw [hl]; simp
    have HL := Lib.hid hl
    clear hl
    go_enter Try.func33, Try.ntmps33
    go_wp2_with fail
    go_loopw [13] (fun y wr => ∃ k : Nat, k ≤ ns.length ∧ y = .int .i64 k ∧ ns.take k = ms.take k ∧ Below w.heap.size w wr) (fun y _ => (ns.length - intOf y).toNat)
    case atStart => exact ⟨0, Nat.zero_le _, rfl, rfl, Below.refl _ _⟩
    case round =>
      obtain ⟨k, hk, rfl, hq, hbw⟩ := hrel
      obtain ⟨wo, rfl⟩ : ∃ wo : World, wo = wr := ⟨_, rfl⟩
      have HQ := Lib.hid hq
      have HB := Lib.hid hbw
      clear hq hbw
      by_cases hlt : k < ns.length
      · have hltm : k < ms.length := by rw [← HL.out]; exact hlt
        obtain ⟨b1, o1, rfl, hx⟩ := names_at HV.out HB.out k hlt
        obtain ⟨b2, o2, rfl, hy⟩ := names_at HU.out HB.out k hltm
        have eN : ns.getD k [] ∈ ns := by simp [List.getD, hlt]
        have eM : ms.getD k [] ∈ ms := by simp [List.getD, hltm]
        have hq : ∀ w' : World, (Op.equalIn 10000 24 (.agg ((ns.getD k []).map (Value.int .u8)).toArray) (.agg ((ms.getD k []).map (Value.int .u8)).toArray)).run Try.prog w' = .ok (decide (ns.getD k [] = ms.getD k [])) w' :=
          fun w' => name_equal w' (HN.out _ eN) (HM.out _ eM) (NB.out _ eN) (MB.out _ eM)
        obtain ⟨r, hr⟩ : ∃ r, r = decide (ns.getD k [] = ms.getD k []) := ⟨_, rfl⟩
        rw [← hr] at hq
        have HR := Lib.hid hr
        clear hr
        obtain ⟨X, hX⟩ : ∃ X, X = ((ns.getD k []).map (Value.int .u8)).toArray := ⟨_, rfl⟩
        obtain ⟨Y, hY⟩ : ∃ Y, Y = ((ms.getD k []).map (Value.int .u8)).toArray := ⟨_, rfl⟩
        rw [← hX] at hq hx
        rw [← hY] at hq hy
        clear hX hY eN eM
        go_upto_region 6 with (fail)
        go_quiet (fail)
        go_wp2_with fail
        · rename_i hne
          go_ret
          refine ⟨?_, below_drewN HB.out nq⟩
          have hf : r = false := by simpa using hne
          have : ¬ ns = ms := by
            intro h
            have hr := HR.out
            rw [hf, h, decide_eq_true rfl] at hr
            cases hr
          rw [decide_eq_false this]
          rfl
        · rename_i hne
          have hf : r = true := by simpa using hne
          have he : ns.getD k [] = ms.getD k [] := by
            have hr := HR.out
            rw [hf] at hr
            exact of_decide_eq_true hr.symm
          refine ⟨⟨k + 1, hlt, by simp, by rw [take_succ_getD hlt, take_succ_getD hltm, HQ.out, he], below_drewN HB.out nq⟩, ?_⟩
          rw [intOf, intOf]
          omega
      · have hke : k = ns.length := by omega
        subst hke
        go_wp2_with fail
        go_ret
        have hq := HQ.out
        rw [List.take_length, HL.out, List.take_length] at hq
        exact ⟨by rw [decide_eq_true hq]; rfl, HB.out⟩
  · have hb : ((ns.length : Int) != ms.length) = true := by rw [bne_iff_ne]; omega
    go_enter Try.func33, Try.ntmps33
    go_wp2_with fail
    go_ret
    exact ⟨by rw [decide_eq_false (fun h => hl (by rw [h]))]; rfl, Below.refl _ _⟩
@[irreducible] def coreEq (x y : Value) : Sem Bool := Op.equalIn 10000 56 x y
theorem coreEq_eq (x y : Value) : Op.equalIn 10000 56 x y = coreEq x y := by unfold coreEq; rfl
attribute [local go_sem ↓] coreEq_eq loadReq_eq loadRep_eq

/-- where the two copies of SAMERequest stand -/
def sameRequestInv (w : World) (cs1 cs2 : Array Value) (w' : World) : Prop :=
  Below w.heap.size w w' ∧ w'.heap[w.heap.size]? = some (.cells cs1 28 (0, 0)) ∧ w'.heap[w.heap.size + 1]? = some (.cells cs2 28 (0, 0)) ∧ w.heap.size + 2 ≤ w'.heap.size

theorem sameRequestInv.step {w a b : World} {cs1 cs2 : Array Value} (h : sameRequestInv w cs1 cs2 a) (hb : Below a.heap.size a b) : sameRequestInv w cs1 cs2 b :=
  ⟨h.1.trans (hb.mono (Nat.le_trans (Nat.le_add_right _ 2) h.2.2.2)), (hb.block _ (by have := h.2.2.2; omega)).trans h.2.1, (hb.block _ (by have := h.2.2.2; omega)).trans h.2.2.1, Nat.le_trans h.2.2.2 hb.size⟩

theorem sameRequestInv.start (w : World) (cs1 cs2 : Array Value) : sameRequestInv w cs1 cs2 ((w.alloc (.cells cs1 28)).alloc (.cells cs2 28)).drew := by
  refine ⟨(((Below.refl _ w).alloc (Nat.le_refl _) _).alloc (by simp) _).drew, ?_, ?_, by simp⟩
  · show (World.alloc _ _).heap[_]? = _
    rw [heap_alloc_old _ _ (by simp)]
    exact heap_alloc_new w _
  · show (World.alloc _ _).heap[_]? = _
    have := heap_alloc_new (w.alloc (.cells cs1 28)) (.cells cs2 28)
    simpa using this

theorem sameRequestInv.reads {w u : World} {c c' : Core} {v1 u1 v2 u2 : Value} (hn : c.name.length = 16) (hn' : c'.name.length = 16) (h : sameRequestInv w (requestCells c v1 u1).toArray (requestCells c' v2 u2).toArray u) : (loadReq (.pointer (some ⟨w.heap.size, 0, none⟩))).run Try.prog u = .ok (.agg (requestCells c v1 u1).toArray) u ∧ u.cell? ⟨w.heap.size, 20, none⟩ = some v1 ∧ u.cell? ⟨w.heap.size, 21, none⟩ = some u1 ∧ (loadReq (.pointer (some ⟨w.heap.size + 1, 0, none⟩))).run Try.prog u = .ok (.agg (requestCells c' v2 u2).toArray) u ∧ u.cell? ⟨w.heap.size + 1, 20, none⟩ = some v2 ∧ u.cell? ⟨w.heap.size + 1, 21, none⟩ = some u2 := by
  obtain ⟨-, h1, h2, -⟩ := h
  have a := request_read hn h1
  have b := request_read hn' h2
  exact ⟨a.1, a.2.1, a.2.2, b.1, b.2.1, b.2.2⟩

set_option maxHeartbeats 2000000 in
set_option maxRecDepth 100000 in
theorem same_request_no (c c' : Core) (vn vd un ud : Value) (w : World) (hn : c.name.length = 16) (hn' : c'.name.length = 16) (hg : goodLits c) (hg' : goodLits c') (hne : c ≠ c') :
    Calls Try.prog 17 #[.agg (requestCells c vn vd).toArray, .agg (requestCells c' un ud).toArray] w fun e w' => e = .returned (.bool false) ∧ Below w.heap.size w w' := by
  have HCO := Lib.hid (fun W => request_core_calls c vn vd W hn)
  have HCO' := Lib.hid (fun W => request_core_calls c' un ud W hn')
  have hq : ∀ w' : World, (coreEq (.agg (coreCells c).toArray) (.agg (coreCells c').toArray)).run Try.prog w' = .ok false w' := fun w' => by
    rw [← coreEq_eq, core_equal w' hg hg', decide_eq_false hne]
  have HALL := Lib.hid (fun (u : World) (h : sameRequestInv w (requestCells c vn vd).toArray (requestCells c' un ud).toArray u) => h.reads hn hn')
  have HI0 := Lib.hid (sameRequestInv.start w (requestCells c vn vd).toArray (requestCells c' un ud).toArray)
  clear hg hg' hne hn hn'
  obtain ⟨cs1, h1⟩ : ∃ cs, cs = (requestCells c vn vd).toArray := ⟨_, rfl⟩
  obtain ⟨cs2, h2⟩ : ∃ cs, cs = (requestCells c' un ud).toArray := ⟨_, rfl⟩
  rw [← h1, ← h2] at HALL HI0 ⊢
  rw [← h1] at HCO
  rw [← h2] at HCO'
  clear h1 h2
  obtain ⟨k1, h3⟩ : ∃ cs, cs = (coreCells c).toArray := ⟨_, rfl⟩
  obtain ⟨k2, h4⟩ : ∃ cs, cs = (coreCells c').toArray := ⟨_, rfl⟩
  rw [← h3] at HCO hq
  rw [← h4] at HCO' hq
  clear h3 h4
  go_enter Try.func17, Try.ntmps17
  go_upto_region 1 with (fail)
  refine wp_region_held_drew (S := fun w' => (loadReq (.pointer (some ⟨w.heap.size, 0, none⟩))).run Try.prog w' = .ok (.agg cs1) w' ∧ w'.cell? ⟨w.heap.size, 20, none⟩ = some vn ∧ w'.cell? ⟨w.heap.size, 21, none⟩ = some vd ∧ (loadReq (.pointer (some ⟨w.heap.size + 1, 0, none⟩))).run Try.prog w' = .ok (.agg cs2) w' ∧ w'.cell? ⟨w.heap.size + 1, 20, none⟩ = some un ∧ w'.cell? ⟨w.heap.size + 1, 21, none⟩ = some ud) (by kernel_rfl) (HALL.out _ HI0.out) (fun hHeld => ?_)
  refine wpAnyH_take (i := 0) (oi := { dst := some 5, op := .load 28 (.tmp 2), type := 28, pos := "msg.go:173", after := #[], guard := none }) (v := .agg cs1) rfl (by kernel_rfl) (by kernel_rfl) (by kernel_rfl) (fun _ _ _ h => h) (Or.inl ⟨by rfl, ?_⟩) (by assumption) ?_
  · intro w hSw
    try dsimp only at hSw
    go_simp
  try simp only [Act.put, List.setIfInBounds_toArray, List.set_cons_zero, List.set_cons_succ]
  refine wpAnyH_take (i := 2) (oi := { dst := some 7, op := .load 28 (.tmp 3), type := 28, pos := "msg.go:173", after := #[], guard := none }) (v := .agg cs2) rfl (by kernel_rfl) (by kernel_rfl) (by kernel_rfl) (fun _ _ _ h => h) (Or.inl ⟨by rfl, ?_⟩) (by assumption) ?_
  · intro w hSw
    try dsimp only at hSw
    go_simp
  try simp only [Act.put, List.setIfInBounds_toArray, List.set_cons_zero, List.set_cons_succ]
  refine wpAnyH_ready (rs := [1]) (by kernel_rfl) (by simp) ?_
  refine AllReadyH.cons (o := { dst := some 6, op := .call { callee := .value (.func 19), args := #[.tmp 5], argTypes := #[28] }, type := 56, pos := "msg.go:173", after := #[{ on := 0, ground := .data }], guard := none }) rfl (fun K hK => ?_) AllReadyH.nil
  go_simp
  apply Calls.mono (HCO.out _); rintro e w1 ⟨rfl, hb1⟩; have hi1 := HI0.out.step hb1; have hs1 := HALL.out _ hi1
  refine hK.out _ _ hs1 (fun hHeld => ?_)
  clear hK K
  try simp only [Act.put, List.setIfInBounds_toArray, List.set_cons_zero, List.set_cons_succ]
  refine wpAnyH_ready (rs := [3]) (by kernel_rfl) (by simp) ?_
  refine AllReadyH.cons (o := { dst := some 8, op := .call { callee := .value (.func 19), args := #[.tmp 7], argTypes := #[28] }, type := 56, pos := "msg.go:173", after := #[{ on := 2, ground := .data }, { on := 1, ground := .chain }], guard := none }) rfl (fun K hK => ?_) AllReadyH.nil
  go_simp
  apply Calls.mono (HCO'.out _); rintro e w2 ⟨rfl, hb2⟩; have hi2 := hi1.step hb2; have hs2 := HALL.out _ hi2
  refine hK.out _ _ hs2 (fun hHeld => ?_)
  clear hK K
  try simp only [Act.put, List.setIfInBounds_toArray, List.set_cons_zero, List.set_cons_succ]
  have HI2 := Lib.hid hi2
  clear hi1 hi2 hb1 hb2
  refine wpAnyH_take (i := 4) (oi := { dst := some 9, op := .binOp .eql 56 (.tmp 6) (.tmp 8) 56, type := 4, pos := "msg.go:173", after := #[{ on := 1, ground := .data }, { on := 3, ground := .data }], guard := none }) (v := .bool false) rfl (by kernel_rfl) (by kernel_rfl) (by kernel_rfl) (fun _ _ _ h => h) (Or.inl ⟨by rfl, ?_⟩) (by assumption) ?_
  · intro w hSw
    try dsimp only at hSw
    go_simp
  try simp only [Act.put, List.setIfInBounds_toArray, List.set_cons_zero, List.set_cons_succ]
  refine wpAnyH_take (i := 5) (oi := { dst := some 10, op := .move (.tmp 9), type := 4, pos := "msg.go:173", after := #[{ on := 4, ground := .data }, { on := 3, ground := .chain }], guard := none }) (v := .bool false) rfl (by kernel_rfl) (by kernel_rfl) (by kernel_rfl) (fun _ _ _ h => h) (Or.inl ⟨by rfl, ?_⟩) (by assumption) ?_
  · intro w hSw
    try dsimp only at hSw
    go_simp
  try simp only [Act.put, List.setIfInBounds_toArray, List.set_cons_zero, List.set_cons_succ]
  refine wpAnyH_take (i := 6) (oi := { dst := some 11, op := .fieldAddr 28 (.tmp 2) 5, type := 0, pos := "msg.go:173", after := #[{ on := 5, ground := .guard }], guard := some (5, true) }) (v := undef) rfl (by kernel_rfl) (by kernel_rfl) (by kernel_rfl) (fun _ _ _ h => h) (Or.inr ⟨by rfl, rfl⟩) (by assumption) ?_
  try simp only [Act.put, List.setIfInBounds_toArray, List.set_cons_zero, List.set_cons_succ]
  refine wpAnyH_take (i := 8) (oi := { dst := some 13, op := .fieldAddr 28 (.tmp 3) 5, type := 0, pos := "msg.go:173", after := #[{ on := 5, ground := .guard }], guard := some (5, true) }) (v := undef) rfl (by kernel_rfl) (by kernel_rfl) (by kernel_rfl) (fun _ _ _ h => h) (Or.inr ⟨by rfl, rfl⟩) (by assumption) ?_
  try simp only [Act.put, List.setIfInBounds_toArray, List.set_cons_zero, List.set_cons_succ]
  refine wpAnyH_take (i := 7) (oi := { dst := some 12, op := .load 25 (.tmp 11), type := 25, pos := "msg.go:173", after := #[{ on := 6, ground := .data }, { on := 5, ground := .guard }], guard := some (5, true) }) (v := undef) rfl (by kernel_rfl) (by kernel_rfl) (by kernel_rfl) (fun _ _ _ h => h) (Or.inr ⟨by rfl, rfl⟩) (by assumption) ?_
  try simp only [Act.put, List.setIfInBounds_toArray, List.set_cons_zero, List.set_cons_succ]
  refine wpAnyH_take (i := 9) (oi := { dst := some 14, op := .load 25 (.tmp 13), type := 25, pos := "msg.go:173", after := #[{ on := 8, ground := .data }, { on := 5, ground := .guard }], guard := some (5, true) }) (v := undef) rfl (by kernel_rfl) (by kernel_rfl) (by kernel_rfl) (fun _ _ _ h => h) (Or.inr ⟨by rfl, rfl⟩) (by assumption) ?_
  try simp only [Act.put, List.setIfInBounds_toArray, List.set_cons_zero, List.set_cons_succ]
  refine wpAnyH_take (i := 10) (oi := { dst := some 15, op := .call { callee := .value (.func 33), args := #[.tmp 12, .tmp 14], argTypes := #[25, 25] }, type := 4, pos := "msg.go:173", after := #[{ on := 7, ground := .data }, { on := 9, ground := .data }, { on := 5, ground := .chain }, { on := 5, ground := .guard }], guard := some (5, true) }) (v := undef) rfl (by kernel_rfl) (by kernel_rfl) (by kernel_rfl) (fun _ _ _ h => h) (Or.inr ⟨by rfl, rfl⟩) (by assumption) ?_
  try simp only [Act.put, List.setIfInBounds_toArray, List.set_cons_zero, List.set_cons_succ]
  refine wpAnyH_take (i := 11) (oi := { dst := some 16, op := .pick (.tmp 10) (.tmp 15) (.const (.bool false)), type := 4, pos := "msg.go:173", after := #[{ on := 5, ground := .data }, { on := 10, ground := .data }], guard := none }) (v := .bool false) rfl (by kernel_rfl) (by kernel_rfl) (by kernel_rfl) (fun _ _ _ h => h) (Or.inl ⟨by rfl, ?_⟩) (by assumption) ?_
  · intro w hSw
    try dsimp only at hSw
    go_simp
  try simp only [Act.put, List.setIfInBounds_toArray, List.set_cons_zero, List.set_cons_succ]
  refine wpAnyH_take (i := 12) (oi := { dst := some 17, op := .move (.tmp 16), type := 4, pos := "msg.go:173", after := #[{ on := 11, ground := .data }, { on := 10, ground := .chain }], guard := none }) (v := .bool false) rfl (by kernel_rfl) (by kernel_rfl) (by kernel_rfl) (fun _ _ _ h => h) (Or.inl ⟨by rfl, ?_⟩) (by assumption) ?_
  · intro w hSw
    try dsimp only at hSw
    go_simp
  try simp only [Act.put, List.setIfInBounds_toArray, List.set_cons_zero, List.set_cons_succ]
  refine wpAnyH_take (i := 13) (oi := { dst := some 18, op := .fieldAddr 28 (.tmp 2) 6, type := 0, pos := "msg.go:173", after := #[{ on := 12, ground := .guard }], guard := some (12, true) }) (v := undef) rfl (by kernel_rfl) (by kernel_rfl) (by kernel_rfl) (fun _ _ _ h => h) (Or.inr ⟨by rfl, rfl⟩) (by assumption) ?_
  try simp only [Act.put, List.setIfInBounds_toArray, List.set_cons_zero, List.set_cons_succ]
  refine wpAnyH_take (i := 15) (oi := { dst := some 20, op := .fieldAddr 28 (.tmp 3) 6, type := 0, pos := "msg.go:173", after := #[{ on := 12, ground := .guard }], guard := some (12, true) }) (v := undef) rfl (by kernel_rfl) (by kernel_rfl) (by kernel_rfl) (fun _ _ _ h => h) (Or.inr ⟨by rfl, rfl⟩) (by assumption) ?_
  try simp only [Act.put, List.setIfInBounds_toArray, List.set_cons_zero, List.set_cons_succ]
  refine wpAnyH_take (i := 14) (oi := { dst := some 19, op := .load 26 (.tmp 18), type := 26, pos := "msg.go:173", after := #[{ on := 13, ground := .data }, { on := 12, ground := .guard }], guard := some (12, true) }) (v := undef) rfl (by kernel_rfl) (by kernel_rfl) (by kernel_rfl) (fun _ _ _ h => h) (Or.inr ⟨by rfl, rfl⟩) (by assumption) ?_
  try simp only [Act.put, List.setIfInBounds_toArray, List.set_cons_zero, List.set_cons_succ]
  refine wpAnyH_take (i := 16) (oi := { dst := some 21, op := .load 26 (.tmp 20), type := 26, pos := "msg.go:173", after := #[{ on := 15, ground := .data }, { on := 12, ground := .guard }], guard := some (12, true) }) (v := undef) rfl (by kernel_rfl) (by kernel_rfl) (by kernel_rfl) (fun _ _ _ h => h) (Or.inr ⟨by rfl, rfl⟩) (by assumption) ?_
  try simp only [Act.put, List.setIfInBounds_toArray, List.set_cons_zero, List.set_cons_succ]
  refine wpAnyH_take (i := 17) (oi := { dst := some 22, op := .call { callee := .value (.func 32), args := #[.tmp 19, .tmp 21], argTypes := #[26, 26] }, type := 4, pos := "msg.go:173", after := #[{ on := 14, ground := .data }, { on := 16, ground := .data }, { on := 12, ground := .chain }, { on := 12, ground := .guard }], guard := some (12, true) }) (v := undef) rfl (by kernel_rfl) (by kernel_rfl) (by kernel_rfl) (fun _ _ _ h => h) (Or.inr ⟨by rfl, rfl⟩) (by assumption) ?_
  try simp only [Act.put, List.setIfInBounds_toArray, List.set_cons_zero, List.set_cons_succ]
  refine wpAnyH_take (i := 18) (oi := { dst := some 23, op := .pick (.tmp 17) (.tmp 22) (.const (.bool false)), type := 4, pos := "msg.go:173", after := #[{ on := 12, ground := .data }, { on := 17, ground := .data }], guard := none }) (v := .bool false) rfl (by kernel_rfl) (by kernel_rfl) (by kernel_rfl) (fun _ _ _ h => h) (Or.inl ⟨by rfl, ?_⟩) (by assumption) ?_
  · intro w hSw
    try dsimp only at hSw
    go_simp
  try simp only [Act.put, List.setIfInBounds_toArray, List.set_cons_zero, List.set_cons_succ]
  refine wpAnyH_take (i := 19) (oi := { dst := some 4, op := .assign (.tmp 23), type := 4, pos := "msg.go:173", after := #[{ on := 18, ground := .data }, { on := 17, ground := .chain }, { on := 0, ground := .phase }, { on := 1, ground := .phase }, { on := 2, ground := .phase }, { on := 3, ground := .phase }, { on := 4, ground := .phase }, { on := 5, ground := .phase }, { on := 6, ground := .phase }, { on := 7, ground := .phase }, { on := 8, ground := .phase }, { on := 9, ground := .phase }, { on := 10, ground := .phase }, { on := 11, ground := .phase }, { on := 12, ground := .phase }, { on := 13, ground := .phase }, { on := 14, ground := .phase }, { on := 15, ground := .phase }, { on := 16, ground := .phase }, { on := 17, ground := .phase }, { on := 18, ground := .phase }], guard := none }) (v := .bool false) rfl (by kernel_rfl) (by kernel_rfl) (by kernel_rfl) (fun _ _ _ h => h) (Or.inl ⟨by rfl, ?_⟩) (by assumption) ?_
  · intro w hSw
    try dsimp only at hSw
    go_simp
  try simp only [Act.put, List.setIfInBounds_toArray, List.set_cons_zero, List.set_cons_succ]
  refine wpAnyH_done (by kernel_rfl) ?_ _
  go_wp2_with fail
  go_ret
  exact ⟨rfl, HI2.out.1⟩

set_option maxHeartbeats 2000000 in
set_option maxRecDepth 100000 in
theorem same_request_yes (c : Core) (an ad bn bd : Option Addr) (cn cd dn dd : Nat) (ns : List (List Int)) (d : List Int) (w : World) (hn : c.name.length = 16) (hg : goodLits c)
    (hN : isNames w 16 (.slice an ns.length cn) ns) (hN' : isNames w 16 (.slice bn ns.length dn) ns) (hD : isRow w .u8 (.slice ad d.length cd) d) (hD' : isRow w .u8 (.slice bd d.length dd) d) (hs : ns.length ≤ 9223372036854775807) (hNb : ∀ n ∈ ns, isByte n) (hDb : isByte d) :
    Calls Try.prog 17 #[.agg (requestCells c (.slice an ns.length cn) (.slice ad d.length cd)).toArray, .agg (requestCells c (.slice bn ns.length dn) (.slice bd d.length dd)).toArray] w fun e w' => e = .returned (.bool true) ∧ Below w.heap.size w w' := by
  have HCO := Lib.hid (fun W => request_core_calls c (.slice an ns.length cn) (.slice ad d.length cd) W hn)
  have HCO' := Lib.hid (fun W => request_core_calls c (.slice bn ns.length dn) (.slice bd d.length dd) W hn)
  have hq : ∀ w' : World, (coreEq (.agg (coreCells c).toArray) (.agg (coreCells c).toArray)).run Try.prog w' = .ok true w' := fun w' => by
    rw [← coreEq_eq, core_equal w' hg hg, decide_eq_true rfl]
  have HALL := Lib.hid (fun (u : World) (h : sameRequestInv w (requestCells c (.slice an ns.length cn) (.slice ad d.length cd)).toArray (requestCells c (.slice bn ns.length dn) (.slice bd d.length dd)).toArray u) => h.reads hn hn)
  have HI0 := Lib.hid (sameRequestInv.start w (requestCells c (.slice an ns.length cn) (.slice ad d.length cd)).toArray (requestCells c (.slice bn ns.length dn) (.slice bd d.length dd)).toArray)
  have HNE := Lib.hid (fun (u : World) (hb : Below w.heap.size w u) => names_equal_calls _ _ ns ns u (hN.below hb (Nat.le_refl _)) (hN'.below hb (Nat.le_refl _)) hs hs hNb hNb)
  have HBE := Lib.hid (fun (u : World) (hb : Below w.heap.size w u) => bytes_equal_calls _ _ d d u (hD.below hb (Nat.le_refl _)) (hD'.below hb (Nat.le_refl _)) hDb hDb)
  rw [decide_eq_true (rfl : ns = ns)] at HNE
  rw [decide_eq_true (rfl : d = d)] at HBE
  clear hg hn hN hN' hD hD' hs hNb hDb
  obtain ⟨cs1, h1⟩ : ∃ cs, cs = (requestCells c (.slice an ns.length cn) (.slice ad d.length cd)).toArray := ⟨_, rfl⟩
  obtain ⟨cs2, h2⟩ : ∃ cs, cs = (requestCells c (.slice bn ns.length dn) (.slice bd d.length dd)).toArray := ⟨_, rfl⟩
  rw [← h1, ← h2] at HALL HI0 ⊢
  rw [← h1] at HCO
  rw [← h2] at HCO'
  clear h1 h2
  obtain ⟨k1, h3⟩ : ∃ cs, cs = (coreCells c).toArray := ⟨_, rfl⟩
  rw [← h3] at HCO HCO' hq
  clear h3
  go_enter Try.func17, Try.ntmps17
  go_upto_region 1 with (fail)
  first | (go_region_held3 (fun w' => (loadReq (.pointer (some ⟨w.heap.size, 0, none⟩))).run Try.prog w' = .ok (.agg cs1) w' ∧ w'.cell? ⟨w.heap.size, 20, none⟩ = some (.slice an ns.length cn) ∧ w'.cell? ⟨w.heap.size, 21, none⟩ = some (.slice ad d.length cd) ∧ (loadReq (.pointer (some ⟨w.heap.size + 1, 0, none⟩))).run Try.prog w' = .ok (.agg cs2) w' ∧ w'.cell? ⟨w.heap.size + 1, 20, none⟩ = some (.slice bn ns.length dn) ∧ w'.cell? ⟨w.heap.size + 1, 21, none⟩ = some (.slice bd d.length dd))
    (first | with_reducible exact hs4 | with_reducible exact hs3 | with_reducible exact hs2 | with_reducible exact hs1 | with_reducible exact HALL.out _ HI0.out | go_keep)
    (first
      | (have tok := hi1; clear tok; go_simp; go_at_call 19; (apply Calls.mono (HCO'.out _); rintro e w2 ⟨rfl, hb2⟩; have hi2 := hi1.step hb2; have hs2 := HALL.out _ hi2))
      | (go_simp; go_at_call 19; (apply Calls.mono (HCO.out _); rintro e w1 ⟨rfl, hb1⟩; have hi1 := HI0.out.step hb1; have hs1 := HALL.out _ hi1))
      | (go_simp; go_at_call 33; (apply Calls.mono (HNE.out _ hi2.1); rintro e w3 ⟨rfl, hb3⟩; have hi3 := hi2.step hb3; have hs3 := HALL.out _ hi3))
      | (go_simp; go_at_call 32; (apply Calls.mono (HBE.out _ hi3.1); rintro e w4 ⟨rfl, hb4⟩; subst hb4; have hs4 := hs3)))) | fail "region"
  have HI3 := Lib.hid hi3
  clear hi1 hi2 hi3 hs1 hs2 hs3 hs4 hb1 hb2 hb3
  go_wp2_with fail
  go_ret
  exact ⟨rfl, HI3.out.1⟩

/-- where the two copies of SAMEReply stand -/
def sameReplyInv (w : World) (cs1 cs2 : Array Value) (w' : World) : Prop :=
  Below w.heap.size w w' ∧ w'.heap[w.heap.size]? = some (.cells cs1 30 (0, 0)) ∧ w'.heap[w.heap.size + 1]? = some (.cells cs2 30 (0, 0)) ∧ w.heap.size + 2 ≤ w'.heap.size

theorem sameReplyInv.step {w a b : World} {cs1 cs2 : Array Value} (h : sameReplyInv w cs1 cs2 a) (hb : Below a.heap.size a b) : sameReplyInv w cs1 cs2 b :=
  ⟨h.1.trans (hb.mono (Nat.le_trans (Nat.le_add_right _ 2) h.2.2.2)), (hb.block _ (by have := h.2.2.2; omega)).trans h.2.1, (hb.block _ (by have := h.2.2.2; omega)).trans h.2.2.1, Nat.le_trans h.2.2.2 hb.size⟩

theorem sameReplyInv.start (w : World) (cs1 cs2 : Array Value) : sameReplyInv w cs1 cs2 ((w.alloc (.cells cs1 30)).alloc (.cells cs2 30)).drew := by
  refine ⟨(((Below.refl _ w).alloc (Nat.le_refl _) _).alloc (by simp) _).drew, ?_, ?_, by simp⟩
  · show (World.alloc _ _).heap[_]? = _
    rw [heap_alloc_old _ _ (by simp)]
    exact heap_alloc_new w _
  · show (World.alloc _ _).heap[_]? = _
    have := heap_alloc_new (w.alloc (.cells cs1 30)) (.cells cs2 30)
    simpa using this

theorem sameReplyInv.reads {w u : World} {c c' : Core} {v1 u1 v2 u2 : Value} (h : sameReplyInv w (replyCells c v1 u1).toArray (replyCells c' v2 u2).toArray u) : (loadRep (.pointer (some ⟨w.heap.size, 0, none⟩))).run Try.prog u = .ok (.agg (replyCells c v1 u1).toArray) u ∧ u.cell? ⟨w.heap.size, 4, none⟩ = some v1 ∧ u.cell? ⟨w.heap.size, 5, none⟩ = some u1 ∧ (loadRep (.pointer (some ⟨w.heap.size + 1, 0, none⟩))).run Try.prog u = .ok (.agg (replyCells c' v2 u2).toArray) u ∧ u.cell? ⟨w.heap.size + 1, 4, none⟩ = some v2 ∧ u.cell? ⟨w.heap.size + 1, 5, none⟩ = some u2 := by
  obtain ⟨-, h1, h2, -⟩ := h
  have a := reply_read h1
  have b := reply_read h2
  exact ⟨a.1, a.2.1, a.2.2, b.1, b.2.1, b.2.2⟩

set_option maxHeartbeats 2000000 in
set_option maxRecDepth 100000 in
theorem same_reply_no (c c' : Core) (vn vd un ud : Value) (w : World) (hn : c.name = List.replicate 16 0) (hn' : c'.name = List.replicate 16 0) (hg : goodLits c) (hg' : goodLits c') (hne : c ≠ c') :
    Calls Try.prog 18 #[.agg (replyCells c vn vd).toArray, .agg (replyCells c' un ud).toArray] w fun e w' => e = .returned (.bool false) ∧ Below w.heap.size w w' := by
  have HCO := Lib.hid (fun W => reply_core_calls c vn vd W hn)
  have HCO' := Lib.hid (fun W => reply_core_calls c' un ud W hn')
  have hq : ∀ w' : World, (coreEq (.agg (coreCells c).toArray) (.agg (coreCells c').toArray)).run Try.prog w' = .ok false w' := fun w' => by
    rw [← coreEq_eq, core_equal w' hg hg', decide_eq_false hne]
  have HALL := Lib.hid (fun (u : World) (h : sameReplyInv w (replyCells c vn vd).toArray (replyCells c' un ud).toArray u) => h.reads)
  have HI0 := Lib.hid (sameReplyInv.start w (replyCells c vn vd).toArray (replyCells c' un ud).toArray)
  clear hg hg' hne hn hn'
  obtain ⟨cs1, h1⟩ : ∃ cs, cs = (replyCells c vn vd).toArray := ⟨_, rfl⟩
  obtain ⟨cs2, h2⟩ : ∃ cs, cs = (replyCells c' un ud).toArray := ⟨_, rfl⟩
  rw [← h1, ← h2] at HALL HI0 ⊢
  rw [← h1] at HCO
  rw [← h2] at HCO'
  clear h1 h2
  obtain ⟨k1, h3⟩ : ∃ cs, cs = (coreCells c).toArray := ⟨_, rfl⟩
  obtain ⟨k2, h4⟩ : ∃ cs, cs = (coreCells c').toArray := ⟨_, rfl⟩
  rw [← h3] at HCO hq
  rw [← h4] at HCO' hq
  clear h3 h4
  go_enter Try.func18, Try.ntmps18
  go_upto_region 1 with (fail)
  refine wp_region_held_drew (S := fun w' => (loadRep (.pointer (some ⟨w.heap.size, 0, none⟩))).run Try.prog w' = .ok (.agg cs1) w' ∧ w'.cell? ⟨w.heap.size, 4, none⟩ = some vn ∧ w'.cell? ⟨w.heap.size, 5, none⟩ = some vd ∧ (loadRep (.pointer (some ⟨w.heap.size + 1, 0, none⟩))).run Try.prog w' = .ok (.agg cs2) w' ∧ w'.cell? ⟨w.heap.size + 1, 4, none⟩ = some un ∧ w'.cell? ⟨w.heap.size + 1, 5, none⟩ = some ud) (by kernel_rfl) (HALL.out _ HI0.out) (fun hHeld => ?_)
  refine wpAnyH_take (i := 0) (oi := { dst := some 5, op := .load 30 (.tmp 2), type := 30, pos := "msg.go:178", after := #[], guard := none }) (v := .agg cs1) rfl (by kernel_rfl) (by kernel_rfl) (by kernel_rfl) (fun _ _ _ h => h) (Or.inl ⟨by rfl, ?_⟩) (by assumption) ?_
  · intro w hSw
    try dsimp only at hSw
    go_simp
  try simp only [Act.put, List.setIfInBounds_toArray, List.set_cons_zero, List.set_cons_succ]
  refine wpAnyH_take (i := 2) (oi := { dst := some 7, op := .load 30 (.tmp 3), type := 30, pos := "msg.go:178", after := #[], guard := none }) (v := .agg cs2) rfl (by kernel_rfl) (by kernel_rfl) (by kernel_rfl) (fun _ _ _ h => h) (Or.inl ⟨by rfl, ?_⟩) (by assumption) ?_
  · intro w hSw
    try dsimp only at hSw
    go_simp
  try simp only [Act.put, List.setIfInBounds_toArray, List.set_cons_zero, List.set_cons_succ]
  refine wpAnyH_ready (rs := [1]) (by kernel_rfl) (by simp) ?_
  refine AllReadyH.cons (o := { dst := some 6, op := .call { callee := .value (.func 29), args := #[.tmp 5], argTypes := #[30] }, type := 56, pos := "msg.go:178", after := #[{ on := 0, ground := .data }], guard := none }) rfl (fun K hK => ?_) AllReadyH.nil
  go_simp
  apply Calls.mono (HCO.out _); rintro e w1 ⟨rfl, hb1⟩; have hi1 := HI0.out.step hb1; have hs1 := HALL.out _ hi1
  refine hK.out _ _ hs1 (fun hHeld => ?_)
  clear hK K
  try simp only [Act.put, List.setIfInBounds_toArray, List.set_cons_zero, List.set_cons_succ]
  refine wpAnyH_ready (rs := [3]) (by kernel_rfl) (by simp) ?_
  refine AllReadyH.cons (o := { dst := some 8, op := .call { callee := .value (.func 29), args := #[.tmp 7], argTypes := #[30] }, type := 56, pos := "msg.go:178", after := #[{ on := 2, ground := .data }, { on := 1, ground := .chain }], guard := none }) rfl (fun K hK => ?_) AllReadyH.nil
  go_simp
  apply Calls.mono (HCO'.out _); rintro e w2 ⟨rfl, hb2⟩; have hi2 := hi1.step hb2; have hs2 := HALL.out _ hi2
  refine hK.out _ _ hs2 (fun hHeld => ?_)
  clear hK K
  try simp only [Act.put, List.setIfInBounds_toArray, List.set_cons_zero, List.set_cons_succ]
  have HI2 := Lib.hid hi2
  clear hi1 hi2 hb1 hb2
  refine wpAnyH_take (i := 4) (oi := { dst := some 9, op := .binOp .eql 56 (.tmp 6) (.tmp 8) 56, type := 4, pos := "msg.go:178", after := #[{ on := 1, ground := .data }, { on := 3, ground := .data }], guard := none }) (v := .bool false) rfl (by kernel_rfl) (by kernel_rfl) (by kernel_rfl) (fun _ _ _ h => h) (Or.inl ⟨by rfl, ?_⟩) (by assumption) ?_
  · intro w hSw
    try dsimp only at hSw
    go_simp
  try simp only [Act.put, List.setIfInBounds_toArray, List.set_cons_zero, List.set_cons_succ]
  refine wpAnyH_take (i := 5) (oi := { dst := some 10, op := .move (.tmp 9), type := 4, pos := "msg.go:178", after := #[{ on := 4, ground := .data }, { on := 3, ground := .chain }], guard := none }) (v := .bool false) rfl (by kernel_rfl) (by kernel_rfl) (by kernel_rfl) (fun _ _ _ h => h) (Or.inl ⟨by rfl, ?_⟩) (by assumption) ?_
  · intro w hSw
    try dsimp only at hSw
    go_simp
  try simp only [Act.put, List.setIfInBounds_toArray, List.set_cons_zero, List.set_cons_succ]
  refine wpAnyH_take (i := 6) (oi := { dst := some 11, op := .fieldAddr 30 (.tmp 2) 4, type := 0, pos := "msg.go:178", after := #[{ on := 5, ground := .guard }], guard := some (5, true) }) (v := undef) rfl (by kernel_rfl) (by kernel_rfl) (by kernel_rfl) (fun _ _ _ h => h) (Or.inr ⟨by rfl, rfl⟩) (by assumption) ?_
  try simp only [Act.put, List.setIfInBounds_toArray, List.set_cons_zero, List.set_cons_succ]
  refine wpAnyH_take (i := 8) (oi := { dst := some 13, op := .fieldAddr 30 (.tmp 3) 4, type := 0, pos := "msg.go:178", after := #[{ on := 5, ground := .guard }], guard := some (5, true) }) (v := undef) rfl (by kernel_rfl) (by kernel_rfl) (by kernel_rfl) (fun _ _ _ h => h) (Or.inr ⟨by rfl, rfl⟩) (by assumption) ?_
  try simp only [Act.put, List.setIfInBounds_toArray, List.set_cons_zero, List.set_cons_succ]
  refine wpAnyH_take (i := 7) (oi := { dst := some 12, op := .load 25 (.tmp 11), type := 25, pos := "msg.go:178", after := #[{ on := 6, ground := .data }, { on := 5, ground := .guard }], guard := some (5, true) }) (v := undef) rfl (by kernel_rfl) (by kernel_rfl) (by kernel_rfl) (fun _ _ _ h => h) (Or.inr ⟨by rfl, rfl⟩) (by assumption) ?_
  try simp only [Act.put, List.setIfInBounds_toArray, List.set_cons_zero, List.set_cons_succ]
  refine wpAnyH_take (i := 9) (oi := { dst := some 14, op := .load 25 (.tmp 13), type := 25, pos := "msg.go:178", after := #[{ on := 8, ground := .data }, { on := 5, ground := .guard }], guard := some (5, true) }) (v := undef) rfl (by kernel_rfl) (by kernel_rfl) (by kernel_rfl) (fun _ _ _ h => h) (Or.inr ⟨by rfl, rfl⟩) (by assumption) ?_
  try simp only [Act.put, List.setIfInBounds_toArray, List.set_cons_zero, List.set_cons_succ]
  refine wpAnyH_take (i := 10) (oi := { dst := some 15, op := .call { callee := .value (.func 33), args := #[.tmp 12, .tmp 14], argTypes := #[25, 25] }, type := 4, pos := "msg.go:178", after := #[{ on := 7, ground := .data }, { on := 9, ground := .data }, { on := 5, ground := .chain }, { on := 5, ground := .guard }], guard := some (5, true) }) (v := undef) rfl (by kernel_rfl) (by kernel_rfl) (by kernel_rfl) (fun _ _ _ h => h) (Or.inr ⟨by rfl, rfl⟩) (by assumption) ?_
  try simp only [Act.put, List.setIfInBounds_toArray, List.set_cons_zero, List.set_cons_succ]
  refine wpAnyH_take (i := 11) (oi := { dst := some 16, op := .pick (.tmp 10) (.tmp 15) (.const (.bool false)), type := 4, pos := "msg.go:178", after := #[{ on := 5, ground := .data }, { on := 10, ground := .data }], guard := none }) (v := .bool false) rfl (by kernel_rfl) (by kernel_rfl) (by kernel_rfl) (fun _ _ _ h => h) (Or.inl ⟨by rfl, ?_⟩) (by assumption) ?_
  · intro w hSw
    try dsimp only at hSw
    go_simp
  try simp only [Act.put, List.setIfInBounds_toArray, List.set_cons_zero, List.set_cons_succ]
  refine wpAnyH_take (i := 12) (oi := { dst := some 17, op := .move (.tmp 16), type := 4, pos := "msg.go:178", after := #[{ on := 11, ground := .data }, { on := 10, ground := .chain }], guard := none }) (v := .bool false) rfl (by kernel_rfl) (by kernel_rfl) (by kernel_rfl) (fun _ _ _ h => h) (Or.inl ⟨by rfl, ?_⟩) (by assumption) ?_
  · intro w hSw
    try dsimp only at hSw
    go_simp
  try simp only [Act.put, List.setIfInBounds_toArray, List.set_cons_zero, List.set_cons_succ]
  refine wpAnyH_take (i := 13) (oi := { dst := some 18, op := .fieldAddr 30 (.tmp 2) 5, type := 0, pos := "msg.go:178", after := #[{ on := 12, ground := .guard }], guard := some (12, true) }) (v := undef) rfl (by kernel_rfl) (by kernel_rfl) (by kernel_rfl) (fun _ _ _ h => h) (Or.inr ⟨by rfl, rfl⟩) (by assumption) ?_
  try simp only [Act.put, List.setIfInBounds_toArray, List.set_cons_zero, List.set_cons_succ]
  refine wpAnyH_take (i := 15) (oi := { dst := some 20, op := .fieldAddr 30 (.tmp 3) 5, type := 0, pos := "msg.go:178", after := #[{ on := 12, ground := .guard }], guard := some (12, true) }) (v := undef) rfl (by kernel_rfl) (by kernel_rfl) (by kernel_rfl) (fun _ _ _ h => h) (Or.inr ⟨by rfl, rfl⟩) (by assumption) ?_
  try simp only [Act.put, List.setIfInBounds_toArray, List.set_cons_zero, List.set_cons_succ]
  refine wpAnyH_take (i := 14) (oi := { dst := some 19, op := .load 26 (.tmp 18), type := 26, pos := "msg.go:178", after := #[{ on := 13, ground := .data }, { on := 12, ground := .guard }], guard := some (12, true) }) (v := undef) rfl (by kernel_rfl) (by kernel_rfl) (by kernel_rfl) (fun _ _ _ h => h) (Or.inr ⟨by rfl, rfl⟩) (by assumption) ?_
  try simp only [Act.put, List.setIfInBounds_toArray, List.set_cons_zero, List.set_cons_succ]
  refine wpAnyH_take (i := 16) (oi := { dst := some 21, op := .load 26 (.tmp 20), type := 26, pos := "msg.go:178", after := #[{ on := 15, ground := .data }, { on := 12, ground := .guard }], guard := some (12, true) }) (v := undef) rfl (by kernel_rfl) (by kernel_rfl) (by kernel_rfl) (fun _ _ _ h => h) (Or.inr ⟨by rfl, rfl⟩) (by assumption) ?_
  try simp only [Act.put, List.setIfInBounds_toArray, List.set_cons_zero, List.set_cons_succ]
  refine wpAnyH_take (i := 17) (oi := { dst := some 22, op := .call { callee := .value (.func 32), args := #[.tmp 19, .tmp 21], argTypes := #[26, 26] }, type := 4, pos := "msg.go:178", after := #[{ on := 14, ground := .data }, { on := 16, ground := .data }, { on := 12, ground := .chain }, { on := 12, ground := .guard }], guard := some (12, true) }) (v := undef) rfl (by kernel_rfl) (by kernel_rfl) (by kernel_rfl) (fun _ _ _ h => h) (Or.inr ⟨by rfl, rfl⟩) (by assumption) ?_
  try simp only [Act.put, List.setIfInBounds_toArray, List.set_cons_zero, List.set_cons_succ]
  refine wpAnyH_take (i := 18) (oi := { dst := some 23, op := .pick (.tmp 17) (.tmp 22) (.const (.bool false)), type := 4, pos := "msg.go:178", after := #[{ on := 12, ground := .data }, { on := 17, ground := .data }], guard := none }) (v := .bool false) rfl (by kernel_rfl) (by kernel_rfl) (by kernel_rfl) (fun _ _ _ h => h) (Or.inl ⟨by rfl, ?_⟩) (by assumption) ?_
  · intro w hSw
    try dsimp only at hSw
    go_simp
  try simp only [Act.put, List.setIfInBounds_toArray, List.set_cons_zero, List.set_cons_succ]
  refine wpAnyH_take (i := 19) (oi := { dst := some 4, op := .assign (.tmp 23), type := 4, pos := "msg.go:178", after := #[{ on := 18, ground := .data }, { on := 17, ground := .chain }, { on := 0, ground := .phase }, { on := 1, ground := .phase }, { on := 2, ground := .phase }, { on := 3, ground := .phase }, { on := 4, ground := .phase }, { on := 5, ground := .phase }, { on := 6, ground := .phase }, { on := 7, ground := .phase }, { on := 8, ground := .phase }, { on := 9, ground := .phase }, { on := 10, ground := .phase }, { on := 11, ground := .phase }, { on := 12, ground := .phase }, { on := 13, ground := .phase }, { on := 14, ground := .phase }, { on := 15, ground := .phase }, { on := 16, ground := .phase }, { on := 17, ground := .phase }, { on := 18, ground := .phase }], guard := none }) (v := .bool false) rfl (by kernel_rfl) (by kernel_rfl) (by kernel_rfl) (fun _ _ _ h => h) (Or.inl ⟨by rfl, ?_⟩) (by assumption) ?_
  · intro w hSw
    try dsimp only at hSw
    go_simp
  try simp only [Act.put, List.setIfInBounds_toArray, List.set_cons_zero, List.set_cons_succ]
  refine wpAnyH_done (by kernel_rfl) ?_ _
  go_wp2_with fail
  go_ret
  exact ⟨rfl, HI2.out.1⟩

set_option maxHeartbeats 2000000 in
set_option maxRecDepth 100000 in
theorem same_reply_yes (c : Core) (an ad bn bd : Option Addr) (cn cd dn dd : Nat) (ns : List (List Int)) (d : List Int) (w : World) (hn : c.name = List.replicate 16 0) (hg : goodLits c)
    (hN : isNames w 16 (.slice an ns.length cn) ns) (hN' : isNames w 16 (.slice bn ns.length dn) ns) (hD : isRow w .u8 (.slice ad d.length cd) d) (hD' : isRow w .u8 (.slice bd d.length dd) d) (hs : ns.length ≤ 9223372036854775807) (hNb : ∀ n ∈ ns, isByte n) (hDb : isByte d) :
    Calls Try.prog 18 #[.agg (replyCells c (.slice an ns.length cn) (.slice ad d.length cd)).toArray, .agg (replyCells c (.slice bn ns.length dn) (.slice bd d.length dd)).toArray] w fun e w' => e = .returned (.bool true) ∧ Below w.heap.size w w' := by
  have HCO := Lib.hid (fun W => reply_core_calls c (.slice an ns.length cn) (.slice ad d.length cd) W hn)
  have HCO' := Lib.hid (fun W => reply_core_calls c (.slice bn ns.length dn) (.slice bd d.length dd) W hn)
  have hq : ∀ w' : World, (coreEq (.agg (coreCells c).toArray) (.agg (coreCells c).toArray)).run Try.prog w' = .ok true w' := fun w' => by
    rw [← coreEq_eq, core_equal w' hg hg, decide_eq_true rfl]
  have HALL := Lib.hid (fun (u : World) (h : sameReplyInv w (replyCells c (.slice an ns.length cn) (.slice ad d.length cd)).toArray (replyCells c (.slice bn ns.length dn) (.slice bd d.length dd)).toArray u) => h.reads)
  have HI0 := Lib.hid (sameReplyInv.start w (replyCells c (.slice an ns.length cn) (.slice ad d.length cd)).toArray (replyCells c (.slice bn ns.length dn) (.slice bd d.length dd)).toArray)
  have HNE := Lib.hid (fun (u : World) (hb : Below w.heap.size w u) => names_equal_calls _ _ ns ns u (hN.below hb (Nat.le_refl _)) (hN'.below hb (Nat.le_refl _)) hs hs hNb hNb)
  have HBE := Lib.hid (fun (u : World) (hb : Below w.heap.size w u) => bytes_equal_calls _ _ d d u (hD.below hb (Nat.le_refl _)) (hD'.below hb (Nat.le_refl _)) hDb hDb)
  rw [decide_eq_true (rfl : ns = ns)] at HNE
  rw [decide_eq_true (rfl : d = d)] at HBE
  clear hg hn hN hN' hD hD' hs hNb hDb
  obtain ⟨cs1, h1⟩ : ∃ cs, cs = (replyCells c (.slice an ns.length cn) (.slice ad d.length cd)).toArray := ⟨_, rfl⟩
  obtain ⟨cs2, h2⟩ : ∃ cs, cs = (replyCells c (.slice bn ns.length dn) (.slice bd d.length dd)).toArray := ⟨_, rfl⟩
  rw [← h1, ← h2] at HALL HI0 ⊢
  rw [← h1] at HCO
  rw [← h2] at HCO'
  clear h1 h2
  obtain ⟨k1, h3⟩ : ∃ cs, cs = (coreCells c).toArray := ⟨_, rfl⟩
  rw [← h3] at HCO HCO' hq
  clear h3
  go_enter Try.func18, Try.ntmps18
  go_upto_region 1 with (fail)
  first | (go_region_held3 (fun w' => (loadRep (.pointer (some ⟨w.heap.size, 0, none⟩))).run Try.prog w' = .ok (.agg cs1) w' ∧ w'.cell? ⟨w.heap.size, 4, none⟩ = some (.slice an ns.length cn) ∧ w'.cell? ⟨w.heap.size, 5, none⟩ = some (.slice ad d.length cd) ∧ (loadRep (.pointer (some ⟨w.heap.size + 1, 0, none⟩))).run Try.prog w' = .ok (.agg cs2) w' ∧ w'.cell? ⟨w.heap.size + 1, 4, none⟩ = some (.slice bn ns.length dn) ∧ w'.cell? ⟨w.heap.size + 1, 5, none⟩ = some (.slice bd d.length dd))
    (first | with_reducible exact hs4 | with_reducible exact hs3 | with_reducible exact hs2 | with_reducible exact hs1 | with_reducible exact HALL.out _ HI0.out | go_keep)
    (first
      | (have tok := hi1; clear tok; go_simp; go_at_call 29; (apply Calls.mono (HCO'.out _); rintro e w2 ⟨rfl, hb2⟩; have hi2 := hi1.step hb2; have hs2 := HALL.out _ hi2))
      | (go_simp; go_at_call 29; (apply Calls.mono (HCO.out _); rintro e w1 ⟨rfl, hb1⟩; have hi1 := HI0.out.step hb1; have hs1 := HALL.out _ hi1))
      | (go_simp; go_at_call 33; (apply Calls.mono (HNE.out _ hi2.1); rintro e w3 ⟨rfl, hb3⟩; have hi3 := hi2.step hb3; have hs3 := HALL.out _ hi3))
      | (go_simp; go_at_call 32; (apply Calls.mono (HBE.out _ hi3.1); rintro e w4 ⟨rfl, hb4⟩; subst hb4; have hs4 := hs3)))) | fail "region"
  have HI3 := Lib.hid hi3
  clear hi1 hi2 hi3 hs1 hs2 hs3 hs4 hb1 hb2 hb3
  go_wp2_with fail
  go_ret
  exact ⟨rfl, HI3.out.1⟩
end Go.Proofs.Ytpacfijkhhjfeaa
