/- msg.PutRequest, msg.PutReply. -/
import Derived.Test.YtpacfijkhhjfeaaMsgTail
import Derived.Deep.RegionHeld3
namespace Go.Proofs.Ytpacfijkhhjfeaa
set_option linter.unusedVariables false
set_option linter.unusedSimpArgs false
open Go.RowKit

/-- a whole Request, a whole Reply, as it is read out of a block -/
@[irreducible] noncomputable def loadReq (x : Value) : Sem Value := Instr.loadAt 28 x
@[irreducible] noncomputable def loadRep (x : Value) : Sem Value := Instr.loadAt 30 x
theorem loadReq_eq (x : Value) : Instr.loadAt 28 x = loadReq x := by unfold loadReq; rfl
theorem loadRep_eq (x : Value) : Instr.loadAt 30 x = loadRep x := by unfold loadRep; rfl
attribute [local go_sem ↓] loadReq_eq loadRep_eq

theorem size_request : (Try.prog.info? 28).map (·.size) = some 22 := by kernel_rfl
theorem size_reply : (Try.prog.info? 30).map (·.size) = some 6 := by kernel_rfl

theorem rangeAt_of_cells {w : World} {b : Nat} {cs : Array Value} {t : TypeId} {fr : Nat × Nat} (hb : w.heap[b]? = some (.cells cs t fr)) : w.rangeAt b 0 cs.toList := fun j v hj => by
  rw [cell_of_row _ _ _ _ _ _ hb]
  simpa using hj

theorem loadReq_of {u : World} {b : Nat} {cs : Array Value} {t : TypeId} {fr : Nat × Nat} (h : u.heap[b]? = some (.cells cs t fr)) (hs : cs.size = 22) : (loadReq (.pointer (some ⟨b, 0, none⟩))).run Try.prog u = .ok (.agg cs) u := by
  unfold loadReq
  have := run_loadAt_mid (P := Try.prog) u b 0 28 cs.toList _ (rangeAt_of_cells h) Try.underlying28 rfl (by rw [Array.length_toList, hs]; exact size_request)
  simpa using this
theorem loadRep_of {u : World} {b : Nat} {cs : Array Value} {t : TypeId} {fr : Nat × Nat} (h : u.heap[b]? = some (.cells cs t fr)) (hs : cs.size = 6) : (loadRep (.pointer (some ⟨b, 0, none⟩))).run Try.prog u = .ok (.agg cs) u := by
  unfold loadRep
  have := run_loadAt_mid (P := Try.prog) u b 0 30 cs.toList _ (rangeAt_of_cells h) Try.underlying30 rfl (by rw [Array.length_toList, hs]; exact size_reply)
  simpa using this

theorem requestCells_size (c : Core) (vn vd : Value) (hn : c.name.length = 16) : (requestCells c vn vd).toArray.size = 22 := by simp [requestCells, hn]
theorem requestCells_20 (c : Core) (vn vd : Value) (hn : c.name.length = 16) : (requestCells c vn vd).toArray[20]? = some vn := by
  obtain ⟨c1, c2, c3, c4, nm⟩ := c
  obtain ⟨n0, n1, n2, n3, n4, n5, n6, n7, n8, n9, n10, n11, n12, n13, n14, n15, rfl⟩ := sixteen hn
  rfl
theorem requestCells_21 (c : Core) (vn vd : Value) (hn : c.name.length = 16) : (requestCells c vn vd).toArray[21]? = some vd := by
  obtain ⟨c1, c2, c3, c4, nm⟩ := c
  obtain ⟨n0, n1, n2, n3, n4, n5, n6, n7, n8, n9, n10, n11, n12, n13, n14, n15, rfl⟩ := sixteen hn
  rfl

/-- what is read of a Request's block -/
theorem request_read {c : Core} {vn vd : Value} (hn : c.name.length = 16) {u : World} {g : Nat} {fr : Nat × Nat} (h : u.heap[g]? = some (.cells (requestCells c vn vd).toArray 28 fr)) :
    (loadReq (.pointer (some ⟨g, 0, none⟩))).run Try.prog u = .ok (.agg (requestCells c vn vd).toArray) u ∧ u.cell? ⟨g, 20, none⟩ = some vn ∧ u.cell? ⟨g, 21, none⟩ = some vd :=
  ⟨loadReq_of h (requestCells_size c vn vd hn), by rw [cell_of_row _ _ _ _ _ _ h, requestCells_20 c vn vd hn], by rw [cell_of_row _ _ _ _ _ _ h, requestCells_21 c vn vd hn]⟩

theorem reply_read {c : Core} {vn vd : Value} {u : World} {g : Nat} {fr : Nat × Nat} (h : u.heap[g]? = some (.cells (replyCells c vn vd).toArray 30 fr)) :
    (loadRep (.pointer (some ⟨g, 0, none⟩))).run Try.prog u = .ok (.agg (replyCells c vn vd).toArray) u ∧ u.cell? ⟨g, 4, none⟩ = some vn ∧ u.cell? ⟨g, 5, none⟩ = some vd :=
  ⟨loadRep_of h rfl, by rw [cell_of_row _ _ _ _ _ _ h]; rfl, by rw [cell_of_row _ _ _ _ _ _ h]; rfl⟩

/-- what a Put comes to: bytes and OK, or nothing and ErrArg -/
def putOk (b : Bool) (l : List Int) (w : World) (e : Ending) (w' : World) : Prop :=
  Below w.heap.size w w' ∧ if b = true then ∃ v', e = .returned (.tuple #[v', .int .i64 0]) ∧ owns w' w.heap.size v' l else e = .returned (.tuple #[.slice none 0 0, .int .i64 2])

theorem headL_length (c : Core) (named : Bool) : (headL c named).length = 18 + (if named then c.name.length else 0) := by
  cases named <;> simp [headL, numBytes_length] <;> omega

theorem headL_byte {c : Core} (named : Bool) (hc : 0 ≤ c.client ∧ c.client ≤ 255 ∧ 0 ≤ c.kind ∧ c.kind ≤ 255) (hn : isByte c.name) : isByte (headL c named) := by
  unfold headL
  refine (((isByte.append (isByte.append (isByte.cons ⟨hc.1, hc.2.1⟩ isByte.nil) (numBytes_byte _ _)) (isByte.cons ⟨hc.2.2.1, hc.2.2.2⟩ isByte.nil)).append ?_).append (numBytes_byte _ _))
  cases named
  · exact isByte.nil
  · exact hn

theorem tailL_length {l : List Int} {ns : List (List Int)} {d : List Int} (h : ∀ n ∈ ns, n.length = 16) : (tailL l ns d).length = l.length + 6 + ns.length * 16 + d.length := by
  simp [tailL, numBytes_length, flat_length h]; omega

theorem flat_byte : ∀ {ns : List (List Int)}, (∀ n ∈ ns, isByte n) → isByte ns.flatten
  | [], _ => isByte.nil
  | n :: r, h => by
    rw [List.flatten_cons]
    exact (h n (List.mem_cons_self ..)).append (flat_byte fun m hm => h m (List.mem_cons_of_mem _ hm))

theorem tailL_byte {l : List Int} {ns : List (List Int)} {d : List Int} (hl : isByte l) (hns : ∀ n ∈ ns, isByte n) (hd : isByte d) : isByte (tailL l ns d) :=
  (((hl.append (numBytes_byte _ _)).append (flat_byte hns)).append (numBytes_byte _ _)).append hd

theorem mayBe_bd {c : Core} {lo hi : Int} {n m : Nat} (h : mayBe c lo hi n m = true) : 1 ≤ c.client ∧ c.client ≤ 255 ∧ lo ≤ c.kind ∧ c.kind ≤ hi ∧ n ≤ 128 ∧ m ≤ 8192 := by
  unfold mayBe at h
  exact of_decide_eq_true h

set_option maxHeartbeats 1000000 in
set_option maxRecDepth 100000 in
theorem put_request_no (c : Core) (an ad : Option Addr) (cn cd : Nat) (ns : List (List Int)) (d : List Int) (w : World) (hn : Hid (c.name.length = 16)) (hl : Hid (ns.length ≤ 9223372036854775807 ∧ d.length ≤ 9223372036854775807)) (hm : Hid (mayBe c 1 6 ns.length d.length = false)) :
    Calls Try.prog 6 #[.agg (requestCells c (.slice an ns.length cn) (.slice ad d.length cd)).toArray] w fun e w' => e = .returned (.tuple #[.slice none 0 0, .int .i64 2]) ∧ Below w.heap.size w w' := by
  have hblk := heap_alloc_new w (.cells (requestCells c (.slice an ns.length cn) (.slice ad d.length cd)).toArray 28)
  have HBK := Lib.hid hblk
  have HCO := Lib.hid (fun W => request_core_calls c (.slice an ns.length cn) (.slice ad d.length cd) W hn.out)
  have HALL := Lib.hid (fun u : World => request_read (c := c) (vn := .slice an ns.length cn) (vd := .slice ad d.length cd) hn.out (u := u) (g := w.heap.size) (fr := (0, 0)))
  clear hblk
  obtain ⟨cs, hcs⟩ : ∃ cs, cs = (requestCells c (.slice an ns.length cn) (.slice ad d.length cd)).toArray := ⟨_, rfl⟩
  rw [← hcs] at HBK HCO HALL ⊢
  clear hcs
  go_enter Try.func6, Try.ntmps6
  go_wp2_with fail
  go_region_held3 (fun w' => (loadReq (.pointer (some ⟨w.heap.size, 0, none⟩))).run Try.prog w' = .ok (.agg cs) w' ∧ w'.cell? ⟨w.heap.size, 20, none⟩ = some (.slice an ns.length cn) ∧ w'.cell? ⟨w.heap.size, 21, none⟩ = some (.slice ad d.length cd))
    (first | exact hs2 | exact hs1 | exact HALL.out _ HBK.out | go_keep)
    (first
      | (go_simp; go_at_call 19; (apply Calls.mono (HCO.out _); rintro e w1 ⟨rfl, hb1⟩; have hx1 := (hb1.block w.heap.size (by simp)).trans HBK.out; have hs1 := HALL.out _ hx1; have hsz1 := hb1.size))
      | (go_simp; go_at_call 20; (apply Calls.mono (may_calls c 1 6 an ad ns.length cn d.length cd _ (by have := hl.out; omega) (by have := hl.out; omega)); rintro e w2 ⟨rfl, hb2⟩; rw [hm.out]; have hx2 := (hb2.block w.heap.size (Nat.lt_of_lt_of_le (by simp) hsz1)).trans hx1; have hs2 := HALL.out _ hx2)))
  have h0s : w.heap.size + 1 ≤ w1.heap.size := Nat.le_trans (by simp) hsz1
  have hb12 : Below (w.heap.size + 1) w1 w2 := hb2.mono h0s
  have hB2 : Below w.heap.size w w2 := ((Below.refl w.heap.size w).alloc (Nat.le_refl _) _).drew.trans ((hb1.mono (by simp)).trans (hb12.mono (Nat.le_succ _)))
  have HB2 := Lib.hid hB2
  have HX2 := Lib.hid hx2
  have h2s : w.heap.size + 1 ≤ w2.heap.size := Nat.le_trans h0s hb2.size
  clear hb1 hx1 hs1 hsz1 hb2 hx2 hs2 hb12 hB2
  go_wp2_with fail
  go_ret2
  exact ⟨rfl, HB2.out⟩

set_option maxHeartbeats 1000000 in
set_option maxRecDepth 100000 in
theorem put_request_yes (c : Core) (an ad : Option Addr) (cn cd : Nat) (ns : List (List Int)) (d : List Int) (w : World) (hn : Hid (c.name.length = 16)) (hl : Hid (ns.length ≤ 9223372036854775807 ∧ d.length ≤ 9223372036854775807)) (hid : Hid (0 ≤ c.id ∧ c.id ≤ 18446744073709551615)) (hgen : Hid (0 ≤ c.gen ∧ c.gen ≤ 18446744073709551615)) (hN : Hid (isNames w 16 (.slice an ns.length cn) ns)) (hD : Hid (isRow w .u8 (.slice ad d.length cd) d)) (hdn : Hid (NilOk (.slice ad d.length cd))) (hnb : Hid (isByte c.name)) (hNb : Hid (∀ n ∈ ns, isByte n)) (hDb : Hid (isByte d)) (hm : Hid (mayBe c 1 6 ns.length d.length = true)) :
    Calls Try.prog 6 #[.agg (requestCells c (.slice an ns.length cn) (.slice ad d.length cd)).toArray] w fun e w' => ∃ v', e = .returned (.tuple #[v', .int .i64 0]) ∧ owns w' w.heap.size v' (frameL 1 (tailL (headL c true) ns d)) ∧ Below w.heap.size w w' := by
  have hblk := heap_alloc_new w (.cells (requestCells c (.slice an ns.length cn) (.slice ad d.length cd)).toArray 28)
  have HBK := Lib.hid hblk
  have HCO := Lib.hid (fun W => request_core_calls c (.slice an ns.length cn) (.slice ad d.length cd) W hn.out)
  have HALL := Lib.hid (fun u : World => request_read (c := c) (vn := .slice an ns.length cn) (vd := .slice ad d.length cd) hn.out (u := u) (g := w.heap.size) (fr := (0, 0)))
  clear hblk
  obtain ⟨cs, hcs⟩ : ∃ cs, cs = (requestCells c (.slice an ns.length cn) (.slice ad d.length cd)).toArray := ⟨_, rfl⟩
  rw [← hcs] at HBK HCO HALL ⊢
  clear hcs
  go_enter Try.func6, Try.ntmps6
  go_wp2_with fail
  go_region_held3 (fun w' => (loadReq (.pointer (some ⟨w.heap.size, 0, none⟩))).run Try.prog w' = .ok (.agg cs) w' ∧ w'.cell? ⟨w.heap.size, 20, none⟩ = some (.slice an ns.length cn) ∧ w'.cell? ⟨w.heap.size, 21, none⟩ = some (.slice ad d.length cd))
    (first | exact hs2 | exact hs1 | exact HALL.out _ HBK.out | go_keep)
    (first
      | (go_simp; go_at_call 19; (apply Calls.mono (HCO.out _); rintro e w1 ⟨rfl, hb1⟩; have hx1 := (hb1.block w.heap.size (by simp)).trans HBK.out; have hs1 := HALL.out _ hx1; have hsz1 := hb1.size))
      | (go_simp; go_at_call 20; (apply Calls.mono (may_calls c 1 6 an ad ns.length cn d.length cd _ (by have := hl.out; omega) (by have := hl.out; omega)); rintro e w2 ⟨rfl, hb2⟩; rw [hm.out]; have hx2 := (hb2.block w.heap.size (Nat.lt_of_lt_of_le (by simp) hsz1)).trans hx1; have hs2 := HALL.out _ hx2)))
  have h0s : w.heap.size + 1 ≤ w1.heap.size := Nat.le_trans (by simp) hsz1
  have hb12 : Below (w.heap.size + 1) w1 w2 := hb2.mono h0s
  have hB2 : Below w.heap.size w w2 := ((Below.refl w.heap.size w).alloc (Nat.le_refl _) _).drew.trans ((hb1.mono (by simp)).trans (hb12.mono (Nat.le_succ _)))
  have HB2 := Lib.hid hB2
  have HX2 := Lib.hid hx2
  have h2s : w.heap.size + 1 ≤ w2.heap.size := Nat.le_trans h0s hb2.size
  clear hb1 hx1 hs1 hsz1 hb2 hx2 hs2 hb12 hB2
  have hbd := mayBe_bd hm.out
  have hcl : (0 : Int) ≤ c.client ∧ c.client ≤ 255 ∧ 0 ≤ c.kind ∧ c.kind ≤ 255 := by omega
  have HCL := Lib.hid hcl
  have HLN := Lib.hid hbd.2.2.2.2
  clear hbd hcl
  go_wp2_with fail
  go_region_held3 (fun w' => (loadReq (.pointer (some ⟨w.heap.size, 0, none⟩))).run Try.prog w' = .ok (.agg cs) w' ∧ w'.cell? ⟨w.heap.size, 20, none⟩ = some (.slice an ns.length cn) ∧ w'.cell? ⟨w.heap.size, 21, none⟩ = some (.slice ad d.length cd))
    (first | exact hs6 | exact hs5 | exact hs4 | exact hs3 | exact HALL.out _ HX2.out | go_keep)
    (first
      | (go_simp; go_at_call 19; (apply Calls.mono (HCO.out _); rintro e w3 ⟨rfl, hb3⟩; have hx3 := (hb3.block w.heap.size h2s).trans HX2.out; have hs3 := HALL.out _ hx3; have hsz3 := Nat.le_trans h2s hb3.size; have hB3 := Lib.hid (HB2.out.drew.trans (hb3.mono (Nat.le_trans (Nat.le_succ _) h2s)))))
      | (go_simp; go_at_call 23; (apply Calls.mono (head_calls c true _ hn.out HCL hid hgen); rintro e w4 ⟨v4, rfl, ho4, hb4⟩; have hx4 := (hb4.block w.heap.size hsz3).trans hx3; have hs4 := HALL.out _ hx4; have hsz4 := Nat.le_trans hsz3 hb4.size; have hB4 := Lib.hid (hB3.out.trans (hb4.mono (Nat.le_trans (Nat.le_succ _) hsz3)))))
      | (go_simp; go_at_call 22; (apply Calls.mono (tail_calls v4 _ _ (headL c true) ns d _ ho4.row ho4.nilOk (hN.out.below hB4.out (Nat.le_refl _)) (hD.out.below hB4.out (Nat.le_refl _)) hdn.out (Lib.hid (by have := HLN.out; rw [headL_length]; simp [hn.out]; omega))); rintro e w5 ⟨v5, rfl, ho5, hb5⟩; have hx5 := (hb5.block w.heap.size hsz4).trans hx4; have hs5 := HALL.out _ hx5; have hsz5 := Nat.le_trans hsz4 hb5.size; have hB5 := Lib.hid (hB4.out.trans (hb5.mono (Nat.le_trans (Nat.le_succ _) hsz4)))))
      | (go_simp; go_at_call 21; (apply Calls.mono (frame_put_calls 1 v5 _ _ (by decide) (by decide) ho5.row ho5.nilOk (tailL_byte (headL_byte _ HCL.out hnb.out) hNb.out hDb.out) (by have h1 := HLN.out; have hn16 : ∀ n ∈ ns, n.length = 16 := (by obtain ⟨_, _, _, _, h, _⟩ := hN.out; exact h); rw [tailL_length hn16, headL_length]; simp [hn.out]; omega)); rintro e w6 ⟨v6, rfl, ho6, hb6⟩; have hx6 := (hb6.block w.heap.size hsz5).trans hx5; have hs6 := HALL.out _ hx6; have hB6 := Lib.hid (hB5.out.trans (hb6.mono (Nat.le_trans (Nat.le_succ _) hsz5))))))
  have HO6 := Lib.hid (owns.mono ho6 (Nat.le_trans (Nat.le_succ _) hsz5))
  clear hb3 hx3 hs3 hsz3 ho4 hb4 hx4 hs4 hsz4 ho5 hb5 hx5 hs5 hsz5 ho6 hb6 hx6 hs6
  go_wp2_with fail
  go_ret2
  exact ⟨_, rfl, HO6.out, hB6.out⟩

set_option maxHeartbeats 1000000 in
set_option maxRecDepth 100000 in
theorem put_reply_no (c : Core) (an ad : Option Addr) (cn cd : Nat) (ns : List (List Int)) (d : List Int) (w : World) (hn : Hid (c.name = List.replicate 16 0)) (hl : Hid (ns.length ≤ 9223372036854775807 ∧ d.length ≤ 9223372036854775807)) (hm : Hid (mayBe c 0 9 ns.length d.length = false)) :
    Calls Try.prog 9 #[.agg (replyCells c (.slice an ns.length cn) (.slice ad d.length cd)).toArray] w fun e w' => e = .returned (.tuple #[.slice none 0 0, .int .i64 2]) ∧ Below w.heap.size w w' := by
  have hblk := heap_alloc_new w (.cells (replyCells c (.slice an ns.length cn) (.slice ad d.length cd)).toArray 30)
  have HBK := Lib.hid hblk
  have HCO := Lib.hid (fun W => reply_core_calls c (.slice an ns.length cn) (.slice ad d.length cd) W hn.out)
  have HALL := Lib.hid (fun u : World => reply_read (c := c) (vn := .slice an ns.length cn) (vd := .slice ad d.length cd) (u := u) (g := w.heap.size) (fr := (0, 0)))
  clear hblk
  obtain ⟨cs, hcs⟩ : ∃ cs, cs = (replyCells c (.slice an ns.length cn) (.slice ad d.length cd)).toArray := ⟨_, rfl⟩
  rw [← hcs] at HBK HCO HALL ⊢
  clear hcs
  go_enter Try.func9, Try.ntmps9
  go_wp2_with fail
  go_region_held3 (fun w' => (loadRep (.pointer (some ⟨w.heap.size, 0, none⟩))).run Try.prog w' = .ok (.agg cs) w' ∧ w'.cell? ⟨w.heap.size, 4, none⟩ = some (.slice an ns.length cn) ∧ w'.cell? ⟨w.heap.size, 5, none⟩ = some (.slice ad d.length cd))
    (first | exact hs2 | exact hs1 | exact HALL.out _ HBK.out | go_keep)
    (first
      | (go_simp; go_at_call 29; (apply Calls.mono (HCO.out _); rintro e w1 ⟨rfl, hb1⟩; have hx1 := (hb1.block w.heap.size (by simp)).trans HBK.out; have hs1 := HALL.out _ hx1; have hsz1 := hb1.size))
      | (go_simp; go_at_call 20; (apply Calls.mono (may_calls c 0 9 an ad ns.length cn d.length cd _ (by have := hl.out; omega) (by have := hl.out; omega)); rintro e w2 ⟨rfl, hb2⟩; rw [hm.out]; have hx2 := (hb2.block w.heap.size (Nat.lt_of_lt_of_le (by simp) hsz1)).trans hx1; have hs2 := HALL.out _ hx2)))
  have h0s : w.heap.size + 1 ≤ w1.heap.size := Nat.le_trans (by simp) hsz1
  have hb12 : Below (w.heap.size + 1) w1 w2 := hb2.mono h0s
  have hB2 : Below w.heap.size w w2 := ((Below.refl w.heap.size w).alloc (Nat.le_refl _) _).drew.trans ((hb1.mono (by simp)).trans (hb12.mono (Nat.le_succ _)))
  have HB2 := Lib.hid hB2
  have HX2 := Lib.hid hx2
  have h2s : w.heap.size + 1 ≤ w2.heap.size := Nat.le_trans h0s hb2.size
  clear hb1 hx1 hs1 hsz1 hb2 hx2 hs2 hb12 hB2
  go_wp2_with fail
  go_ret2
  exact ⟨rfl, HB2.out⟩

set_option maxHeartbeats 1000000 in
set_option maxRecDepth 100000 in
theorem put_reply_yes (c : Core) (an ad : Option Addr) (cn cd : Nat) (ns : List (List Int)) (d : List Int) (w : World) (hn : Hid (c.name = List.replicate 16 0)) (hl : Hid (ns.length ≤ 9223372036854775807 ∧ d.length ≤ 9223372036854775807)) (hid : Hid (0 ≤ c.id ∧ c.id ≤ 18446744073709551615)) (hgen : Hid (0 ≤ c.gen ∧ c.gen ≤ 18446744073709551615)) (hN : Hid (isNames w 16 (.slice an ns.length cn) ns)) (hD : Hid (isRow w .u8 (.slice ad d.length cd) d)) (hdn : Hid (NilOk (.slice ad d.length cd))) (hnb : Hid (isByte c.name)) (hNb : Hid (∀ n ∈ ns, isByte n)) (hDb : Hid (isByte d)) (hm : Hid (mayBe c 0 9 ns.length d.length = true)) :
    Calls Try.prog 9 #[.agg (replyCells c (.slice an ns.length cn) (.slice ad d.length cd)).toArray] w fun e w' => ∃ v', e = .returned (.tuple #[v', .int .i64 0]) ∧ owns w' w.heap.size v' (frameL 2 (tailL (headL c false) ns d)) ∧ Below w.heap.size w w' := by
  have hblk := heap_alloc_new w (.cells (replyCells c (.slice an ns.length cn) (.slice ad d.length cd)).toArray 30)
  have HBK := Lib.hid hblk
  have HCO := Lib.hid (fun W => reply_core_calls c (.slice an ns.length cn) (.slice ad d.length cd) W hn.out)
  have HALL := Lib.hid (fun u : World => reply_read (c := c) (vn := .slice an ns.length cn) (vd := .slice ad d.length cd) (u := u) (g := w.heap.size) (fr := (0, 0)))
  clear hblk
  obtain ⟨cs, hcs⟩ : ∃ cs, cs = (replyCells c (.slice an ns.length cn) (.slice ad d.length cd)).toArray := ⟨_, rfl⟩
  rw [← hcs] at HBK HCO HALL ⊢
  clear hcs
  go_enter Try.func9, Try.ntmps9
  go_wp2_with fail
  go_region_held3 (fun w' => (loadRep (.pointer (some ⟨w.heap.size, 0, none⟩))).run Try.prog w' = .ok (.agg cs) w' ∧ w'.cell? ⟨w.heap.size, 4, none⟩ = some (.slice an ns.length cn) ∧ w'.cell? ⟨w.heap.size, 5, none⟩ = some (.slice ad d.length cd))
    (first | exact hs2 | exact hs1 | exact HALL.out _ HBK.out | go_keep)
    (first
      | (go_simp; go_at_call 29; (apply Calls.mono (HCO.out _); rintro e w1 ⟨rfl, hb1⟩; have hx1 := (hb1.block w.heap.size (by simp)).trans HBK.out; have hs1 := HALL.out _ hx1; have hsz1 := hb1.size))
      | (go_simp; go_at_call 20; (apply Calls.mono (may_calls c 0 9 an ad ns.length cn d.length cd _ (by have := hl.out; omega) (by have := hl.out; omega)); rintro e w2 ⟨rfl, hb2⟩; rw [hm.out]; have hx2 := (hb2.block w.heap.size (Nat.lt_of_lt_of_le (by simp) hsz1)).trans hx1; have hs2 := HALL.out _ hx2)))
  have h0s : w.heap.size + 1 ≤ w1.heap.size := Nat.le_trans (by simp) hsz1
  have hb12 : Below (w.heap.size + 1) w1 w2 := hb2.mono h0s
  have hB2 : Below w.heap.size w w2 := ((Below.refl w.heap.size w).alloc (Nat.le_refl _) _).drew.trans ((hb1.mono (by simp)).trans (hb12.mono (Nat.le_succ _)))
  have HB2 := Lib.hid hB2
  have HX2 := Lib.hid hx2
  have h2s : w.heap.size + 1 ≤ w2.heap.size := Nat.le_trans h0s hb2.size
  clear hb1 hx1 hs1 hsz1 hb2 hx2 hs2 hb12 hB2
  have hbd := mayBe_bd hm.out
  have hcl : (0 : Int) ≤ c.client ∧ c.client ≤ 255 ∧ 0 ≤ c.kind ∧ c.kind ≤ 255 := by omega
  have HCL := Lib.hid hcl
  have HLN := Lib.hid hbd.2.2.2.2
  clear hbd hcl
  go_wp2_with fail
  go_region_held3 (fun w' => (loadRep (.pointer (some ⟨w.heap.size, 0, none⟩))).run Try.prog w' = .ok (.agg cs) w' ∧ w'.cell? ⟨w.heap.size, 4, none⟩ = some (.slice an ns.length cn) ∧ w'.cell? ⟨w.heap.size, 5, none⟩ = some (.slice ad d.length cd))
    (first | exact hs6 | exact hs5 | exact hs4 | exact hs3 | exact HALL.out _ HX2.out | go_keep)
    (first
      | (go_simp; go_at_call 29; (apply Calls.mono (HCO.out _); rintro e w3 ⟨rfl, hb3⟩; have hx3 := (hb3.block w.heap.size h2s).trans HX2.out; have hs3 := HALL.out _ hx3; have hsz3 := Nat.le_trans h2s hb3.size; have hB3 := Lib.hid (HB2.out.drew.trans (hb3.mono (Nat.le_trans (Nat.le_succ _) h2s)))))
      | (go_simp; go_at_call 23; (apply Calls.mono (head_calls c false _ (by rw [hn.out]; rfl) HCL hid hgen); rintro e w4 ⟨v4, rfl, ho4, hb4⟩; have hx4 := (hb4.block w.heap.size hsz3).trans hx3; have hs4 := HALL.out _ hx4; have hsz4 := Nat.le_trans hsz3 hb4.size; have hB4 := Lib.hid (hB3.out.trans (hb4.mono (Nat.le_trans (Nat.le_succ _) hsz3)))))
      | (go_simp; go_at_call 22; (apply Calls.mono (tail_calls v4 _ _ (headL c false) ns d _ ho4.row ho4.nilOk (hN.out.below hB4.out (Nat.le_refl _)) (hD.out.below hB4.out (Nat.le_refl _)) hdn.out (Lib.hid (by have := HLN.out; rw [headL_length]; simp [hn.out]; omega))); rintro e w5 ⟨v5, rfl, ho5, hb5⟩; have hx5 := (hb5.block w.heap.size hsz4).trans hx4; have hs5 := HALL.out _ hx5; have hsz5 := Nat.le_trans hsz4 hb5.size; have hB5 := Lib.hid (hB4.out.trans (hb5.mono (Nat.le_trans (Nat.le_succ _) hsz4)))))
      | (go_simp; go_at_call 21; (apply Calls.mono (frame_put_calls 2 v5 _ _ (by decide) (by decide) ho5.row ho5.nilOk (tailL_byte (headL_byte _ HCL.out hnb.out) hNb.out hDb.out) (by have h1 := HLN.out; have hn16 : ∀ n ∈ ns, n.length = 16 := (by obtain ⟨_, _, _, _, h, _⟩ := hN.out; exact h); rw [tailL_length hn16, headL_length]; simp [hn.out]; omega)); rintro e w6 ⟨v6, rfl, ho6, hb6⟩; have hx6 := (hb6.block w.heap.size hsz5).trans hx5; have hs6 := HALL.out _ hx6; have hB6 := Lib.hid (hB5.out.trans (hb6.mono (Nat.le_trans (Nat.le_succ _) hsz5))))))
  have HO6 := Lib.hid (owns.mono ho6 (Nat.le_trans (Nat.le_succ _) hsz5))
  clear hb3 hx3 hs3 hsz3 ho4 hb4 hx4 hs4 hsz4 ho5 hb5 hx5 hs5 hsz5 ho6 hb6 hx6 hs6
  go_wp2_with fail
  go_ret2
  exact ⟨_, rfl, HO6.out, hB6.out⟩

end Go.Proofs.Ytpacfijkhhjfeaa
