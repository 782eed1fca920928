/- msg.read. -/
import Derived.Test.YtpacfijkhhjfeaaMsgReadSpec
import Derived.Test.YtpacfijkhhjfeaaFrameRead
import Derived.Deep.CutBlock
import Derived.Deep.DeepCutAuto
import Derived.Deep.RegionHeld3
import Derived.Deep.AppendLies
import Derived.Laws.CopyRow
namespace Go.Proofs.Ytpacfijkhhjfeaa
set_option linter.unusedVariables false
set_option linter.unusedSimpArgs false
open Go.RowKit
variable {lo : Nat}

/-- v is a slice of the call's own, in blocks from B on, that holds the names ns -/
def ownsN (w : World) (B : Nat) (v : Value) (ns : List (List Int)) : Prop := w.ownsRow B 24 16 v ns.length (ns.flatten.map (Value.int .u8))

theorem ownsN.kept {w w' : World} {g : Nat} {v : Value} {ns : List (List Int)} (h : ownsN w (g + 1) v ns) (hg : w.grownBy w' (some g)) : ownsN w' (g + 1) v ns :=
  World.ownsRow.kept h hg (by
    cases hv : v.ownBlock with
    | none => exact Or.inl rfl
    | some k =>
      right
      have := (World.ownsRow.lt h k hv).1
      intro hh
      cases hh
      omega)

theorem flat_at : ∀ {ns : List (List Int)}, (∀ n ∈ ns, n.length = 16) → ∀ (i j : Nat), i < ns.length → j < 16 → ns.flatten[i * 16 + j]? = (ns.getD i [])[j]?
  | [], _, i, j, hi, _ => by simp at hi
  | n :: r, hn, 0, j, _, hj => by
    have hl := hn n (List.mem_cons_self ..)
    rw [List.flatten_cons, List.getElem?_append_left (by omega)]
    simp
  | n :: r, hn, i + 1, j, hi, hj => by
    have hl := hn n (List.mem_cons_self ..)
    rw [List.flatten_cons, List.getElem?_append_right (by omega), show (i + 1) * 16 + j - n.length = i * 16 + j from by omega,
      flat_at (fun m hm => hn m (List.mem_cons_of_mem _ hm)) i j (by simpa using hi) hj]
    simp

theorem info_name : (Try.prog.info? 24).map (fun i => (i.zero, i.size, i.bytes)) = some (some (.agg ((List.replicate 16 0).map (Value.int .u8)).toArray), 16, 16) := by kernel_rfl

/-- v lies in blocks from B on -/
def Fresh (B : Nat) (v : Value) : Prop := ∀ a n c, v = .slice (some a) n c → B ≤ a.block

theorem owns.fresh {w : World} {B B' : Nat} {v : Value} {l : List Int} (h : owns w B v l) (hB : B' ≤ B) : Fresh B' v := by
  intro a n c he
  rcases h.form with ⟨rfl, _⟩ | ⟨g, c', rfl, hg, _⟩
  · cases he
  · cases he; exact Nat.le_trans hB hg
theorem ownsN.fresh {w : World} {B B' : Nat} {v : Value} {ns : List (List Int)} (h : ownsN w B v ns) (hB : B' ≤ B) : Fresh B' v := by
  intro a n c he
  rcases h.2 with ⟨rfl, _⟩ | ⟨g, c', cur, rfl, hg, _⟩
  · cases he
  · cases he; exact Nat.le_trans hB hg

/-- behind a read -/
def ReadTold (w : World) (r : Core × List (List Int) × List Int) (e : Ending) (w' : World) : Prop :=
  ∃ vn vd, e = .returned (.tuple #[.agg (coreCells r.1).toArray, vn, vd]) ∧ isNames w' 16 vn r.2.1 ∧ isRow w' .u8 vd r.2.2 ∧ NilOk vd ∧ Below w.heap.size w w' ∧ Fresh w.heap.size vn ∧ Fresh w.heap.size vd

/-- while msg.read reads: the reader in block g, the core in block c -/
structure RInv (w : World) (c : Nat) (cs : Array Value) (g : Nat) (l : List Int) (e : Int) (wr : World) : Prop where
  rd : RdAt (c + 1) wr g l e
  core : wr.heap[c]? = some (.cells cs 56 (0, 0))
  below : Below w.heap.size w wr
  ge : w.heap.size ≤ c
  lt : c < g
  byte : isByte l
  len : l.length ≤ 2 ^ 46
  ok : okE e

theorem RInv.grown {w wr w' : World} {c g : Nat} {cs : Array Value} {l l' : List Int} {e e' : Int} (h : RInv w c cs g l e wr) (hr : RdAt (c + 1) w' g l' e') (hg : wr.grownBy w' (some g)) (hb : isByte l') (hl : l'.length ≤ 2 ^ 46) (he : okE e') : RInv w c cs g l' e' w' :=
  ⟨hr, (hg.block c (Nat.lt_trans h.lt h.rd.lt) (by have := h.lt; simp; omega)).trans h.core, h.below.trans (below_of_grown_at hg (Nat.le_trans h.ge (Nat.le_of_lt h.lt)) h.below.size), h.ge, h.lt, hb, hl, he⟩

theorem RInv.later {w wr w' : World} {c g : Nat} {cs : Array Value} {l : List Int} {e : Int} (h : RInv w c cs g l e wr) (hb : Below (g + 1) wr w') : RInv w c cs g l e w' :=
  ⟨h.rd.kept hb, (hb.block c (by have := h.lt; omega)).trans h.core, h.below.trans (hb.mono (by have := h.lt; have := h.ge; omega)), h.ge, h.lt, h.byte, h.len, h.ok⟩

theorem there_of {w : World} {b o n : Nat} {cs : Array Value} {t : TypeId} (h : w.heap[b]? = some (.cells cs t (0, 0))) (hn : o + n ≤ cs.size) : w.there b o n := fun j hj =>
  ⟨by rw [cell_of_row _ _ _ _ _ _ h, Array.getElem?_eq_getElem (by omega)]; rfl, frozen_of_row _ _ _ _ _ h⟩

theorem RdAt.beside {w w' : World} {g : Nat} {l : List Int} {e : Int} (h : RdAt lo w g l e) (hs : w.heap.size ≤ w'.heap.size) (hlo : lo ≤ g) (hk : ∀ b, lo ≤ b → w'.heap[b]? = w.heap[b]?) : RdAt lo w' g l e := by
  obtain ⟨v, h1, h2, h3, h4⟩ := h
  exact ⟨v, (hk g hlo).trans h1, h2.kept hs fun b _ a n c hv hab => hk b (by have := (h4 a n c hv).1; omega), h3, h4⟩

theorem RInv.setRow {w wr : World} {c g : Nat} {cs : Array Value} {l : List Int} {e : Int} (h : RInv w c cs g l e wr) (cs' : Array Value) : RInv w c cs' g l e (wr.setRow c cs') :=
  ⟨h.rd.beside (by simp) h.lt fun b hb => setRow_other _ _ _ _ (by omega), setRow_heap _ _ _ _ _ _ h.core, below_setRow h.below h.ge _, h.ge, h.lt, h.byte, h.len, h.ok⟩

theorem RInv.setCell {w wr : World} {c g : Nat} {cs : Array Value} {l : List Int} {e : Int} (h : RInv w c cs g l e wr) (i : Nat) (v : Value) : RInv w c (cs.setIfInBounds i v) g l e (wr.setCell ⟨c, i, none⟩ v) :=
  ⟨h.rd.beside (by simp) h.lt fun b hb => Below.heap_setCell _ _ _ _ (by show b ≠ c; omega), heap_setCell_same _ _ _ _ _ _ h.core, h.below.setCell h.ge _, h.ge, h.lt, h.byte, h.len, h.ok⟩

theorem heap_setCells_mid (b : Nat) (t : TypeId) : ∀ (vs old pre post : List Value) (w : World), vs.length = old.length → w.heap[b]? = some (.cells (pre ++ old ++ post).toArray t (0, 0)) →
    (w.setCells b pre.length vs).heap[b]? = some (.cells (pre ++ vs ++ post).toArray t (0, 0))
  | [], [], pre, post, w, _, h => by rw [World.setCells]; exact h
  | [], _ :: _, _, _, _, hl, _ => by simp at hl
  | _ :: _, [], _, _, _, hl, _ => by simp at hl
  | v :: r, o :: os, pre, post, w, hl, h => by
    have h1 := heap_setCell_same w b pre.length _ t v h
    have h2 : (w.setCell ⟨b, pre.length, none⟩ v).heap[b]? = some (.cells ((pre ++ [v]) ++ os ++ post).toArray t (0, 0)) := by
      rw [h1]
      simp
    have h3 := heap_setCells_mid b t r os (pre ++ [v]) post _ (by simpa using hl) h2
    rw [World.setCells]
    simpa using h3

theorem RInv.setName {w wr : World} {c g : Nat} {c1 c2 c3 c4 : Int} {nm nm' : List Int} {l : List Int} {e : Int} (h : RInv w c (coreCells ⟨c1, c2, c3, c4, nm⟩).toArray g l e wr) (hn : nm.length = nm'.length) :
    RInv w c (coreCells ⟨c1, c2, c3, c4, nm'⟩).toArray g l e (wr.setCells c 4 (nm'.map (Value.int .u8))) :=
  ⟨h.rd.beside (by rw [size_setCells]; exact Nat.le_refl _) h.lt fun b hb => heap_setCells_other _ _ _ _ _ (by omega),
    by
      have := heap_setCells_mid c 56 (nm'.map (Value.int .u8)) (nm.map (Value.int .u8)) [.int .i64 c1, .int .i64 c2, .int .u64 c3, .int .u64 c4] [] wr (by simpa using hn.symm) (by simpa [coreCells] using h.core)
      simpa [coreCells] using this,
    below_setCells h.ge _ _ _ h.below, h.ge, h.lt, h.byte, h.len, h.ok⟩

theorem num_inv {w wr : World} {c g : Nat} {cs : Array Value} {l : List Int} {e : Int} (n : Nat) (h : RInv w c cs g l e wr) (hn1 : 1 ≤ n) (hn : n ≤ 8) :
    Calls Try.prog 41 #[.pointer (some ⟨g, 0, none⟩), .int .i64 n] wr fun x w' => x = .returned (.int .u64 (numOf (gotL n l e))) ∧ RInv w c cs g (restL n l e) (wrongL n l e) w' := by
  refine (num_calls g l e n wr h.rd h.len h.byte hn1 hn).mono ?_
  rintro x w' ⟨rfl, hr, hg, -⟩
  exact ⟨rfl, h.grown hr hg (restL_byte h.byte) (Nat.le_trans (restL_le _ _ _) h.len) (okE_wrong h.ok)⟩

theorem name_inv {w wr : World} {c g : Nat} {cs : Array Value} {l : List Int} {e : Int} (h : RInv w c cs g l e wr) :
    Calls Try.prog 42 #[.pointer (some ⟨g, 0, none⟩)] wr fun x w' => x = .returned (.agg ((nameOf l e).map (Value.int .u8)).toArray) ∧ RInv w c cs g (restL 16 l e) (wrongL 16 l e) w' ∧ wr.grownBy w' (some g) := by
  refine (name_calls g l e wr h.rd h.len).mono ?_
  rintro x w' ⟨rfl, hr, hg⟩
  exact ⟨rfl, h.grown hr hg (restL_byte h.byte) (Nat.le_trans (restL_le _ _ _) h.len) (okE_wrong h.ok), hg⟩

theorem wrong_inv {w wr : World} {c g : Nat} {cs : Array Value} {l : List Int} {e : Int} (h : RInv w c cs g l e wr) :
    Calls Try.prog 43 #[.pointer (some ⟨g, 0, none⟩)] wr fun x w' => x = .returned (.int .i64 e) ∧ wr = w' := wrong_calls g l e wr h.rd h.ok

theorem sized_inv {w wr : World} {c g : Nat} {cs : Array Value} {l : List Int} {e : Int} (h : RInv w c cs g l e wr) :
    Calls Try.prog 44 #[.pointer (some ⟨g, 0, none⟩)] wr fun x w' => ∃ v', x = .returned v' ∧ owns w' wr.heap.size v' (sizedGot l e) ∧ w'.heap[c]? = some (.cells cs 56 (0, 0)) ∧ Below w.heap.size w w' ∧ wr.grownBy w' (some g) := by
  refine (rsized_calls g l e wr h.rd h.len h.byte).mono ?_
  rintro x w' ⟨v', rfl, ho, hr, hg⟩
  exact ⟨v', rfl, ho, (hg.block c (Nat.lt_trans h.lt h.rd.lt) (by have := h.lt; simp; omega)).trans h.core, h.below.trans (below_of_grown_at hg (Nat.le_trans h.ge (Nat.le_of_lt h.lt)) h.below.size), hg⟩

theorem ownsN.names {w : World} {B : Nat} {v : Value} {ns : List (List Int)} (h : ownsN w B v ns) (hn : ∀ n ∈ ns, n.length = 16) : isNames w 16 v ns := by
  have h' := h
  obtain ⟨h1, h2⟩ := h'
  rcases h2 with ⟨rfl, h3⟩ | ⟨g, c, cur, rfl, hg, hb, hc, _⟩
  · obtain rfl := List.eq_nil_of_length_eq_zero h3
    exact ⟨none, 0, rfl, Nat.le_refl _, hn, fun h => absurd rfl h⟩
  · refine ⟨_, c, rfl, hc, hn, fun hne => ⟨g, 0, rfl, (Array.getElem?_eq_some_iff.1 hb).1, fun i hi j v hj => ?_⟩⟩
    have hl : (ns.getD i []).length = 16 := hn _ (by simp [List.getD, hi])
    have hj16 : j < 16 := by
      rcases Nat.lt_or_ge j 16 with h | h
      · exact h
      · rw [List.getElem?_eq_none (by rw [List.length_map, hl]; exact h)] at hj; cases hj
    have := World.ownsRow.cells h rfl (i * 16 + j) v (by rw [List.getElem?_map, flat_at hn i j hi hj16, ← hj, List.getElem?_map])
    rw [add_plain, Nat.zero_add] at this
    rw [Nat.zero_add]
    exact this

theorem results_cell_row3 {P : Program} {fn : Func} {p q r : Tmp} {ty : TypeId} (h : fn.results = #[.cell p ty, .tmp q, .tmp r]) (tmps : Array Value) (w : World) (g : Nat) (t : TypeId) (cs : Array Value) (fr : Nat × Nat) (d : TypeDesc)
    (hp : tmps.getD p undef = .pointer (some ⟨g, 0, none⟩)) (hg : w.heap[g]? = some (.cells cs t fr))
    (hu : P.underlying ty = some d) (hd : (match d with | .struct _ | .array _ _ => true | _ => false) = true) (hi : (P.info? ty).map (·.size) = some cs.size) :
    (results fn tmps).run P w = .ok (.tuple #[.agg cs, tmps.getD q undef, tmps.getD r undef]) w := by
  have hp' : tmps[p]?.getD undef = .pointer (some ⟨g, 0, none⟩) := by simpa using hp
  simp [results, h, hp', asAddr, run_loadVar_row w g t ty cs fr d hg hu hd hi]

/-- a whole core, read out of a block and laid into it -/
@[irreducible] noncomputable def loadCore (x : Value) : Sem Value := Instr.loadAt 56 x
@[irreducible] noncomputable def storeCore (x y : Value) : Sem Unit := Instr.storeAt 56 x y
theorem loadCore_eq (x : Value) : Instr.loadAt 56 x = loadCore x := by unfold loadCore; rfl
theorem storeCore_eq (x y : Value) : Instr.storeAt 56 x y = storeCore x y := by unfold storeCore; rfl
attribute [local go_sem ↓] loadCore_eq storeCore_eq

/-- what is read of a core's block, and laid into it again -/
theorem core_held {cs : Array Value} (hs : cs.size = 20) (h1 : cs.all (·.oneCell') = true) (u : World) (b : Nat) (h : u.heap[b]? = some (.cells cs 56 (0, 0))) :
    (loadCore (.pointer (some ⟨b, 0, none⟩))).run Try.prog u = .ok (.agg cs) u ∧ (storeCore (.pointer (some ⟨b, 0, none⟩)) (.agg cs)).run Try.prog u = .ok () u := by
  constructor
  · unfold loadCore
    have := run_loadAt_mid (P := Try.prog) u b 0 56 cs.toList _ (rangeAt_of_cells h) Try.underlying56 rfl (by rw [Array.length_toList, hs]; exact size_core)
    simpa using this
  · unfold storeCore
    simp only [Instr.storeAt, Instr.sureAddr, Sem.run_bind, Sem.run_pure, Result.andThen_ok]
    rw [run_storeVar_row u b 56 56 cs cs h (by rw [hs]; exact size_core) rfl h1, setRow_self u b cs _ _ h]

set_option maxHeartbeats 2000000 in
set_option maxRecDepth 100000 in
theorem read_calls (v : Value) (b : List Int) (named : Bool) (w : World) (hv : isRow w .u8 v b) (hnil : NilOk v) (hb : isByte b) (hl : b.length ≤ 2 ^ 46) :
    Calls Try.prog 31 #[v, .bool named] w (ReadTold w (readOfL named b)) := by
  have HV := Lib.hid hv
  have HI := Lib.hid hnil
  have HB := Lib.hid hb
  have HL := Lib.hid hl
  clear hv hnil hb hl
  have hblk := heap_alloc_new w (.cells ((coreCells ⟨0, 0, 0, 0, List.replicate 16 0⟩).toArray) 56)
  have hb0 : Below w.heap.size w (w.alloc (.cells ((coreCells ⟨0, 0, 0, 0, List.replicate 16 0⟩).toArray) 56)) := (Below.refl _ _).alloc (Nat.le_refl _) _
  have HBK := Lib.hid hblk
  have HV0 := Lib.hid (HV.out.below hb0 (Nat.le_refl _))
  have HB0 := Lib.hid hb0
  clear hblk hb0
  obtain ⟨R, hR⟩ : ∃ R, R = readOfL named b := ⟨_, rfl⟩
  rw [← hR]
  unfold readOfL at hR
  have HR := Lib.hid hR
  clear hR
  obtain ⟨i0, hi0, hz0, hz1, hz2⟩ := info_parts info_name
  go_enter Try.func31, Try.ntmps31
  go_upto_if 20 with (fail)
  refine (reader_new_calls v b _ HV0.out HI.out HL.out).mono ?_
  rintro e w1 ⟨g, rfl, hg, hr1, hb1⟩
  have hgw : w.heap.size < g := by simp at hg; omega
  have HX1 : Hid (RInv w w.heap.size _ g b 0 w1) := ⟨by simpa using hr1, (hb1.block w.heap.size (by simp)).trans HBK.out, HB0.out.trans (hb1.mono HB0.out.size), Nat.le_refl _, hgw, HB.out, HL.out, .inl rfl⟩
  clear hg hr1 hb1
  go_upto_if 20 with (fail)
  refine (num_inv 1 HX1.out (by decide) (by decide)).mono ?_
  rintro e w2 ⟨rfl, hi2⟩
  have n1 := one_byte (e := 0) HX1.out.byte
  have hR := HR.out
  rw [show (((1 : Nat) : Int)) = 1 from rfl] at hi2 ⊢
  generalize numOf (gotL 1 b 0) = client at *
  generalize restL 1 b 0 = l1 at *
  generalize wrongL 1 b 0 = e1 at *
  have HX2 := Lib.hid hi2
  unfold rdId at hR
  have HR2 := Lib.hid hR
  have n10 := n1.1
  have n11 := n1.2
  clear HR hi2 hR n1
  go_upto_if 20 with (fail)
  refine (num_inv 8 HX2.out (by decide) (by decide)).mono ?_
  rintro e w3 ⟨rfl, hi3⟩
  have hR := HR2.out
  rw [show (((8 : Nat) : Int)) = 8 from rfl] at hi3 ⊢
  generalize numOf (gotL 8 l1 e1) = id at *
  generalize restL 8 l1 e1 = l2 at *
  generalize wrongL 8 l1 e1 = e2 at *
  have HX3 := Lib.hid hi3
  unfold rdKind at hR
  have HR3 := Lib.hid hR
  clear HR2 hi3 hR
  go_upto_if 20 with (fail)
  refine (num_inv 1 HX3.out (by decide) (by decide)).mono ?_
  rintro e w4 ⟨rfl, hi4⟩
  have n2 := one_byte (e := e2) HX3.out.byte
  have hR := HR3.out
  rw [show (((1 : Nat) : Int)) = 1 from rfl] at hi4 ⊢
  generalize numOf (gotL 1 l2 e2) = kind at *
  generalize restL 1 l2 e2 = l3 at *
  generalize wrongL 1 l2 e2 = e3 at *
  have HX4 := Lib.hid hi4
  have HR4 := Lib.hid hR
  have n20 := n2.1
  have n21 := n2.2
  clear HR3 hi4 hR n2
  have hxc := HX4.out.core
  have HXC := Lib.hid hxc
  clear hxc
  go_upto_if 20 with (with_reducible refine wpList_store_row rfl 56 (.tmp 4) (.tmp 19) rfl w.heap.size _ rfl rfl 56 _ HXC.out ?a1 ?a2 ?a3 ?_)
  case a1 => exact size_core
  case a2 => rfl
  case a3 => simp [Value.oneCell']
  have HX5 : Hid (RInv w w.heap.size (coreCells ⟨client, kind, id, 0, List.replicate 16 0⟩).toArray g l3 e3 (w4.setRow w.heap.size (coreCells ⟨client, kind, id, 0, List.replicate 16 0⟩).toArray)) := HX4.out.setRow _
  go_cut [] (fun wc => RInv w w.heap.size (coreCells ⟨client, kind, id, 0, rdName named l3 e3⟩).toArray g (rdRest named l3 e3) (rdWrong named l3 e3) wc)
  case first =>
    rcases named with _ | _
    · go_wp2_with fail
      go_meet
      case rel => exact HX5.out
    · go_wp2_with fail
      refine (name_inv HX5.out).mono ?_
      rintro e w6 ⟨rfl, hi6, -⟩
      have HX6 := Lib.hid hi6
      have hth : w6.there w.heap.size 4 16 := there_of (cs := (coreCells ⟨client, kind, id, 0, List.replicate 16 0⟩).toArray) hi6.core (by simp [coreCells])
      have HTH := Lib.hid hth
      have hnl : ((nameOf l3 e3).map (Value.int .u8)).toArray.size = 16 := by rw [List.size_toArray, List.length_map, nameOf_length]
      have hall : (((nameOf l3 e3).map (Value.int .u8)).toArray.all fun x => x.oneCell') = true := by rw [List.all_toArray, List.all_map]; exact List.all_eq_true.2 fun _ _ => rfl
      have HFIN : Hid (RInv w w.heap.size (coreCells ⟨client, kind, id, 0, rdName true l3 e3⟩).toArray g (rdRest true l3 e3) (rdWrong true l3 e3) (w6.setCells w.heap.size 4 ((nameOf l3 e3).map (Value.int .u8)).toArray.toList)) := HX6.out.setName (by rw [rdName_length]; rfl)
      obtain ⟨nm, hnm⟩ : ∃ nm, nm = ((nameOf l3 e3).map (Value.int .u8)).toArray := ⟨_, rfl⟩
      rw [← hnm] at hnl hall HFIN ⊢
      have HNL := Lib.hid hnl
      have HALL := Lib.hid hall
      clear hi6 hth hnl hall hnm
      go_wp2_with (with_reducible refine wpList_store_mid rfl 24 (.tmp 23) (.tmp 22) rfl w.heap.size 4 nm rfl rfl ?q1 ?q2 ?q3 ?_)
      case q1 => rw [HNL.out]; exact HTH.out
      case q2 => rw [HNL.out]; exact size_name
      case q3 => exact HALL.out
      go_meet
      case rel => exact HFIN.out
  case rest =>
    have hR := HR4.out
    unfold rdNamed at hR
    have hnm := rdName_length named l3 e3
    generalize rdName named l3 e3 = nm0 at *
    generalize rdRest named l3 e3 = l4 at *
    generalize rdWrong named l3 e3 = e4 at *
    unfold rdGen at hR
    have HNM := Lib.hid hnm
    have HR5 := Lib.hid hR
    have HX7 := Lib.hid hcut
    clear HX5 HX4 HX3 HX2 HX1 HR4 HXC hR hcut hnm
    go_wp2_with fail
    refine (num_inv 8 HX7.out (by decide) (by decide)).mono ?_
    rintro e w8 ⟨rfl, hi8⟩
    have hR := HR5.out
    rw [show (((8 : Nat) : Int)) = 8 from rfl] at hi8 ⊢
    generalize numOf (gotL 8 l4 e4) = gen at *
    generalize restL 8 l4 e4 = l5 at *
    generalize wrongL 8 l4 e4 = e5 at *
    have hc3 : w8.cell? ⟨w.heap.size, 3, none⟩ = some (.int .u64 0) := by rw [cell_of_row _ _ _ _ _ _ hi8.core]; rfl
    have hf3 := frozen_of_row _ _ 3 _ _ hi8.core
    have HX9 : Hid (RInv w w.heap.size (coreCells ⟨client, kind, id, gen, nm0⟩).toArray g l5 e5 (w8.setCell ⟨w.heap.size, 3, none⟩ (.int .u64 gen))) := hi8.setCell 3 _
    unfold rdCount at hR
    have HR6 := Lib.hid hR
    clear hi8 hR HX7 HR5
    go_wp2_with fail
    refine (num_inv 2 HX9.out (by decide) (by decide)).mono ?_
    rintro e w10 ⟨rfl, hi10⟩
    have hR := HR6.out
    have hcnt := num_lt (gotL_byte (n := 2) (e := e5) HX9.out.byte) 2 (gotL_length_le 2 _ _)
    have hcnt0 := (numOf_bd _ _ rfl (gotL_byte (n := 2) (e := e5) HX9.out.byte)).1
    simp only [Int.pow_succ, Int.pow_zero] at hcnt
    rw [show (((2 : Nat) : Int)) = 2 from rfl] at hi10 ⊢
    generalize numOf (gotL 2 l5 e5) = cnt at *
    generalize restL 2 l5 e5 = l6 at *
    generalize wrongL 2 l5 e5 = e6 at *
    obtain ⟨N, rfl⟩ := Int.eq_ofNat_of_zero_le hcnt0
    rw [Int.toNat_natCast] at hR
    unfold rdLast at hR
    have hN : N ≤ 65535 := by omega
    have HR7 := Lib.hid hR
    have HX11 := Lib.hid hi10
    clear HR6 HX9 hR hi10 hcnt hcnt0 hc3 hf3
    go_wp2_with fail
    go_loopw [5, 8] (fun vl vn wr => ∃ (m : Nat) (ns : List (List Int)) (l : List Int) (e : Int), vn = .int .u64 m ∧ m ≤ 65535 ∧ ns.length + m ≤ 65535 ∧ RInv w w.heap.size (coreCells ⟨client, kind, id, gen, nm0⟩).toArray g l e wr ∧ ownsN wr (g + 1) vl ns ∧
      (∀ n ∈ ns, n.length = 16) ∧ namesOf N l6 e6 = (ns ++ (namesOf m l e).1, (namesOf m l e).2)) (fun _ vn _ => (intOf vn).toNat)
    case atStart => exact ⟨N, [], l6, e6, rfl, hN, by simpa using hN, HX11.out, World.ownsRow_nil _ _ _ _, (fun n h => by cases h), by simp⟩
    case round =>
      obtain ⟨m, ns, l, e, rfl, hm, hnm, hi, ho, hn16, heq⟩ := hrel
      obtain ⟨wo, rfl⟩ : ∃ wo : World, wo = wr := ⟨_, rfl⟩
      have HI2 := Lib.hid hi
      have HO := Lib.hid ho
      have HN16 := Lib.hid hn16
      have HEQ := Lib.hid heq
      clear hi ho hn16 heq HX11
      by_cases hgo : 0 < m ∧ e = 0
      · obtain ⟨h0, rfl⟩ := hgo
        obtain ⟨m, rfl⟩ : ∃ k, m = k + 1 := ⟨m - 1, by omega⟩
        go_wp2_with fail
        refine (wrong_inv HI2.out).mono ?_
        rintro x w12 ⟨rfl, rfl⟩
        go_wp2_with fail
        refine (name_inv HI2.out).mono ?_
        rintro x w13 ⟨rfl, hi13, hg13⟩
        have hnl := nameOf_length l 0
        obtain ⟨nm, hnm⟩ : ∃ nm, nm = nameOf l 0 := ⟨_, rfl⟩
        rw [← hnm] at hnl ⊢
        have HNM2 := Lib.hid hnm
        have HNL := Lib.hid hnl
        have HI13 := Lib.hid hi13
        have HO13 := Lib.hid (ownsN.kept HO.out hg13)
        clear hnm hi13 hg13 hnl
        obtain ⟨n0, n1', n2', n3, n4, n5, n6, n7, n8, n9, n10', n11', n12, n13, n14, n15, rfl⟩ := sixteen HNL.out
        go_wp2_with (at_builtin; refine wpList_append_own_at _ rfl (.tmp 38) (.tmp 41) 25 rfl (g + 1) 24 i0 (.agg ((List.replicate 16 0).map (Value.int .u8)).toArray) 16 16 Try.underlying25 hi0 hz0 hz1 hz2 rfl (by decide) _ ns.length (ns.flatten.map (Value.int .u8)) rfl (World.ownsRow.alloc HO13.out _) ⟨w13.heap.size, 0, none⟩ 1 1 ([n0, n1', n2', n3, n4, n5, n6, n7, n8, n9, n10', n11', n12, n13, n14, n15].map (Value.int .u8)) rfl rfl ?c2 ?c3 ?c4 ?c5 ?c6 ?_)
        case c2 => exact World.news_of_block (cs := ([n0, n1', n2', n3, n4, n5, n6, n7, n8, n9, n10', n11', n12, n13, n14, n15].map (Value.int .u8)).toArray) (heap_alloc_new _ _)
        case c3 => intro u hu; simp at hu; rcases hu with rfl | rfl | rfl | rfl | rfl | rfl | rfl | rfl | rfl | rfl | rfl | rfl | rfl | rfl | rfl | rfl <;> rfl
        case c4 => unfold maxLen; omega
        case c5 => omega
        case c6 => have := HI13.out.rd.lt; simp; omega
        intro v' w14 hown hgrow _ _
        have hlt13 := HI13.out.rd.lt
        have ho14 : ownsN w14 (g + 1) v' (ns ++ [[n0, n1', n2', n3, n4, n5, n6, n7, n8, n9, n10', n11', n12, n13, n14, n15]]) := by
          unfold ownsN
          simpa using hown
        have hb14 : Below (g + 1) w13 w14 := ((Below.refl (g + 1) w13).alloc (by omega) _).grown hgrow (by simp; omega) (fun k hk => (World.ownsRow.lt HO13.out k hk).1)
        have HO14 := Lib.hid ho14
        have HI14 := Lib.hid (HI13.out.later hb14)
        have heq : namesOf N l6 e6 = ((ns ++ [[n0, n1', n2', n3, n4, n5, n6, n7, n8, n9, n10', n11', n12, n13, n14, n15]]) ++ (namesOf m (restL 16 l 0) (wrongL 16 l 0)).1, (namesOf m (restL 16 l 0) (wrongL 16 l 0)).2) := by
          rw [HEQ.out]
          simp only [namesOf, if_true, ← HNM2.out, List.append_assoc, List.cons_append, List.nil_append]
        have HEQ2 := Lib.hid heq
        have hn2 : ∀ n ∈ ns ++ [[n0, n1', n2', n3, n4, n5, n6, n7, n8, n9, n10', n11', n12, n13, n14, n15]], n.length = 16 := by
          intro n hn
          rcases List.mem_append.1 hn with hn | hn
          · exact HN16.out n hn
          · simp only [List.mem_singleton] at hn; rw [hn]; rfl
        have HN162 := Lib.hid hn2
        clear hown hgrow ho14 hb14 heq hn2 HNM2 HO13 HI13 HO HI2 HEQ
        go_wp2_with fail
        exact ⟨⟨m, ns ++ [[n0, n1', n2', n3, n4, n5, n6, n7, n8, n9, n10', n11', n12, n13, n14, n15]], _, _, by go_num, by omega, by rw [List.length_append]; simp; omega, HI14.out, HO14.out, HN162.out, HEQ2.out⟩, by simp [intOf]⟩
      · have hend : namesOf m l e = ([], l, e) := by
          rcases m with _ | m
          · rfl
          · unfold namesOf; rw [if_neg (fun h => hgo ⟨by omega, h⟩)]
        have hR := HR7.out
        have heq := HEQ.out
        rw [hend] at heq
        simp only [List.append_nil] at heq
        rw [heq] at hR
        simp only at hR
        have HR8 := Lib.hid hR
        clear hend hR heq HEQ HR7
        obtain ⟨cs, hcs⟩ : ∃ cs, cs = (coreCells ⟨client, kind, id, gen, nm0⟩).toArray := ⟨_, rfl⟩
        have hcz : cs.size = 20 := by rw [hcs]; simp [coreCells, HNM.out]
        have hci : cs.all (·.oneCell') = true := by rw [hcs, List.all_toArray]; simp [coreCells, Value.oneCell']
        rw [← hcs] at HI2
        have HCS := Lib.hid hcs
        have HCF := Lib.hid (core_held (cs := cs) hcz hci)
        have HCZ := Lib.hid hcz
        clear hcs hcz hci
        rcases Nat.eq_zero_or_pos m with h0 | h0
        · subst h0
          go_wp2_with fail
          go_region_held3 (fun w' => (loadCore (.pointer (some ⟨w.heap.size, 0, none⟩))).run Try.prog w' = .ok (.agg cs) w' ∧ (storeCore (.pointer (some ⟨w.heap.size, 0, none⟩)) (.agg cs)).run Try.prog w' = .ok () w')
            (first | exact hs3 | exact HCF.out _ _ HI2.out.core | go_keep)
            (first
              | (go_simp; go_at_call 44; (apply Calls.mono (sized_inv (HI2.out.later (Below.refl _ _).drew)); rintro x w3 ⟨vd, rfl, hod, hcd, hbd, hgd⟩; have hs3 := HCF.out _ _ hcd)))
          have HOD := Lib.hid hod
          have HCD := Lib.hid hcd
          have HBD := Lib.hid hbd
          have HON := Lib.hid (ownsN.kept (show ownsN wo.drew (g + 1) u5 ns from HO.out) hgd)
          have hwd : w.heap.size ≤ wo.drew.heap.size := HI2.out.below.size
          clear hod hcd hbd hgd hs3 HI2 HO
          go_wp2_with fail
          refine bodyPost_ret (v := .tuple #[.agg cs, u5, vd]) (results_cell_row3 (fn := Try.f31) rfl _ _ w.heap.size 56 _ (0, 0) _ rfl HCD.out Try.underlying56 rfl ?_) rfl ⟨u5, vd, ?_, ?_, ?_, HOD.out.nilOk, HBD.out, HON.out.fresh (by omega), HOD.out.fresh hwd⟩
          · rw [HCZ.out]; exact size_core
          · rw [HR8.out, ← HCS.out]
          · rw [HR8.out]; exact HON.out.names HN16.out
          · rw [HR8.out]; exact HOD.out.row
        · have hen : (e == 0) = false := beq_eq_false_iff_ne.2 fun h => hgo ⟨h0, h⟩
          have h0i : (0 : Int) < m := by omega
          clear hgo
          go_wp2_with fail
          refine (wrong_inv HI2.out).mono ?_
          rintro x w12 ⟨rfl, rfl⟩
          go_wp2_with fail
          go_region_held3 (fun w' => (loadCore (.pointer (some ⟨w.heap.size, 0, none⟩))).run Try.prog w' = .ok (.agg cs) w' ∧ (storeCore (.pointer (some ⟨w.heap.size, 0, none⟩)) (.agg cs)).run Try.prog w' = .ok () w')
            (first | exact hs3 | exact HCF.out _ _ HI2.out.core | go_keep)
            (first
              | (go_simp; go_at_call 44; (apply Calls.mono (sized_inv (HI2.out.later (Below.refl _ _).drew)); rintro x w3 ⟨vd, rfl, hod, hcd, hbd, hgd⟩; have hs3 := HCF.out _ _ hcd)))
          have HOD := Lib.hid hod
          have HCD := Lib.hid hcd
          have HBD := Lib.hid hbd
          have HON := Lib.hid (ownsN.kept (show ownsN wo.drew (g + 1) u5 ns from HO.out) hgd)
          have hwd : w.heap.size ≤ wo.drew.heap.size := HI2.out.below.size
          clear hod hcd hbd hgd hs3 HI2 HO
          go_wp2_with fail
          refine bodyPost_ret (v := .tuple #[.agg cs, u5, vd]) (results_cell_row3 (fn := Try.f31) rfl _ _ w.heap.size 56 _ (0, 0) _ rfl HCD.out Try.underlying56 rfl ?_) rfl ⟨u5, vd, ?_, ?_, ?_, HOD.out.nilOk, HBD.out, HON.out.fresh (by omega), HOD.out.fresh hwd⟩
          · rw [HCZ.out]; exact size_core
          · rw [HR8.out, ← HCS.out]
          · rw [HR8.out]; exact HON.out.names HN16.out
          · rw [HR8.out]; exact HOD.out.row
end Go.Proofs.Ytpacfijkhhjfeaa
