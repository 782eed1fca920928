/- msg.ReadRequest, msg.ReadReply. -/
import Derived.Test.YtpacfijkhhjfeaaMsgRead
namespace Go.Proofs.Ytpacfijkhhjfeaa
set_option linter.unusedVariables false
set_option linter.unusedSimpArgs false
open Go.RowKit

theorem results_cell_row2 {P : Program} {fn : Func} {p q : Tmp} {ty : TypeId} (h : fn.results = #[.cell p ty, .tmp q]) (tmps : Array Value) (w : World) (g : Nat) (t : TypeId) (cs : Array Value) (fr : Nat × Nat) (d : TypeDesc)
    (hp : tmps.getD p undef = .pointer (some ⟨g, 0, none⟩)) (hg : w.heap[g]? = some (.cells cs t fr))
    (hu : P.underlying ty = some d) (hd : (match d with | .struct _ | .array _ _ => true | _ => false) = true) (hi : (P.info? ty).map (·.size) = some cs.size) :
    (results fn tmps).run P w = .ok (.tuple #[.agg cs, tmps.getD q undef]) w := by
  have hp' : tmps[p]?.getD undef = .pointer (some ⟨g, 0, none⟩) := by simpa using hp
  simp [results, h, hp', asAddr, run_loadVar_row w g t ty cs fr d hg hu hd hi]

theorem core_range {u : World} {g : Nat} {c1 c2 c3 c4 : Int} {nm : List Int} {fr : Nat × Nat} (h : u.heap[g]? = some (.cells (coreCells ⟨c1, c2, c3, c4, nm⟩).toArray 56 fr)) : u.rangeAt g 4 (nm.map (Value.int .u8)) := fun j v hj => by
  rw [cell_of_row _ _ _ _ _ _ h]
  simp only [coreCells, List.getElem?_toArray]
  rw [show 4 + j = j + 1 + 1 + 1 + 1 from by omega]
  simpa using hj

theorem frameL_byte {k : Int} {l : List Int} (hk : 0 ≤ k ∧ k ≤ 255) (hl : isByte l) : isByte (frameL k l) := (frameBody_byte hk hl).append ((shaL_byte _).take 4)

theorem Fresh.mono {B B' : Nat} {v : Value} (h : Fresh B v) (hB : B' ≤ B) : Fresh B' v := fun a n c he => Nat.le_trans hB (h a n c he)

theorem names_setRow {w : World} {k b : Nat} {v : Value} {ns : List (List Int)} (h : isNames w k v ns) (hf : Fresh (b + 1) v) (cs : Array Value) : isNames (w.setRow b cs) k v ns :=
  h.kept (by simp) fun x _ a n c he hab => setRow_other _ _ _ _ (by have := hf a n c he; omega)

theorem row_setRow {w : World} {k : IntKind} {b : Nat} {v : Value} {l : List Int} (h : isRow w k v l) (hf : Fresh (b + 1) v) (cs : Array Value) : isRow (w.setRow b cs) k v l :=
  h.kept (by simp) fun x _ a n c he hab => setRow_other _ _ _ _ (by have := hf a n c he; omega)

theorem openL_within {b : List Int} (hb : isByte b) : isByte (openL b).within ∧ (openL b).within.length ≤ b.length := by
  unfold openL
  split
  · exact ⟨isByte.nil, Nat.zero_le _⟩
  · unfold readL
    split
    · exact ⟨isByte.nil, Nat.zero_le _⟩
    split
    · exact ⟨isByte.nil, Nat.zero_le _⟩
    split
    · exact ⟨isByte.nil, Nat.zero_le _⟩
    · refine ⟨(hb.drop _).take _, ?_⟩
      show ((b.drop 8).take _).length ≤ _
      rw [List.length_take, List.length_drop]
      omega

/-- are the bytes a request's frame? -/
def requestOk (b : List Int) : Bool := mayBe (readOfL true (openL b).within).1 1 6 (readOfL true (openL b).within).2.1.length (readOfL true (openL b).within).2.2.length &&
  decide (frameL 1 (tailL (headL (readOfL true (openL b).within).1 true) (readOfL true (openL b).within).2.1 (readOfL true (openL b).within).2.2) = b)

/-- behind a ReadRequest -/
def ToldRequest (w : World) (b : List Int) (e : Ending) (w' : World) : Prop :=
  Below w.heap.size w w' ∧ if requestOk b = true then ∃ vn vd, e = .returned (.tuple #[.agg (requestCells (readOfL true (openL b).within).1 vn vd).toArray, .int .i64 0]) ∧ isNames w' 16 vn (readOfL true (openL b).within).2.1 ∧ isRow w' .u8 vd (readOfL true (openL b).within).2.2 ∧ NilOk vd
    else e = .returned (.tuple #[.agg (requestCells ⟨0, 0, 0, 0, List.replicate 16 0⟩ (.slice none 0 0) (.slice none 0 0)).toArray, .int .i64 11])

theorem told_request_no {w w' : World} {b : List Int} (h : requestOk b = false) (hb : Below w.heap.size w w') : ToldRequest w b (.returned (.tuple #[.agg (requestCells ⟨0, 0, 0, 0, List.replicate 16 0⟩ (.slice none 0 0) (.slice none 0 0)).toArray, .int .i64 11])) w' := by
  refine ⟨hb, ?_⟩
  rw [if_neg (by rw [h]; decide)]
theorem told_request_yes {w w' : World} {b : List Int} {R : Core × List (List Int) × List Int} (hR : readOfL true (openL b).within = R) (h : requestOk b = true) (hb : Below w.heap.size w w') (vn vd : Value) (hn : isNames w' 16 vn R.2.1) (hd : isRow w' .u8 vd R.2.2) (hdn : NilOk vd) :
    ToldRequest w b (.returned (.tuple #[.agg (requestCells R.1 vn vd).toArray, .int .i64 0])) w' := by
  subst hR
  refine ⟨hb, ?_⟩
  rw [if_pos h]
  exact ⟨vn, vd, rfl, hn, hd, hdn⟩

theorem request_size (c : Core) (vn vd : Value) (h : c.name.length = 16) : (requestCells c vn vd).toArray.size = 22 := by simp [requestCells, h]
theorem request_one (c : Core) (a1 a2 : Option Addr) (m1 m2 k1 k2 : Nat) : (requestCells c (.slice a1 m1 k1) (.slice a2 m2 k2)).toArray.all (·.oneCell') = true := by
  rw [List.all_toArray]
  simp [requestCells, Value.oneCell']

set_option maxHeartbeats 4000000 in
set_option maxRecDepth 100000 in
theorem read_request_calls (v : Value) (b : List Int) (w : World) (hv : isRow w .u8 v b) (hnil : NilOk v) (hb : isByte b) (hl : b.length ≤ 2 ^ 46) :
    Calls Try.prog 15 #[v] w (ToldRequest w b) := by
  have HV := Lib.hid hv
  have HI := Lib.hid hnil
  have HB := Lib.hid hb
  have HL := Lib.hid hl
  clear hv hnil hb hl
  have hok : requestOk b = (mayBe (readOfL true (openL b).within).1 1 6 (readOfL true (openL b).within).2.1.length (readOfL true (openL b).within).2.2.length && decide (frameL 1 (tailL (headL (readOfL true (openL b).within).1 true) (readOfL true (openL b).within).2.1 (readOfL true (openL b).within).2.2) = b)) := rfl
  have hin := openL_within HB.out
  have hmade := readOfL_made true hin.1 (Nat.le_trans hin.2 HL.out)
  have HOP := Lib.hid (fun u hu => open_calls v b u hu HI.out HB.out HL.out)
  have hOR : readOfL true (openL b).within = readOfL true (openL b).within := rfl
  obtain ⟨O, hO⟩ : ∃ O, O = openL b := ⟨_, rfl⟩
  rw [← hO] at hin hmade HOP hok
  rw (occs := .pos [1]) [← hO] at hOR
  have HRD := Lib.hid (fun u vx hu hux => read_calls vx O.within true u hu hux hin.1 (Nat.le_trans hin.2 HL.out))
  obtain ⟨R, hR⟩ : ∃ R, R = readOfL true O.within := ⟨_, rfl⟩
  rw [← hR] at HRD hmade hok hOR
  clear hO hR
  obtain ⟨⟨c1, c2, c3, c4, nm⟩, ns, d⟩ := R
  obtain ⟨m1, m2, m3, m4, m5, m6, m7, m8, m9, m10⟩ := hmade
  simp only at m1 m2 m3 m4 m5 m6 m7 m8 m9 m10 hok
  have M2 := Lib.hid m2
  have M3 := Lib.hid m3
  have M4 := Lib.hid m4
  have M5 := Lib.hid m5
  have M6x := Lib.hid m6
  have M6 := Lib.hid m7
  have M7 := Lib.hid m8
  obtain ⟨n0, n1, n2, n3, n4, n5, n6, n7, n8, n9, n10, n11, n12, n13, n14, n15, rfl⟩ := sixteen m1
  have HOK := Lib.hid hok
  have HOR := Lib.hid hOR.symm
  clear m1 m2 m3 m4 m5 m6 m7 m8 m9 m10 hin hok hOR
  obtain ⟨core, hcore⟩ : ∃ core : Core, core = ⟨c1, c2, c3, c4, [n0, n1, n2, n3, n4, n5, n6, n7, n8, n9, n10, n11, n12, n13, n14, n15]⟩ := ⟨_, rfl⟩
  have HCORE := Lib.hid hcore
  clear hcore
  go_enter Try.func15, Try.ntmps15
  go_wp2_with fail
  have hb0 : Below w.heap.size w (w.alloc (.cells (requestCells ⟨0, 0, 0, 0, List.replicate 16 0⟩ (.slice none 0 0) (.slice none 0 0)).toArray 28)) := (Below.refl _ _).alloc (Nat.le_refl _) _
  have hx0 := heap_alloc_new w (.cells (requestCells ⟨0, 0, 0, 0, List.replicate 16 0⟩ (.slice none 0 0) (.slice none 0 0)).toArray 28)
  refine (HOP.out _ (HV.out.below hb0 (Nat.le_refl _))).mono ?_
  rintro e w1 ⟨vo, rfl, hro, hno, hb1⟩
  have HX1 := Lib.hid ((hb1.block w.heap.size (by simp)).trans hx0)
  have HB1 := Lib.hid (hb0.trans (hb1.mono hb0.size))
  have hs1 : w.heap.size + 1 ≤ w1.heap.size := Nat.le_trans (by simp) hb1.size
  have HRO := Lib.hid hro
  have HNO := Lib.hid hno
  clear hb0 hx0 hb1 hro hno
  go_wp2_with fail
  refine (HRD.out w1 vo HRO.out HNO.out).mono ?_
  rintro e w2 ⟨vn, vd, rfl, hn2, hd2, hdn2, hb2, hfn, hfd⟩
  obtain ⟨an, cn, rfl, hnc, hn16, hnr⟩ := hn2
  obtain ⟨ad, cd, rfl, hdc, hdr⟩ := hd2
  have HN2 : Hid (isNames w2 16 (.slice an ns.length cn) ns) := ⟨an, cn, rfl, hnc, hn16, hnr⟩
  have HD2 : Hid (isRow w2 .u8 (.slice ad d.length cd) d) := ⟨ad, cd, rfl, hdc, hdr⟩
  have HDN := Lib.hid hdn2
  have HFN := Lib.hid hfn
  have HFD := Lib.hid hfd
  clear hfn hfd
  have HX2 := Lib.hid ((hb2.block w.heap.size hs1).trans HX1.out)
  have HB2 := Lib.hid (HB1.out.trans (hb2.mono HB1.out.size))
  have hs2 : w.heap.size + 1 ≤ w2.heap.size := Nat.le_trans hs1 hb2.size
  simp only at hnc hn16 hnr hdc hdr ⊢
  obtain ⟨cs, hcs⟩ : ∃ cs, cs = (coreCells ⟨c1, c2, c3, c4, [n0, n1, n2, n3, n4, n5, n6, n7, n8, n9, n10, n11, n12, n13, n14, n15]⟩).toArray := ⟨_, rfl⟩
  rw [← hcs]
  have hcz : (Try.prog.info? 56).map (·.size) = some cs.size := by rw [hcs]; exact size_core
  have hz20 : cs.size = 20 := by rw [hcs]; rfl
  have hci : cs.all (·.oneCell') = true := by rw [hcs, List.all_toArray]; simp [coreCells, Value.oneCell']
  have HCZ := Lib.hid hcz
  have HZ20 := Lib.hid hz20
  have HCI := Lib.hid hci
  have HCS := Lib.hid hcs
  have HSZ : Hid ((Try.prog.info? 24).map (·.size) = some ([n0, n1, n2, n3, n4, n5, n6, n7, n8, n9, n10, n11, n12, n13, n14, n15].map (Value.int .u8)).length) := size_name
  clear hcs hcz hz20 hci hnc hn16 hnr hdc hdr hdn2 hb2
  go_upto_region 3 with (with_reducible refine wpList_store_row rfl 56 (.tmp 7) (.tmp 22) rfl w2.heap.size cs rfl rfl 56 _ (heap_alloc_new w2 _) HCZ.out ?a2 HCI.out ?_)
  case a2 => exact HZ20.out.symm
  have hx3 : ((w2.alloc (.cells #[.int .i64 0, .int .i64 0, .int .u64 0, .int .u64 0, .int .u8 0, .int .u8 0, .int .u8 0, .int .u8 0, .int .u8 0, .int .u8 0, .int .u8 0, .int .u8 0, .int .u8 0, .int .u8 0, .int .u8 0, .int .u8 0, .int .u8 0, .int .u8 0, .int .u8 0, .int .u8 0] 56)).setRow w2.heap.size cs).heap[w2.heap.size]? = some (.cells cs 56 (0, 0)) := setRow_heap _ _ _ _ _ _ (heap_alloc_new w2 _)
  have hb3 : Below w2.heap.size w2 ((w2.alloc (.cells #[.int .i64 0, .int .i64 0, .int .u64 0, .int .u64 0, .int .u8 0, .int .u8 0, .int .u8 0, .int .u8 0, .int .u8 0, .int .u8 0, .int .u8 0, .int .u8 0, .int .u8 0, .int .u8 0, .int .u8 0, .int .u8 0, .int .u8 0, .int .u8 0, .int .u8 0, .int .u8 0] 56)).setRow w2.heap.size cs) := below_setRow ((Below.refl _ _).alloc (Nat.le_refl _) _) (Nat.le_refl _) _
  generalize (w2.alloc (.cells #[.int .i64 0, .int .i64 0, .int .u64 0, .int .u64 0, .int .u8 0, .int .u8 0, .int .u8 0, .int .u8 0, .int .u8 0, .int .u8 0, .int .u8 0, .int .u8 0, .int .u8 0, .int .u8 0, .int .u8 0, .int .u8 0, .int .u8 0, .int .u8 0, .int .u8 0, .int .u8 0] 56)).setRow w2.heap.size cs = w3 at *
  have hk0 := cell_of_row _ _ 0 _ _ _ hx3
  have hk1 := cell_of_row _ _ 1 _ _ _ hx3
  have hk2 := cell_of_row _ _ 2 _ _ _ hx3
  have hk3 := cell_of_row _ _ 3 _ _ _ hx3
  rw [show cs[0]? = some (.int .i64 c1) from by rw [HCS.out]; rfl] at hk0
  rw [show cs[1]? = some (.int .i64 c2) from by rw [HCS.out]; rfl] at hk1
  rw [show cs[2]? = some (.int .u64 c3) from by rw [HCS.out]; rfl] at hk2
  rw [show cs[3]? = some (.int .u64 c4) from by rw [HCS.out]; rfl] at hk3
  have hrg : w3.rangeAt w2.heap.size 4 ([n0, n1, n2, n3, n4, n5, n6, n7, n8, n9, n10, n11, n12, n13, n14, n15].map (Value.int .u8)) := by rw [HCS.out] at hx3; exact core_range hx3
  have HRG := Lib.hid hrg
  have HX3 := Lib.hid ((hb3.block w.heap.size hs2).trans HX2.out)
  have HB3 := Lib.hid (HB2.out.trans (hb3.mono HB2.out.size))
  have HN3 := Lib.hid (HN2.out.below hb3 (Nat.le_refl _))
  have HD3 := Lib.hid (HD2.out.below hb3 (Nat.le_refl _))
  have hs3 : w.heap.size + 1 ≤ w3.heap.size := Nat.le_trans hs2 hb3.size
  clear hx3 hb3 hrg
  go_upto_region 4 with (first
    | (with_reducible refine wpList_load_mid rfl 24 (.tmp 31) rfl w2.heap.size 4 rfl ([n0, n1, n2, n3, n4, n5, n6, n7, n8, n9, n10, n11, n12, n13, n14, n15].map (Value.int .u8)) _ HRG.out Try.underlying24 rfl HSZ.out ?_)
    | (with_reducible refine wpList_store_row rfl 28 (.tmp 10) (.tmp 37) rfl w3.heap.size _ rfl rfl 28 _ (heap_alloc_new w3 _) ?a4 ?a5 ?a6 ?_))
  case a4 => exact Option.map_eq_some_iff.1 size_request
  case a6 => simp [Value.oneCell']
  obtain ⟨cr, hcr⟩ : ∃ cr, cr = (requestCells ⟨c1, c2, c3, c4, [n0, n1, n2, n3, n4, n5, n6, n7, n8, n9, n10, n11, n12, n13, n14, n15]⟩ (.slice an ns.length cn) (.slice ad d.length cd)).toArray := ⟨_, rfl⟩
  have hx4 : ((w3.alloc (.cells #[.int .i64 0, .int .u64 0, .int .i64 0, .int .u8 0, .int .u8 0, .int .u8 0, .int .u8 0, .int .u8 0, .int .u8 0, .int .u8 0, .int .u8 0, .int .u8 0, .int .u8 0, .int .u8 0, .int .u8 0, .int .u8 0, .int .u8 0, .int .u8 0, .int .u8 0, .int .u64 0, .slice none 0 0, .slice none 0 0] 28)).setRow w3.heap.size #[.int .i64 c1, .int .u64 c3, .int .i64 c2, .int .u8 n0, .int .u8 n1, .int .u8 n2, .int .u8 n3, .int .u8 n4, .int .u8 n5, .int .u8 n6, .int .u8 n7, .int .u8 n8, .int .u8 n9, .int .u8 n10, .int .u8 n11, .int .u8 n12, .int .u8 n13, .int .u8 n14, .int .u8 n15, .int .u64 c4, .slice an ns.length cn, .slice ad d.length cd]).heap[w3.heap.size]? = some (.cells cr 28 (0, 0)) := by rw [hcr]; exact setRow_heap _ _ _ _ _ _ (heap_alloc_new w3 _)
  have hb4 : Below w3.heap.size w3 ((w3.alloc (.cells #[.int .i64 0, .int .u64 0, .int .i64 0, .int .u8 0, .int .u8 0, .int .u8 0, .int .u8 0, .int .u8 0, .int .u8 0, .int .u8 0, .int .u8 0, .int .u8 0, .int .u8 0, .int .u8 0, .int .u8 0, .int .u8 0, .int .u8 0, .int .u8 0, .int .u8 0, .int .u64 0, .slice none 0 0, .slice none 0 0] 28)).setRow w3.heap.size #[.int .i64 c1, .int .u64 c3, .int .i64 c2, .int .u8 n0, .int .u8 n1, .int .u8 n2, .int .u8 n3, .int .u8 n4, .int .u8 n5, .int .u8 n6, .int .u8 n7, .int .u8 n8, .int .u8 n9, .int .u8 n10, .int .u8 n11, .int .u8 n12, .int .u8 n13, .int .u8 n14, .int .u8 n15, .int .u64 c4, .slice an ns.length cn, .slice ad d.length cd]) := below_setRow ((Below.refl _ _).alloc (Nat.le_refl _) _) (Nat.le_refl _) _
  generalize (w3.alloc (.cells #[.int .i64 0, .int .u64 0, .int .i64 0, .int .u8 0, .int .u8 0, .int .u8 0, .int .u8 0, .int .u8 0, .int .u8 0, .int .u8 0, .int .u8 0, .int .u8 0, .int .u8 0, .int .u8 0, .int .u8 0, .int .u8 0, .int .u8 0, .int .u8 0, .int .u8 0, .int .u64 0, .slice none 0 0, .slice none 0 0] 28)).setRow w3.heap.size #[.int .i64 c1, .int .u64 c3, .int .i64 c2, .int .u8 n0, .int .u8 n1, .int .u8 n2, .int .u8 n3, .int .u8 n4, .int .u8 n5, .int .u8 n6, .int .u8 n7, .int .u8 n8, .int .u8 n9, .int .u8 n10, .int .u8 n11, .int .u8 n12, .int .u8 n13, .int .u8 n14, .int .u8 n15, .int .u64 c4, .slice an ns.length cn, .slice ad d.length cd] = w4 at *
  have HX4 := Lib.hid ((hb4.block w.heap.size hs3).trans HX3.out)
  have HY4 := Lib.hid hx4
  have HB4 := Lib.hid (HB3.out.trans (hb4.mono HB3.out.size))
  have HN4 := Lib.hid (HN3.out.below hb4 (Nat.le_refl _))
  have HD4 := Lib.hid (HD3.out.below hb4 (Nat.le_refl _))
  have hs4 : w3.heap.size + 1 ≤ w4.heap.size := (Array.getElem?_eq_some_iff.1 hx4).1
  have hsz : (Try.prog.info? 28).map (·.size) = some cr.size := by rw [hcr]; exact size_request
  have hz1 : cr.all (·.oneCell') = true := by rw [hcr]; exact request_one _ _ _ _ _ _ _
  have HSR := Lib.hid hsz
  have HZ1 := Lib.hid hz1
  have HCR := Lib.hid hcr
  clear hx4 hb4 hsz hz1 hcr hk0 hk1 hk2 hk3
  have hl47 : ns.length ≤ 9223372036854775807 ∧ d.length ≤ 9223372036854775807 := ⟨by have := M6.out; omega, by have := M7.out; omega⟩
  have HL47 := Lib.hid hl47
  clear hl47
  cases hm : mayBe ⟨c1, c2, c3, c4, [n0, n1, n2, n3, n4, n5, n6, n7, n8, n9, n10, n11, n12, n13, n14, n15]⟩ 1 6 ns.length d.length with
  | false =>
    have HPUT := Lib.hid (fun u => put_request_no ⟨c1, c2, c3, c4, [n0, n1, n2, n3, n4, n5, n6, n7, n8, n9, n10, n11, n12, n13, n14, n15]⟩ an ad cn cd ns d u rfl HL47.out hm)
    rw [← HCR.out] at HPUT
    have HM := Lib.hid hm
    clear hm
    go_wp2_with (with_reducible refine wpList_load_row rfl 28 (.tmp 10) rfl w3.heap.size rfl 28 cr (0, 0) _ HY4.out Try.underlying28 rfl HSR.out ?_)
    refine (HPUT.out w4).mono ?_
    rintro e w5 ⟨rfl, hb5⟩
    have HX5 := Lib.hid ((hb5.block w.heap.size (by omega)).trans HX4.out)
    have HB5 := Lib.hid (HB4.out.trans (hb5.mono HB4.out.size))
    clear hb5
    go_wp2_with (with_reducible refine wpList_store_row rfl 28 (.tmp 2) (.tmp 51) rfl w.heap.size _ rfl rfl 28 _ HX5.out ?z1 ?z2 ?z3 ?_)
    case z1 => exact size_request
    case z2 => rfl
    case z3 => simp [Value.oneCell']
    refine bodyPost_ret (v := .tuple #[.agg (requestCells ⟨0, 0, 0, 0, List.replicate 16 0⟩ (.slice none 0 0) (.slice none 0 0)).toArray, .int .i64 11]) (results_cell_row2 (fn := Try.f15) rfl _ _ w.heap.size 28 _ (0, 0) _ rfl (setRow_heap _ _ _ _ _ _ HX5.out) Try.underlying28 rfl size_request) rfl (told_request_no (by rw [HOK.out, HM.out, Bool.false_and]) (below_setRow HB5.out (Nat.le_refl _) _))
  | true =>
    have HPUT := Lib.hid (fun u hu1 hu2 => put_request_yes ⟨c1, c2, c3, c4, [n0, n1, n2, n3, n4, n5, n6, n7, n8, n9, n10, n11, n12, n13, n14, n15]⟩ an ad cn cd ns d u rfl HL47.out M3.out M4.out hu1 hu2 HDN.out M2.out (fun n hn => (M5.out n hn).2) M6x.out hm)
    rw [← HCR.out] at HPUT
    have hbd := mayBe_bd hm
    have hcl : 0 ≤ c1 ∧ c1 ≤ 255 ∧ 0 ≤ c2 ∧ c2 ≤ 255 := by simp only at hbd; omega
    have hfb : isByte (frameL 1 (tailL (headL ⟨c1, c2, c3, c4, [n0, n1, n2, n3, n4, n5, n6, n7, n8, n9, n10, n11, n12, n13, n14, n15]⟩ true) ns d)) := frameL_byte (by decide) (tailL_byte (headL_byte _ hcl M2.out) (fun n hn => (M5.out n hn).2) M6x.out)
    have hok : requestOk b = decide (frameL 1 (tailL (headL ⟨c1, c2, c3, c4, [n0, n1, n2, n3, n4, n5, n6, n7, n8, n9, n10, n11, n12, n13, n14, n15]⟩ true) ns d) = b) := by rw [HOK.out, hm, Bool.true_and] <;> rfl
    obtain ⟨F, hF⟩ : ∃ F, F = frameL 1 (tailL (headL ⟨c1, c2, c3, c4, [n0, n1, n2, n3, n4, n5, n6, n7, n8, n9, n10, n11, n12, n13, n14, n15]⟩ true) ns d) := ⟨_, rfl⟩
    rw [← hF] at HPUT hfb hok
    have HFB := Lib.hid hfb
    have HOK2 := Lib.hid hok
    clear hm hbd hcl hfb hok hF
    go_wp2_with (with_reducible refine wpList_load_row rfl 28 (.tmp 10) rfl w3.heap.size rfl 28 cr (0, 0) _ HY4.out Try.underlying28 rfl HSR.out ?_)
    refine (HPUT.out w4 HN4.out HD4.out).mono ?_
    rintro e w5 ⟨v5, rfl, ho5, hb5⟩
    have HX5 := Lib.hid ((hb5.block w.heap.size (by omega)).trans HX4.out)
    have HY5 := Lib.hid ((hb5.block w3.heap.size (by omega)).trans HY4.out)
    have HB5 := Lib.hid (HB4.out.trans (hb5.mono HB4.out.size))
    have HN5 := Lib.hid (HN4.out.below hb5 (Nat.le_refl _))
    have HD5 := Lib.hid (HD4.out.below hb5 (Nat.le_refl _))
    have HO5 := Lib.hid ho5
    clear hb5 ho5
    go_wp2_with fail
    refine (bytes_equal_calls v5 v F b w5 HO5.out.row (HV.out.below HB5.out (Nat.le_refl _)) HFB.out HB.out).mono ?_
    rintro e w6 ⟨rfl, rfl⟩
    by_cases hq : F = b
    · rw [decide_eq_true hq] at HOK2 ⊢
      clear hq
      go_wp2_with (first
        | (with_reducible refine wpList_load_row rfl 28 (.tmp 10) rfl w3.heap.size rfl 28 cr (0, 0) _ HY5.out Try.underlying28 rfl HSR.out ?_)
        | (with_reducible refine wpList_store_row rfl 28 (.tmp 2) (.tmp 52) rfl w.heap.size cr rfl rfl 28 _ HX5.out HSR.out ?y2 HZ1.out ?_))
      case y2 => rw [HCR.out]; rfl
      have hbf := below_setRow HB5.out (Nat.le_refl w.heap.size) cr
      refine bodyPost_ret (v := .tuple #[.agg cr, .int .i64 0]) (results_cell_row2 (fn := Try.f15) rfl _ _ w.heap.size 28 _ (0, 0) _ rfl (setRow_heap _ _ _ _ _ _ HX5.out) Try.underlying28 rfl HSR.out) rfl ?_
      rw [HCR.out] at hbf ⊢
      exact told_request_yes HOR.out HOK2.out hbf _ _ (names_setRow HN5.out (HFN.out.mono hs1) _) (row_setRow HD5.out (HFD.out.mono hs1) _) HDN.out
    · rw [decide_eq_false hq] at HOK2 ⊢
      clear hq
      go_wp2_with (with_reducible refine wpList_store_row rfl 28 (.tmp 2) (.tmp 51) rfl w.heap.size _ rfl rfl 28 _ HX5.out ?z4 ?z5 ?z6 ?_)
      case z4 => exact size_request
      case z5 => rfl
      case z6 => simp [Value.oneCell']
      exact bodyPost_ret (v := .tuple #[.agg (requestCells ⟨0, 0, 0, 0, List.replicate 16 0⟩ (.slice none 0 0) (.slice none 0 0)).toArray, .int .i64 11]) (results_cell_row2 (fn := Try.f15) rfl _ _ w.heap.size 28 _ (0, 0) _ rfl (setRow_heap _ _ _ _ _ _ HX5.out) Try.underlying28 rfl size_request) rfl (told_request_no HOK2.out (below_setRow HB5.out (Nat.le_refl _) _))

/-- are the bytes a reply's frame? -/
def replyOk (b : List Int) : Bool := mayBe (readOfL false (openL b).within).1 0 9 (readOfL false (openL b).within).2.1.length (readOfL false (openL b).within).2.2.length &&
  decide (frameL 2 (tailL (headL (readOfL false (openL b).within).1 false) (readOfL false (openL b).within).2.1 (readOfL false (openL b).within).2.2) = b)

/-- behind a ReadReply -/
def ToldReply (w : World) (b : List Int) (e : Ending) (w' : World) : Prop :=
  Below w.heap.size w w' ∧ if replyOk b = true then ∃ vn vd, e = .returned (.tuple #[.agg (replyCells (readOfL false (openL b).within).1 vn vd).toArray, .int .i64 0]) ∧ isNames w' 16 vn (readOfL false (openL b).within).2.1 ∧ isRow w' .u8 vd (readOfL false (openL b).within).2.2 ∧ NilOk vd
    else e = .returned (.tuple #[.agg (replyCells ⟨0, 0, 0, 0, List.replicate 16 0⟩ (.slice none 0 0) (.slice none 0 0)).toArray, .int .i64 11])

theorem told_reply_no {w w' : World} {b : List Int} (h : replyOk b = false) (hb : Below w.heap.size w w') : ToldReply w b (.returned (.tuple #[.agg (replyCells ⟨0, 0, 0, 0, List.replicate 16 0⟩ (.slice none 0 0) (.slice none 0 0)).toArray, .int .i64 11])) w' := by
  refine ⟨hb, ?_⟩
  rw [if_neg (by rw [h]; decide)]
theorem told_reply_yes {w w' : World} {b : List Int} {R : Core × List (List Int) × List Int} (hR : readOfL false (openL b).within = R) (h : replyOk b = true) (hb : Below w.heap.size w w') (vn vd : Value) (hn : isNames w' 16 vn R.2.1) (hd : isRow w' .u8 vd R.2.2) (hdn : NilOk vd) :
    ToldReply w b (.returned (.tuple #[.agg (replyCells R.1 vn vd).toArray, .int .i64 0])) w' := by
  subst hR
  refine ⟨hb, ?_⟩
  rw [if_pos h]
  exact ⟨vn, vd, rfl, hn, hd, hdn⟩

theorem reply_size (c : Core) (vn vd : Value) (h : c.name.length = 16) : (replyCells c vn vd).toArray.size = 6 := by simp [replyCells]
theorem reply_one (c : Core) (a1 a2 : Option Addr) (m1 m2 k1 k2 : Nat) : (replyCells c (.slice a1 m1 k1) (.slice a2 m2 k2)).toArray.all (·.oneCell') = true := by
  rw [List.all_toArray]
  simp [replyCells, Value.oneCell']

set_option maxHeartbeats 4000000 in
set_option maxRecDepth 100000 in
theorem read_reply_calls (v : Value) (b : List Int) (w : World) (hv : isRow w .u8 v b) (hnil : NilOk v) (hb : isByte b) (hl : b.length ≤ 2 ^ 46) :
    Calls Try.prog 16 #[v] w (ToldReply w b) := by
  have HV := Lib.hid hv
  have HI := Lib.hid hnil
  have HB := Lib.hid hb
  have HL := Lib.hid hl
  clear hv hnil hb hl
  have hok : replyOk b = (mayBe (readOfL false (openL b).within).1 0 9 (readOfL false (openL b).within).2.1.length (readOfL false (openL b).within).2.2.length && decide (frameL 2 (tailL (headL (readOfL false (openL b).within).1 false) (readOfL false (openL b).within).2.1 (readOfL false (openL b).within).2.2) = b)) := rfl
  have hin := openL_within HB.out
  have hmade := readOfL_made false hin.1 (Nat.le_trans hin.2 HL.out)
  have HOP := Lib.hid (fun u hu => open_calls v b u hu HI.out HB.out HL.out)
  have hOR : readOfL false (openL b).within = readOfL false (openL b).within := rfl
  obtain ⟨O, hO⟩ : ∃ O, O = openL b := ⟨_, rfl⟩
  rw [← hO] at hin hmade HOP hok
  rw (occs := .pos [1]) [← hO] at hOR
  have HRD := Lib.hid (fun u vx hu hux => read_calls vx O.within false u hu hux hin.1 (Nat.le_trans hin.2 HL.out))
  obtain ⟨R, hR⟩ : ∃ R, R = readOfL false O.within := ⟨_, rfl⟩
  rw [← hR] at HRD hmade hok hOR
  clear hO hR
  obtain ⟨⟨c1, c2, c3, c4, nm⟩, ns, d⟩ := R
  obtain ⟨m1, m2, m3, m4, m5, m6, m7, m8, m9, m10⟩ := hmade
  simp only at m1 m2 m3 m4 m5 m6 m7 m8 m9 m10 hok
  have M2 := Lib.hid m2
  have M3 := Lib.hid m3
  have M4 := Lib.hid m4
  have M5 := Lib.hid m5
  have M6x := Lib.hid m6
  have M6 := Lib.hid m7
  have M7 := Lib.hid m8
  obtain ⟨n0, n1, n2, n3, n4, n5, n6, n7, n8, n9, n10, n11, n12, n13, n14, n15, rfl⟩ := sixteen m1
  have HOK := Lib.hid hok
  have HOR := Lib.hid hOR.symm
  clear m1 m2 m3 m4 m5 m6 m7 m8 m9 m10 hin hok hOR
  obtain ⟨core, hcore⟩ : ∃ core : Core, core = ⟨c1, c2, c3, c4, [n0, n1, n2, n3, n4, n5, n6, n7, n8, n9, n10, n11, n12, n13, n14, n15]⟩ := ⟨_, rfl⟩
  have HCORE := Lib.hid hcore
  clear hcore
  go_enter Try.func16, Try.ntmps16
  go_wp2_with fail
  have hb0 : Below w.heap.size w (w.alloc (.cells (replyCells ⟨0, 0, 0, 0, List.replicate 16 0⟩ (.slice none 0 0) (.slice none 0 0)).toArray 30)) := (Below.refl _ _).alloc (Nat.le_refl _) _
  have hx0 := heap_alloc_new w (.cells (replyCells ⟨0, 0, 0, 0, List.replicate 16 0⟩ (.slice none 0 0) (.slice none 0 0)).toArray 30)
  refine (HOP.out _ (HV.out.below hb0 (Nat.le_refl _))).mono ?_
  rintro e w1 ⟨vo, rfl, hro, hno, hb1⟩
  have HX1 := Lib.hid ((hb1.block w.heap.size (by simp)).trans hx0)
  have HB1 := Lib.hid (hb0.trans (hb1.mono hb0.size))
  have hs1 : w.heap.size + 1 ≤ w1.heap.size := Nat.le_trans (by simp) hb1.size
  have HRO := Lib.hid hro
  have HNO := Lib.hid hno
  clear hb0 hx0 hb1 hro hno
  go_wp2_with fail
  refine (HRD.out w1 vo HRO.out HNO.out).mono ?_
  rintro e w2 ⟨vn, vd, rfl, hn2, hd2, hdn2, hb2, hfn, hfd⟩
  obtain ⟨an, cn, rfl, hnc, hn16, hnr⟩ := hn2
  obtain ⟨ad, cd, rfl, hdc, hdr⟩ := hd2
  have HN2 : Hid (isNames w2 16 (.slice an ns.length cn) ns) := ⟨an, cn, rfl, hnc, hn16, hnr⟩
  have HD2 : Hid (isRow w2 .u8 (.slice ad d.length cd) d) := ⟨ad, cd, rfl, hdc, hdr⟩
  have HDN := Lib.hid hdn2
  have HFN := Lib.hid hfn
  have HFD := Lib.hid hfd
  clear hfn hfd
  have HX2 := Lib.hid ((hb2.block w.heap.size hs1).trans HX1.out)
  have HB2 := Lib.hid (HB1.out.trans (hb2.mono HB1.out.size))
  have hs2 : w.heap.size + 1 ≤ w2.heap.size := Nat.le_trans hs1 hb2.size
  simp only at hnc hn16 hnr hdc hdr ⊢
  obtain ⟨cs, hcs⟩ : ∃ cs, cs = (coreCells ⟨c1, c2, c3, c4, [n0, n1, n2, n3, n4, n5, n6, n7, n8, n9, n10, n11, n12, n13, n14, n15]⟩).toArray := ⟨_, rfl⟩
  rw [← hcs]
  have hcz : (Try.prog.info? 56).map (·.size) = some cs.size := by rw [hcs]; exact size_core
  have hz20 : cs.size = 20 := by rw [hcs]; rfl
  have hci : cs.all (·.oneCell') = true := by rw [hcs, List.all_toArray]; simp [coreCells, Value.oneCell']
  have HCZ := Lib.hid hcz
  have HZ20 := Lib.hid hz20
  have HCI := Lib.hid hci
  have HCS := Lib.hid hcs
  have HSZ : Hid ((Try.prog.info? 24).map (·.size) = some ([n0, n1, n2, n3, n4, n5, n6, n7, n8, n9, n10, n11, n12, n13, n14, n15].map (Value.int .u8)).length) := size_name
  clear hcs hcz hz20 hci hnc hn16 hnr hdc hdr hdn2 hb2
  go_upto_region 3 with (with_reducible refine wpList_store_row rfl 56 (.tmp 7) (.tmp 22) rfl w2.heap.size cs rfl rfl 56 _ (heap_alloc_new w2 _) HCZ.out ?a2 HCI.out ?_)
  case a2 => exact HZ20.out.symm
  have hx3 : ((w2.alloc (.cells #[.int .i64 0, .int .i64 0, .int .u64 0, .int .u64 0, .int .u8 0, .int .u8 0, .int .u8 0, .int .u8 0, .int .u8 0, .int .u8 0, .int .u8 0, .int .u8 0, .int .u8 0, .int .u8 0, .int .u8 0, .int .u8 0, .int .u8 0, .int .u8 0, .int .u8 0, .int .u8 0] 56)).setRow w2.heap.size cs).heap[w2.heap.size]? = some (.cells cs 56 (0, 0)) := setRow_heap _ _ _ _ _ _ (heap_alloc_new w2 _)
  have hb3 : Below w2.heap.size w2 ((w2.alloc (.cells #[.int .i64 0, .int .i64 0, .int .u64 0, .int .u64 0, .int .u8 0, .int .u8 0, .int .u8 0, .int .u8 0, .int .u8 0, .int .u8 0, .int .u8 0, .int .u8 0, .int .u8 0, .int .u8 0, .int .u8 0, .int .u8 0, .int .u8 0, .int .u8 0, .int .u8 0, .int .u8 0] 56)).setRow w2.heap.size cs) := below_setRow ((Below.refl _ _).alloc (Nat.le_refl _) _) (Nat.le_refl _) _
  generalize (w2.alloc (.cells #[.int .i64 0, .int .i64 0, .int .u64 0, .int .u64 0, .int .u8 0, .int .u8 0, .int .u8 0, .int .u8 0, .int .u8 0, .int .u8 0, .int .u8 0, .int .u8 0, .int .u8 0, .int .u8 0, .int .u8 0, .int .u8 0, .int .u8 0, .int .u8 0, .int .u8 0, .int .u8 0] 56)).setRow w2.heap.size cs = w3 at *
  have hk0 := cell_of_row _ _ 0 _ _ _ hx3
  have hk1 := cell_of_row _ _ 1 _ _ _ hx3
  have hk2 := cell_of_row _ _ 2 _ _ _ hx3
  have hk3 := cell_of_row _ _ 3 _ _ _ hx3
  rw [show cs[0]? = some (.int .i64 c1) from by rw [HCS.out]; rfl] at hk0
  rw [show cs[1]? = some (.int .i64 c2) from by rw [HCS.out]; rfl] at hk1
  rw [show cs[2]? = some (.int .u64 c3) from by rw [HCS.out]; rfl] at hk2
  rw [show cs[3]? = some (.int .u64 c4) from by rw [HCS.out]; rfl] at hk3
  have hrg : w3.rangeAt w2.heap.size 4 ([n0, n1, n2, n3, n4, n5, n6, n7, n8, n9, n10, n11, n12, n13, n14, n15].map (Value.int .u8)) := by rw [HCS.out] at hx3; exact core_range hx3
  have HRG := Lib.hid hrg
  have HX3 := Lib.hid ((hb3.block w.heap.size hs2).trans HX2.out)
  have HB3 := Lib.hid (HB2.out.trans (hb3.mono HB2.out.size))
  have HN3 := Lib.hid (HN2.out.below hb3 (Nat.le_refl _))
  have HD3 := Lib.hid (HD2.out.below hb3 (Nat.le_refl _))
  have hs3 : w.heap.size + 1 ≤ w3.heap.size := Nat.le_trans hs2 hb3.size
  clear hx3 hb3 hrg
  go_upto_region 4 with (first
    | (with_reducible refine wpList_load_mid rfl 24 (.tmp 31) rfl w2.heap.size 4 rfl ([n0, n1, n2, n3, n4, n5, n6, n7, n8, n9, n10, n11, n12, n13, n14, n15].map (Value.int .u8)) _ HRG.out Try.underlying24 rfl HSZ.out ?_)
    | (with_reducible refine wpList_store_row rfl 30 (.tmp 10) (.tmp 35) rfl w3.heap.size _ rfl rfl 30 _ (heap_alloc_new w3 _) ?a4 ?a5 ?a6 ?_))
  case a4 => exact Option.map_eq_some_iff.1 size_reply
  case a6 => simp [Value.oneCell']
  obtain ⟨cr, hcr⟩ : ∃ cr, cr = (replyCells ⟨c1, c2, c3, c4, List.replicate 16 0⟩ (.slice an ns.length cn) (.slice ad d.length cd)).toArray := ⟨_, rfl⟩
  have hx4 : ((w3.alloc (.cells #[.int .i64 0, .int .u64 0, .int .i64 0, .int .u64 0, .slice none 0 0, .slice none 0 0] 30)).setRow w3.heap.size #[.int .i64 c1, .int .u64 c3, .int .i64 c2, .int .u64 c4, .slice an ns.length cn, .slice ad d.length cd]).heap[w3.heap.size]? = some (.cells cr 30 (0, 0)) := by rw [hcr]; exact setRow_heap _ _ _ _ _ _ (heap_alloc_new w3 _)
  have hb4 : Below w3.heap.size w3 ((w3.alloc (.cells #[.int .i64 0, .int .u64 0, .int .i64 0, .int .u64 0, .slice none 0 0, .slice none 0 0] 30)).setRow w3.heap.size #[.int .i64 c1, .int .u64 c3, .int .i64 c2, .int .u64 c4, .slice an ns.length cn, .slice ad d.length cd]) := below_setRow ((Below.refl _ _).alloc (Nat.le_refl _) _) (Nat.le_refl _) _
  generalize (w3.alloc (.cells #[.int .i64 0, .int .u64 0, .int .i64 0, .int .u64 0, .slice none 0 0, .slice none 0 0] 30)).setRow w3.heap.size #[.int .i64 c1, .int .u64 c3, .int .i64 c2, .int .u64 c4, .slice an ns.length cn, .slice ad d.length cd] = w4 at *
  have HX4 := Lib.hid ((hb4.block w.heap.size hs3).trans HX3.out)
  have HY4 := Lib.hid hx4
  have HB4 := Lib.hid (HB3.out.trans (hb4.mono HB3.out.size))
  have HN4 := Lib.hid (HN3.out.below hb4 (Nat.le_refl _))
  have HD4 := Lib.hid (HD3.out.below hb4 (Nat.le_refl _))
  have hs4 : w3.heap.size + 1 ≤ w4.heap.size := (Array.getElem?_eq_some_iff.1 hx4).1
  have hsz : (Try.prog.info? 30).map (·.size) = some cr.size := by rw [hcr]; exact size_reply
  have hz1 : cr.all (·.oneCell') = true := by rw [hcr]; exact reply_one _ _ _ _ _ _ _
  have HSR := Lib.hid hsz
  have HZ1 := Lib.hid hz1
  have HCR := Lib.hid hcr
  clear hx4 hb4 hsz hz1 hcr hk0 hk1 hk2 hk3
  have hl47 : ns.length ≤ 9223372036854775807 ∧ d.length ≤ 9223372036854775807 := ⟨by have := M6.out; omega, by have := M7.out; omega⟩
  have HL47 := Lib.hid hl47
  clear hl47
  cases hm : mayBe ⟨c1, c2, c3, c4, [n0, n1, n2, n3, n4, n5, n6, n7, n8, n9, n10, n11, n12, n13, n14, n15]⟩ 0 9 ns.length d.length with
  | false =>
    have HPUT := Lib.hid (fun u => put_reply_no ⟨c1, c2, c3, c4, List.replicate 16 0⟩ an ad cn cd ns d u rfl HL47.out hm)
    rw [← HCR.out] at HPUT
    have HM := Lib.hid hm
    clear hm
    go_wp2_with (with_reducible refine wpList_load_row rfl 30 (.tmp 10) rfl w3.heap.size rfl 30 cr (0, 0) _ HY4.out Try.underlying30 rfl HSR.out ?_)
    refine (HPUT.out w4).mono ?_
    rintro e w5 ⟨rfl, hb5⟩
    have HX5 := Lib.hid ((hb5.block w.heap.size (by omega)).trans HX4.out)
    have HB5 := Lib.hid (HB4.out.trans (hb5.mono HB4.out.size))
    clear hb5
    go_wp2_with (with_reducible refine wpList_store_row rfl 30 (.tmp 2) (.tmp 49) rfl w.heap.size _ rfl rfl 30 _ HX5.out ?z1 ?z2 ?z3 ?_)
    case z1 => exact size_reply
    case z2 => rfl
    case z3 => simp [Value.oneCell']
    refine bodyPost_ret (v := .tuple #[.agg (replyCells ⟨0, 0, 0, 0, List.replicate 16 0⟩ (.slice none 0 0) (.slice none 0 0)).toArray, .int .i64 11]) (results_cell_row2 (fn := Try.f16) rfl _ _ w.heap.size 30 _ (0, 0) _ rfl (setRow_heap _ _ _ _ _ _ HX5.out) Try.underlying30 rfl size_reply) rfl (told_reply_no (by rw [HOK.out, HM.out, Bool.false_and]) (below_setRow HB5.out (Nat.le_refl _) _))
  | true =>
    have HPUT := Lib.hid (fun u hu1 hu2 => put_reply_yes ⟨c1, c2, c3, c4, List.replicate 16 0⟩ an ad cn cd ns d u rfl HL47.out M3.out M4.out hu1 hu2 HDN.out (isByte.replicate _) (fun n hn => (M5.out n hn).2) M6x.out hm)
    rw [← HCR.out] at HPUT
    have hbd := mayBe_bd hm
    have hcl : 0 ≤ c1 ∧ c1 ≤ 255 ∧ 0 ≤ c2 ∧ c2 ≤ 255 := by simp only at hbd; omega
    have hfb : isByte (frameL 2 (tailL (headL ⟨c1, c2, c3, c4, List.replicate 16 0⟩ false) ns d)) := frameL_byte (by decide) (tailL_byte (headL_byte _ hcl (isByte.replicate _)) (fun n hn => (M5.out n hn).2) M6x.out)
    have hok : replyOk b = decide (frameL 2 (tailL (headL ⟨c1, c2, c3, c4, List.replicate 16 0⟩ false) ns d) = b) := by rw [HOK.out, hm, Bool.true_and] <;> rfl
    obtain ⟨F, hF⟩ : ∃ F, F = frameL 2 (tailL (headL ⟨c1, c2, c3, c4, List.replicate 16 0⟩ false) ns d) := ⟨_, rfl⟩
    rw [← hF] at HPUT hfb hok
    have HFB := Lib.hid hfb
    have HOK2 := Lib.hid hok
    clear hm hbd hcl hfb hok hF
    go_wp2_with (with_reducible refine wpList_load_row rfl 30 (.tmp 10) rfl w3.heap.size rfl 30 cr (0, 0) _ HY4.out Try.underlying30 rfl HSR.out ?_)
    refine (HPUT.out w4 HN4.out HD4.out).mono ?_
    rintro e w5 ⟨v5, rfl, ho5, hb5⟩
    have HX5 := Lib.hid ((hb5.block w.heap.size (by omega)).trans HX4.out)
    have HY5 := Lib.hid ((hb5.block w3.heap.size (by omega)).trans HY4.out)
    have HB5 := Lib.hid (HB4.out.trans (hb5.mono HB4.out.size))
    have HN5 := Lib.hid (HN4.out.below hb5 (Nat.le_refl _))
    have HD5 := Lib.hid (HD4.out.below hb5 (Nat.le_refl _))
    have HO5 := Lib.hid ho5
    clear hb5 ho5
    go_wp2_with fail
    refine (bytes_equal_calls v5 v F b w5 HO5.out.row (HV.out.below HB5.out (Nat.le_refl _)) HFB.out HB.out).mono ?_
    rintro e w6 ⟨rfl, rfl⟩
    by_cases hq : F = b
    · rw [decide_eq_true hq] at HOK2 ⊢
      clear hq
      go_wp2_with (first
        | (with_reducible refine wpList_load_row rfl 30 (.tmp 10) rfl w3.heap.size rfl 30 cr (0, 0) _ HY5.out Try.underlying30 rfl HSR.out ?_)
        | (with_reducible refine wpList_store_row rfl 30 (.tmp 2) (.tmp 50) rfl w.heap.size cr rfl rfl 30 _ HX5.out HSR.out ?y2 HZ1.out ?_))
      case y2 => rw [HCR.out]; rfl
      have hbf := below_setRow HB5.out (Nat.le_refl w.heap.size) cr
      refine bodyPost_ret (v := .tuple #[.agg cr, .int .i64 0]) (results_cell_row2 (fn := Try.f16) rfl _ _ w.heap.size 30 _ (0, 0) _ rfl (setRow_heap _ _ _ _ _ _ HX5.out) Try.underlying30 rfl HSR.out) rfl ?_
      rw [HCR.out] at hbf ⊢
      exact told_reply_yes HOR.out HOK2.out hbf _ _ (names_setRow HN5.out (HFN.out.mono hs1) _) (row_setRow HD5.out (HFD.out.mono hs1) _) HDN.out
    · rw [decide_eq_false hq] at HOK2 ⊢
      clear hq
      go_wp2_with (with_reducible refine wpList_store_row rfl 30 (.tmp 2) (.tmp 49) rfl w.heap.size _ rfl rfl 30 _ HX5.out ?z4 ?z5 ?z6 ?_)
      case z4 => exact size_reply
      case z5 => rfl
      case z6 => simp [Value.oneCell']
      exact bodyPost_ret (v := .tuple #[.agg (replyCells ⟨0, 0, 0, 0, List.replicate 16 0⟩ (.slice none 0 0) (.slice none 0 0)).toArray, .int .i64 11]) (results_cell_row2 (fn := Try.f16) rfl _ _ w.heap.size 30 _ (0, 0) _ rfl (setRow_heap _ _ _ _ _ _ HX5.out) Try.underlying30 rfl size_reply) rfl (told_reply_no HOK2.out (below_setRow HB5.out (Nat.le_refl _) _))

end Go.Proofs.Ytpacfijkhhjfeaa