/- '==' of names and of cores. -/
import Derived.Test.YtpacfijkhhjfeaaMsgPut
import Derived.DeepKeys
namespace Go.Proofs.Ytpacfijkhhjfeaa
set_option linter.unusedVariables false
set_option linter.unusedSimpArgs false
open Go.RowKit

theorem flatten_singles {α β : Type} (g : α → β) : ∀ L : List α, (L.map fun i => [g i]).flatten = L.map g
  | [] => rfl
  | x :: L => by rw [List.map_cons, List.flatten_cons, flatten_singles g L]; rfl

deriving instance DecidableEq for Core

theorem keyLits_bytes {P : Program} {t e : TypeId} {n D : Nat} (ht : P.underlying t = some (.array n e)) (he : P.underlying e = some (.int .u8)) (hc : P.cellsOf t = n) (hce : P.cellsOf e = 1) {l : List Int} (hl : l.length = n) (hb : isByte l) :
    P.keyLits (D + 2) t (l.map (Value.int .u8)) = some (l.map (Lit.int .u8)) := by
  have key : ∀ L : List Nat, (∀ i ∈ L, i < l.length) → L.mapM (fun i => P.keyLits (D + 1) e (((l.map (Value.int .u8)).drop (i * 1)).take 1)) = some (L.map fun i => [Lit.int .u8 (l.getD i 0)]) := by
    intro L
    induction L with
    | nil => intro _; rfl
    | cons i L ih =>
      intro h
      have hi := h i (List.mem_cons_self ..)
      have e1 : ((l.map (Value.int .u8)).drop (i * 1)).take 1 = [Value.int .u8 (l.getD i 0)] := by
        rw [Nat.mul_one, List.drop_eq_getElem_cons (by simpa using hi)]
        simp [List.getD, hi]
      have hx := getD_byte hb i
      have e2 : P.keyLits (D + 1) e [Value.int .u8 (l.getD i 0)] = some [Lit.int .u8 (l.getD i 0)] := by
        unfold Program.keyLits
        have : (Lit.int .u8 (l.getD i 0)).wf = true := by
          unfold Lit.wf
          rw [Bool.and_eq_true, decide_eq_true_eq, decide_eq_true_eq]
          exact ⟨hx.1, hx.2⟩
        simp only [he]
        rw [if_pos ⟨trivial, this⟩]
      rw [List.mapM_cons, e1, e2, ih (fun j hj => h j (List.mem_cons_of_mem _ hj))]
      rfl
  unfold Program.keyLits
  simp only [ht, hce]
  rw [if_pos (by rw [List.length_map, hc, hl]), key _ (fun i hi => by rw [hl]; exact List.mem_range.1 hi), Option.map_some, flatten_singles]
  congr 1
  apply List.ext_getElem
  · simp [hl]
  · intro i h1 h2
    have h3 : i < l.length := by simpa using h2
    simp [List.getD, h3]

theorem lits_inj : ∀ {a b : List Int}, a.map (Lit.int .u8) = b.map (Lit.int .u8) → a = b
  | [], [], _ => rfl
  | [], _ :: _, h => by cases h
  | _ :: _, [], h => by cases h
  | x :: a, y :: b, h => by
    rw [List.map_cons, List.map_cons] at h
    injection h with h1 h2
    injection h1 with _ h3
    rw [h3, lits_inj h2]

set_option maxRecDepth 100000 in
theorem name_equal (w : World) {a b : List Int} (ha : a.length = 16) (hb : b.length = 16) (ba : isByte a) (bb : isByte b) :
    (Op.equalIn 10000 24 (.agg (a.map (Value.int .u8)).toArray) (.agg (b.map (Value.int .u8)).toArray)).run Try.prog w = .ok (decide (a = b)) w := by
  have hu : Try.prog.underlying 24 = some (.array 16 5) := by kernel_rfl
  have hue : Try.prog.underlying 5 = some (.int .u8) := by kernel_rfl
  have hc : Try.prog.cellsOf 24 = 16 := by kernel_rfl
  have hce : Try.prog.cellsOf 5 = 1 := by kernel_rfl
  have hk : Try.prog.keyTypeAt 3 24 = true := by kernel_rfl
  have f : ∀ l : List Int, l.length = 16 → (Value.agg (l.map (Value.int .u8)).toArray).formed Try.prog 24 = true := by
    intro l hl
    unfold Value.formed
    simp only [hu, hc]
    simp [hl]
  obtain ⟨r, hr, hi⟩ := run_equalIn_deep 9997 3 24 hk w 2 2 _ _ _ _ (f a ha) (f b hb) (keyLits_bytes hu hue hc hce ha ba (D := 0)) (keyLits_bytes hu hue hc hce hb bb (D := 0))
  rw [hr]
  congr 1
  rw [Bool.eq_iff_iff, hi, decide_eq_true_eq]
  exact ⟨lits_inj, fun h => by rw [h]⟩

def goodLits (c : Core) : Prop := (-9223372036854775808 ≤ c.client ∧ c.client ≤ 9223372036854775807) ∧ (-9223372036854775808 ≤ c.kind ∧ c.kind ≤ 9223372036854775807) ∧ (0 ≤ c.id ∧ c.id ≤ 18446744073709551615) ∧ (0 ≤ c.gen ∧ c.gen ≤ 18446744073709551615) ∧ c.name.length = 16 ∧ isByte c.name

set_option maxRecDepth 100000 in
theorem core_lits (c : Core) (h : goodLits c) : Try.prog.keyLits 4 56 (coreCells c) = some (.int .i64 c.client :: .int .i64 c.kind :: .int .u64 c.id :: .int .u64 c.gen :: c.name.map (Lit.int .u8)) := by
  have hu : ∃ fs : Array Field, Try.prog.underlying 56 = some (.struct fs) ∧ fs.toList.map (fun f => (f.type, f.offset)) = [(3, 0), (3, 1), (22, 2), (22, 3), (24, 4)] ∧ fs.all (·.name != "_") = true := ⟨Try.prog.fieldsOf 56, by kernel_rfl, by kernel_rfl, by kernel_rfl⟩
  obtain ⟨fs, hu, hfs, hne⟩ := hu
  have hn : Try.prog.underlying 24 = some (.array 16 5) := by kernel_rfl
  have hue : Try.prog.underlying 5 = some (.int .u8) := by kernel_rfl
  have hui : Try.prog.underlying 3 = some (.int .i64) := by kernel_rfl
  have huu : Try.prog.underlying 22 = some (.int .u64) := by kernel_rfl
  have c1 : Try.prog.cellsOf 24 = 16 := by kernel_rfl
  have c2 : Try.prog.cellsOf 5 = 1 := by kernel_rfl
  have c3 : Try.prog.cellsOf 3 = 1 := by kernel_rfl
  have c4 : Try.prog.cellsOf 22 = 1 := by kernel_rfl
  have c5 : Try.prog.cellsOf 56 = 20 := by kernel_rfl
  obtain ⟨h1, h2, h3, h4, h5, h6⟩ := h
  have gi : ∀ x : Int, -9223372036854775808 ≤ x ∧ x ≤ 9223372036854775807 → Try.prog.keyLits 3 3 [Value.int .i64 x] = some [Lit.int .i64 x] := by
    intro x hx
    unfold Program.keyLits
    simp only [hui]
    rw [if_pos ⟨trivial, by unfold Lit.wf; rw [Bool.and_eq_true, decide_eq_true_eq, decide_eq_true_eq]; exact hx⟩]
  have gu : ∀ x : Int, 0 ≤ x ∧ x ≤ 18446744073709551615 → Try.prog.keyLits 3 22 [Value.int .u64 x] = some [Lit.int .u64 x] := by
    intro x hx
    unfold Program.keyLits
    simp only [huu]
    rw [if_pos ⟨trivial, by unfold Lit.wf; rw [Bool.and_eq_true, decide_eq_true_eq, decide_eq_true_eq]; exact hx⟩]
  have gn := keyLits_bytes (P := Try.prog) hn hue c1 c2 h5 h6 (D := 1)
  have hmap : fs.toList.mapM (fun f => Try.prog.keyLits 3 f.type (((coreCells c).drop f.offset).take (Try.prog.cellsOf f.type))) = (fs.toList.map (fun f => (f.type, f.offset))).mapM (fun p : TypeId × Nat => Try.prog.keyLits 3 p.1 (((coreCells c).drop p.2).take (Try.prog.cellsOf p.1))) := by
    rw [List.mapM_map]
    rfl
  unfold Program.keyLits
  simp only [hu]
  rw [if_pos ⟨by rw [c5, coreCells]; simp [h5], hne⟩, hmap, hfs]
  simp only [List.mapM_cons, List.mapM_nil, c1, c3, c4]
  have d0 : ((coreCells c).drop 0).take 1 = [Value.int .i64 c.client] := rfl
  have d1 : ((coreCells c).drop 1).take 1 = [Value.int .i64 c.kind] := rfl
  have d2 : ((coreCells c).drop 2).take 1 = [Value.int .u64 c.id] := rfl
  have d3 : ((coreCells c).drop 3).take 1 = [Value.int .u64 c.gen] := rfl
  have d4 : ((coreCells c).drop 4).take 16 = c.name.map (Value.int .u8) := by
    show (c.name.map (Value.int .u8)).take 16 = _
    rw [List.take_of_length_le (by simp [h5])]
  rw [d0, d1, d2, d3, d4, gi _ h1, gi _ h2, gu _ h3, gu _ h4, gn]
  simp

set_option maxRecDepth 100000 in
theorem core_equal (w : World) {c c' : Core} (h : goodLits c) (h' : goodLits c') :
    (Op.equalIn 10000 56 (.agg (coreCells c).toArray) (.agg (coreCells c').toArray)).run Try.prog w = .ok (decide (c = c')) w := by
  have hu : ∃ fs : Array Field, Try.prog.underlying 56 = some (.struct fs) := ⟨Try.prog.fieldsOf 56, by kernel_rfl⟩
  have hc : Try.prog.cellsOf 56 = 20 := by kernel_rfl
  have hk : Try.prog.keyTypeAt 4 56 = true := by kernel_rfl
  obtain ⟨fs, hu⟩ := hu
  have f : ∀ c : Core, goodLits c → (Value.agg (coreCells c).toArray).formed Try.prog 56 = true := by
    intro c hl
    obtain ⟨-, -, -, -, h5, -⟩ := hl
    unfold Value.formed
    simp only [hu, hc]
    simp [coreCells, h5]
  obtain ⟨r, hr, hi⟩ := run_equalIn_deep 9996 4 56 hk w 4 4 _ _ _ _ (f c h) (f c' h') (core_lits c h) (core_lits c' h')
  rw [hr]
  congr 1
  rw [Bool.eq_iff_iff, hi, decide_eq_true_eq]
  constructor
  · intro e
    cases c; cases c'
    simp only [List.cons.injEq, Lit.int.injEq, true_and] at e
    obtain ⟨rfl, rfl, rfl, rfl, e5⟩ := e
    cases lits_inj e5
    rfl
  · intro e
    rw [e]
end Go.Proofs.Ytpacfijkhhjfeaa
