/- Requests and replies as arguments: opened. -/
import Derived.Test.YtpacfijkhhjfeaaNames16
import Derived.Test.YtpacfijkhhjfeaaMsgCore
import Derived.Lib.SmallJoins
import Derived.Deep.Slices
import Derived.OpenShut
namespace Go.Proofs.Ytpacfijkhhjfeaa
set_option linter.unusedVariables false
set_option linter.unusedSimpArgs false
open Go.ChangeShapes Go.WideShapes Go.RowKit Go.Deep

section
variable {H : Type} {enc : TypeId × Value → H} {w : World} {spare : Nat → Bool} {held : Bool}

theorem cellsOf_u8 : Try.prog.cellsOf 5 = 1 := by kernel_rfl
theorem cellsOf_name : Try.prog.cellsOf 24 = 16 := by kernel_rfl

theorem u8_wf {n : Int} (h : (Lit.int .u8 n).wf = true) : 0 ≤ n ∧ n ≤ 255 := by
  exact bounds_u8 h

theorem open_name {fuel : Nat} {cs : List Value} {x : DataW H × List MemPlace} (h : DataW.trod enc Try.prog w 0 spare held fuel 24 cs = some x) : ∃ l : List Int, cs = l.map (Value.int .u8) ∧ l.length = 16 ∧ isByte l := by
  obtain ⟨xs, m, -, -, hlen, hxs, hi⟩ := DataW.trod_array Try.underlying24 h
  rw [cellsOf_name] at hlen
  have hall : ∀ i, i < 16 → ∃ n, cs[i]? = some (.int .u8 n) ∧ 0 ≤ n ∧ n ≤ 255 := by
    intro i hi16
    have h1 := hi i hi16
    rw [cellsOf_u8, Nat.mul_one, List.getElem?_eq_getElem (by omega)] at h1
    obtain ⟨n, hn, -, hw⟩ := DataW.trod_int Try.underlying5 h1
    refine ⟨n, ?_, u8_wf hw⟩
    have h2 := congrArg (fun l => l[0]?) hn
    simpa using h2
  refine ⟨cs.map (fun v => match v with | .int _ n => n | _ => 0), ?_, by simp [hlen], ?_⟩
  · rw [List.map_map]
    apply List.ext_getElem?
    intro i
    rw [List.getElem?_map]
    rcases Nat.lt_or_ge i 16 with h16 | h16
    · obtain ⟨n, hn, -⟩ := hall i h16
      rw [hn]
      rfl
    · rw [List.getElem?_eq_none (by omega)]
      rfl
  · intro y hy
    obtain ⟨v, hv, rfl⟩ := List.mem_map.1 hy
    obtain ⟨i, hi1, hi2⟩ := List.getElem_of_mem hv
    obtain ⟨n, hn, hb⟩ := hall i (by omega)
    rw [List.getElem?_eq_getElem hi1, hi2] at hn
    cases hn
    exact hb

theorem open_bytes {fuel : Nat} {cs : List Value} {x : DataW H × List MemPlace} (hsp : ∀ b, spare b = true) (h : DataW.trod enc Try.prog w 0 spare held fuel 26 cs = some x) :
    ∃ (a : Option Addr) (c : Nat) (d : List Int), cs = [.slice a d.length c] ∧ isRow w .u8 (.slice a d.length c) d ∧ isByte d ∧ NilOk (.slice a d.length c) ∧ d.length ≤ 9223372036854775807 := by
  rcases open_ints Try.underlying26 Try.underlying5 cellsOf_u8 h with ⟨rfl, -⟩ | ⟨a, len, cap, zs, rfl, -, hl, hm, hz, -, hc, hw⟩
  · exact ⟨none, 0, [], rfl, ⟨none, 0, rfl, Nat.le_refl _, fun h => absurd rfl h⟩, isByte.nil, (fun n c he => by cases he; exact ⟨rfl, rfl⟩), by simp⟩
  · rw [hsp, if_pos rfl] at hz
    have hlen : (zs.take len).length = len := by rw [List.length_take]; omega
    unfold maxLen at hm
    refine ⟨some a, cap, zs.take len, by rw [hlen], ⟨some a, cap, rfl, by omega, fun hne => ⟨a, rfl, ?_, fun j hj => ?_⟩⟩, fun y hy => u8_wf (hw y (List.mem_of_mem_take hy)), (fun n c he => by cases he), by omega⟩
    · have h0 : 0 < len := by
        rcases Nat.eq_zero_or_pos len with h | h
        · subst h; simp at hne
        · exact h
      have := World.block_lt_of_cell? w _ (hc 0 (by omega))
      rwa [add_block] at this
    · rw [hlen] at hj
      rw [hc j (by omega)]
      simp [List.getD, List.getElem?_take_of_lt hj]

theorem open_names {fuel : Nat} {cs : List Value} {x : DataW H × List MemPlace} (hsp : ∀ b, spare b = true) (h : DataW.trod enc Try.prog w 0 spare held fuel 25 cs = some x) :
    ∃ (a : Option Addr) (c : Nat) (ns : List (List Int)), cs = [.slice a ns.length c] ∧ isNames w 16 (.slice a ns.length c) ns ∧ (∀ n ∈ ns, isByte n) ∧ ns.length ≤ 9223372036854775807 := by
  rcases open_slice Try.underlying25 h with ⟨rfl, -⟩ | ⟨a, len, cap, m, n, D, Pl, rfl, -, hl, hm, hmm, -, hi⟩
  · exact ⟨none, 0, [], rfl, ⟨none, 0, rfl, Nat.le_refl _, (fun n h => by cases h), fun h => absurd rfl h⟩, (fun n h => by cases h), by simp⟩
  · rw [hsp, if_pos rfl] at hmm
    subst hmm
    rw [cellsOf_name] at hi
    have hex : ∀ i, i < len → ∃ l : List Int, w.cells? 0 (a.add (i * 16)) 16 = some (l.map (Value.int .u8)) ∧ l.length = 16 ∧ isByte l := by
      intro i hlt
      obtain ⟨cs', h1, h2⟩ := hi i (by omega)
      obtain ⟨l, rfl, hl16, hlb⟩ := open_name h2
      exact ⟨l, h1, hl16, hlb⟩
    obtain ⟨f, hf⟩ := choose_lt (α := List Int) hex
    have hlen : ((List.range len).map f).length = len := by simp
    unfold maxLen at hm
    refine ⟨some a, _, (List.range len).map f, by rw [hlen], ⟨some a, _, rfl, by omega, ?_, fun hne => ?_⟩, ?_, by omega⟩
    · intro n hn
      obtain ⟨i, hi1, rfl⟩ := List.mem_map.1 hn
      exact (hf i (by simpa using hi1)).2.1
    · have h0 : 0 < len := by
        rcases Nat.eq_zero_or_pos len with h | h
        · subst h; simp at hne
        · exact h
      have hcell : ∀ i, i < len → ∀ j v, ((f i).map (Value.int .u8))[j]? = some v → w.cell? (a.add (i * 16 + j)) = some v := by
        intro i hlt j v hj
        obtain ⟨-, hcl, hat⟩ := World.cells?_some (hf i hlt).1
        have hj16 : j < 16 := by
          rcases Nat.lt_or_ge j 16 with h | h
          · exact h
          · rw [List.getElem?_eq_none (by rw [hcl]; exact h)] at hj; cases hj
        have := hat j hj16
        rw [Go.Deep.add_add] at this
        rw [this]
        exact hj
      have h00 := hcell 0 h0 0 _ (by rw [List.getElem?_map, List.getElem?_eq_getElem (by rw [(hf 0 h0).2.1]; decide)]; rfl)
      obtain ⟨b, off, sp⟩ := a
      have hspot : sp = none := by simpa [Addr.add] using World.cell?_spot h00
      subst hspot
      refine ⟨b, off, rfl, ?_, fun i hlt j v hj => ?_⟩
      · have := World.block_lt_of_cell? w _ h00
        rwa [add_block] at this
      · rw [hlen] at hlt
        have hg : ((List.range len).map f).getD i [] = f i := by simp [List.getD, hlt]
        rw [hg] at hj
        have := hcell i hlt j v hj
        rw [add_plain] at this
        rw [Nat.add_assoc]
        exact this
    · intro n hn
      obtain ⟨i, hi1, rfl⟩ := List.mem_map.1 hn
      exact (hf i (by simpa using hi1)).2.2

theorem cellsOf_int : Try.prog.cellsOf 3 = 1 := by kernel_rfl
theorem cellsOf_u64 : Try.prog.cellsOf 22 = 1 := by kernel_rfl
theorem cellsOf_bytes : Try.prog.cellsOf 26 = 1 := by kernel_rfl
theorem cellsOf_names : Try.prog.cellsOf 25 = 1 := by kernel_rfl
theorem cellsOf_request : Try.prog.cellsOf 28 = 22 := by kernel_rfl
theorem cellsOf_reply : Try.prog.cellsOf 30 = 6 := by kernel_rfl

/-- what an argument of a request, of a reply, is -/
structure ArgOk (w : World) (c : Core) (an ad : Option Addr) (cn cd : Nat) (ns : List (List Int)) (d : List Int) : Prop where
  id : 0 ≤ c.id ∧ c.id ≤ 18446744073709551615
  gen : 0 ≤ c.gen ∧ c.gen ≤ 18446744073709551615
  client : -9223372036854775808 ≤ c.client ∧ c.client ≤ 9223372036854775807
  kind : -9223372036854775808 ≤ c.kind ∧ c.kind ≤ 9223372036854775807
  name : c.name.length = 16
  nameB : isByte c.name
  names : isNames w 16 (.slice an ns.length cn) ns
  namesB : ∀ n ∈ ns, isByte n
  data : isRow w .u8 (.slice ad d.length cd) d
  dataB : isByte d
  dataN : NilOk (.slice ad d.length cd)
  small : ns.length ≤ 9223372036854775807 ∧ d.length ≤ 9223372036854775807

set_option maxRecDepth 100000 in
set_option linter.constructorNameAsVariable false in
theorem open_request {v : Value} {x : DataW H} {p : List MemPlace} {b0 : Nat} (hsp : ∀ b, spare b = true) (hv : Value.okWide Try.prog w .any b0 28 v) (h : DataW.Trod enc Try.prog w 0 spare held 28 v x p) :
    ∃ (c : Core) (an ad : Option Addr) (cn cd : Nat) (ns : List (List Int)) (d : List Int), v = .agg (requestCells c (.slice an ns.length cn) (.slice ad d.length cd)).toArray ∧ ArgOk w c an ad cn cd ns d := by
  obtain ⟨cs, rfl, hsz⟩ := okWide_struct Try.underlying28 hv
  rw [cellsOf_request] at hsz
  obtain ⟨l⟩ := cs
  match l, hsz with
  | [a0, a1, a2, a3, a4, a5, a6, a7, a8, a9, a10, a11, a12, a13, a14, a15, a16, a17, a18, a19, a20, a21], _ =>
    obtain ⟨fuel, hf⟩ := h
    obtain ⟨xs, n, -, -, -, hlen, hg⟩ := DataW.trod_struct Try.underlying28 hf
    match xs, hlen with
    | [y0, y1, y2, y3, y4, y5, y6], _ =>
      have g0 : DataW.trod enc Try.prog w 0 spare held n 3 (([a0, a1, a2, a3, a4, a5, a6, a7, a8, a9, a10, a11, a12, a13, a14, a15, a16, a17, a18, a19, a20, a21].drop 0).take (Try.prog.cellsOf 3)) = some y0 := hg 0 _ rfl
      have g1 : DataW.trod enc Try.prog w 0 spare held n 22 (([a0, a1, a2, a3, a4, a5, a6, a7, a8, a9, a10, a11, a12, a13, a14, a15, a16, a17, a18, a19, a20, a21].drop 1).take (Try.prog.cellsOf 22)) = some y1 := hg 1 _ rfl
      have g2 : DataW.trod enc Try.prog w 0 spare held n 3 (([a0, a1, a2, a3, a4, a5, a6, a7, a8, a9, a10, a11, a12, a13, a14, a15, a16, a17, a18, a19, a20, a21].drop 2).take (Try.prog.cellsOf 3)) = some y2 := hg 2 _ rfl
      have g3 : DataW.trod enc Try.prog w 0 spare held n 24 (([a0, a1, a2, a3, a4, a5, a6, a7, a8, a9, a10, a11, a12, a13, a14, a15, a16, a17, a18, a19, a20, a21].drop 3).take (Try.prog.cellsOf 24)) = some y3 := hg 3 _ rfl
      have g4 : DataW.trod enc Try.prog w 0 spare held n 22 (([a0, a1, a2, a3, a4, a5, a6, a7, a8, a9, a10, a11, a12, a13, a14, a15, a16, a17, a18, a19, a20, a21].drop 19).take (Try.prog.cellsOf 22)) = some y4 := hg 4 _ rfl
      have g5 : DataW.trod enc Try.prog w 0 spare held n 25 (([a0, a1, a2, a3, a4, a5, a6, a7, a8, a9, a10, a11, a12, a13, a14, a15, a16, a17, a18, a19, a20, a21].drop 20).take (Try.prog.cellsOf 25)) = some y5 := hg 5 _ rfl
      have g6 : DataW.trod enc Try.prog w 0 spare held n 26 (([a0, a1, a2, a3, a4, a5, a6, a7, a8, a9, a10, a11, a12, a13, a14, a15, a16, a17, a18, a19, a20, a21].drop 21).take (Try.prog.cellsOf 26)) = some y6 := hg 6 _ rfl
      rw [cellsOf_int] at g0 g2
      rw [cellsOf_u64] at g1 g4
      rw [cellsOf_name] at g3
      rw [cellsOf_names] at g5
      rw [cellsOf_bytes] at g6
      obtain ⟨n0, e0, -, w0⟩ := DataW.trod_int Try.underlying3 g0
      obtain ⟨n1, e1, -, w1⟩ := DataW.trod_int Try.underlying22 g1
      obtain ⟨n2, e2, -, w2⟩ := DataW.trod_int Try.underlying3 g2
      obtain ⟨nm, e3, hnl, hnb⟩ := open_name g3
      obtain ⟨n4, e4, -, w4⟩ := DataW.trod_int Try.underlying22 g4
      obtain ⟨an, cn, ns, e5, hns, hnsb, hn1⟩ := open_names hsp g5
      obtain ⟨ad, cd, d, e6, hd, hdb, hdn, hd1⟩ := open_bytes hsp g6
      simp only [Value.cells, List.drop_succ_cons, List.drop_zero, List.take_succ_cons, List.take_zero, List.cons.injEq, and_true] at e0 e1 e2 e3 e4 e5 e6
      subst e0 e1 e2 e4 e5 e6
      refine ⟨⟨n0, n2, n1, n4, nm⟩, an, ad, cn, cd, ns, d, ?_, ⟨bounds_u64 w1, bounds_u64 w4, bounds_i64 w0, bounds_i64 w2, hnl, hnb, hns, hnsb, hd, hdb, hdn, hn1, hd1⟩⟩
      simp only [requestCells, ← e3]
      rfl

set_option maxRecDepth 100000 in
set_option linter.constructorNameAsVariable false in
theorem open_reply {v : Value} {x : DataW H} {p : List MemPlace} {b0 : Nat} (hsp : ∀ b, spare b = true) (hv : Value.okWide Try.prog w .any b0 30 v) (h : DataW.Trod enc Try.prog w 0 spare held 30 v x p) :
    ∃ (c : Core) (an ad : Option Addr) (cn cd : Nat) (ns : List (List Int)) (d : List Int), v = .agg (replyCells c (.slice an ns.length cn) (.slice ad d.length cd)).toArray ∧ c.name = List.replicate 16 0 ∧ ArgOk w c an ad cn cd ns d := by
  obtain ⟨cs, rfl, hsz⟩ := okWide_struct Try.underlying30 hv
  rw [cellsOf_reply] at hsz
  obtain ⟨l⟩ := cs
  match l, hsz with
  | [a0, a1, a2, a3, a4, a5], _ =>
    obtain ⟨fuel, hf⟩ := h
    obtain ⟨xs, n, -, -, -, hlen, hg⟩ := DataW.trod_struct Try.underlying30 hf
    match xs, hlen with
    | [y0, y1, y2, y3, y4, y5], _ =>
      have g0 : DataW.trod enc Try.prog w 0 spare held n 3 (([a0, a1, a2, a3, a4, a5].drop 0).take (Try.prog.cellsOf 3)) = some y0 := hg 0 _ rfl
      have g1 : DataW.trod enc Try.prog w 0 spare held n 22 (([a0, a1, a2, a3, a4, a5].drop 1).take (Try.prog.cellsOf 22)) = some y1 := hg 1 _ rfl
      have g2 : DataW.trod enc Try.prog w 0 spare held n 3 (([a0, a1, a2, a3, a4, a5].drop 2).take (Try.prog.cellsOf 3)) = some y2 := hg 2 _ rfl
      have g3 : DataW.trod enc Try.prog w 0 spare held n 22 (([a0, a1, a2, a3, a4, a5].drop 3).take (Try.prog.cellsOf 22)) = some y3 := hg 3 _ rfl
      have g4 : DataW.trod enc Try.prog w 0 spare held n 25 (([a0, a1, a2, a3, a4, a5].drop 4).take (Try.prog.cellsOf 25)) = some y4 := hg 4 _ rfl
      have g5 : DataW.trod enc Try.prog w 0 spare held n 26 (([a0, a1, a2, a3, a4, a5].drop 5).take (Try.prog.cellsOf 26)) = some y5 := hg 5 _ rfl
      rw [cellsOf_int] at g0 g2
      rw [cellsOf_u64] at g1 g3
      rw [cellsOf_names] at g4
      rw [cellsOf_bytes] at g5
      obtain ⟨n0, e0, -, w0⟩ := DataW.trod_int Try.underlying3 g0
      obtain ⟨n1, e1, -, w1⟩ := DataW.trod_int Try.underlying22 g1
      obtain ⟨n2, e2, -, w2⟩ := DataW.trod_int Try.underlying3 g2
      obtain ⟨n4, e4, -, w4⟩ := DataW.trod_int Try.underlying22 g3
      obtain ⟨an, cn, ns, e5, hns, hnsb, hn1⟩ := open_names hsp g4
      obtain ⟨ad, cd, d, e6, hd, hdb, hdn, hd1⟩ := open_bytes hsp g5
      simp only [Value.cells, List.drop_succ_cons, List.drop_zero, List.take_succ_cons, List.take_zero, List.cons.injEq, and_true] at e0 e1 e2 e4 e5 e6
      subst e0 e1 e2 e4 e5 e6
      exact ⟨⟨n0, n2, n1, n4, List.replicate 16 0⟩, an, ad, cn, cd, ns, d, rfl, rfl, ⟨bounds_u64 w1, bounds_u64 w4, bounds_i64 w0, bounds_i64 w2, rfl, isByte.replicate _, hns, hnsb, hd, hdb, hdn, hn1, hd1⟩⟩
end
end Go.Proofs.Ytpacfijkhhjfeaa
