/- Append of bytes to a slice of the call's own, at a step of a region that draws its order; small laws on cells. -/
import Derived.Test.YtpacfijkhhjfeaaWirePut
import Derived.Deep.AppendLies
import Derived.Deep.RegionLaw
namespace Go.Proofs.Ytpacfijkhhjfeaa
set_option linter.unusedVariables false
set_option linter.unusedSimpArgs false
open Go.RowKit

theorem run_append_bytes (w : World) (ty : TypeId) {B : Nat} {v xv : Value} {l m : List Int} (hown : owns w B v l) (hrow : isRow w .u8 xv m) (hnil : NilOk xv) (hl : l.length + m.length ≤ 2 ^ 46) (hB : B ≤ w.heap.size) :
    ∃ v' w', (Builtin.append_ #[26, 26] ty #[v, xv]).run Try.prog w = .ok v' w' ∧ owns w' B v' (l ++ m) ∧ Below B w w' := by
  obtain ⟨i0, hi, hz0, hz1, hz2⟩ := info_parts info_u8
  obtain ⟨ad, c, rfl, hc, hr⟩ := hrow
  rcases ad with _ | ad
  · obtain ⟨h1, h2⟩ := hnil _ _ rfl
    have hm := List.eq_nil_of_length_eq_zero h1
    subst hm h2
    have hle : ∃ base n cap, v = .slice base n cap ∧ n ≤ cap := by
      rcases hown.form with ⟨rfl, _⟩ | ⟨g, c', rfl, _, _, hc'⟩
      · exact ⟨none, 0, 0, rfl, Nat.le_refl _⟩
      · exact ⟨_, _, _, rfl, hc'⟩
    obtain ⟨base, n, cap, rfl, hle⟩ := hle
    exact ⟨_, w, run_append_nothing (P := Try.prog) w 26 26 ty 5 i0 Try.underlying26 hi base n cap hle (.slice none 0 0) (Src.ofNil w Try.underlying26 0), by rw [List.append_nil]; exact hown, Below.refl _ _⟩
  · have hnews : ∀ j u, (m.map (Value.int .u8))[j]? = some u → w.cell? (ad.add j) = some u := by
      intro j u hj
      rcases Nat.lt_or_ge j m.length with h | h
      · obtain ⟨b, hb, _, hcell⟩ := hr (by intro hh; rw [hh] at h; simp at h)
        cases hb
        rw [hcell j h, ← hj]
        simp [List.getD, h]
      · rw [List.getElem?_eq_none (by simpa using h)] at hj; cases hj
    have h1 : ∀ u ∈ m.map (Value.int .u8), u.oneCell' = true := by
      intro u hu
      obtain ⟨y, _, rfl⟩ := List.mem_map.1 hu
      rfl
    obtain ⟨v', w', hrun, ho, hg, _, _⟩ := run_append_own_at (P := Try.prog) w B 26 ty 5 i0 (.int .u8 0) 1 1 Try.underlying26 hi hz0 hz1 hz2 rfl (by decide) v l.length (l.map (Value.int .u8)) hown ad m.length c (m.map (Value.int .u8)) (by simp) hnews h1 (by unfold maxLen; omega) (by omega) hB
    refine ⟨v', w', hrun, ?_, (Below.refl B w).grown hg hB fun k hk => hown.ge k hk⟩
    unfold owns
    rw [List.length_append, List.map_append]
    exact ho

/-- 'append(v, x...)' of bytes, at a step of a region that draws -/
theorem step_append_bytes {ops : Array Oper} {o : Oper} {a : Act} {w : World} {K : Act → World → Prop} {Q : Exit → Act → World → Prop} {E : Prop} (hgd : o.guard = none) (s x : Operand)
    (ho : o.op = .call { callee := .builtin .append, args := #[s, x], argTypes := #[26, 26] })
    {B : Nat} {v xv : Value} {l m : List Int} (hs : a.eval s = v) (hx : a.eval x = xv) (hown : owns w B v l) (hrow : isRow w .u8 xv m) (hnil : NilOk xv) (hl : l.length + m.length ≤ 2 ^ 46) (hB : B ≤ w.heap.size)
    (h : ∀ v' w', owns w' B v' (l ++ m) → Below B w w' → K (a.put o.dst v') w') :
    if Region.wanted o (yielded ops a.tmps) = true then Oper.wp Try.prog o a w K Q else E := by
  have hw : Region.wanted o (yielded ops a.tmps) = true := by simp [Region.wanted, hgd]
  rw [if_pos hw]
  obtain ⟨v', w', hrun, h1, h2⟩ := run_append_bytes w o.type hown hrow hnil hl hB
  unfold Oper.wp execOp
  simp only [ho, resolve, invoke, builtin, Sem.run_bind, Sem.run_pure, Result.andThen_ok, List.map_toArray, List.map_cons, List.map_nil, hs, hx, hrun]
  exact h v' w' h1 h2

theorem row_one {w : World} {b : Nat} {x : Int} (h : w.cell? ⟨b, 0, none⟩ = some (.int .u8 x)) : isRow w .u8 (.slice (some ⟨b, 0, none⟩) 1 1) [x] :=
  ⟨_, 1, rfl, by simp, fun _ => ⟨_, rfl, World.block_lt_of_cell? w _ h, fun j hj => by
    have hj0 : j = 0 := by simpa using hj
    subst hj0
    rw [Addr.add_zero']; exact h⟩⟩

theorem nilOk_some (a : Addr) (n c : Nat) : NilOk (.slice (some a) n c) := fun _ _ he => by cases he

theorem owns.alloc {w : World} {B : Nat} {v : Value} {l : List Int} (h : owns w B v l) (o : Obj) : owns (w.alloc o) B v l := World.ownsRow.alloc h o
theorem owns.drew {w : World} {B : Nat} {v : Value} {l : List Int} (h : owns w B v l) : owns w.drew B v l := h

theorem cell_new (w : World) (x : Value) (t : TypeId) (n : Nat) (hn : n = w.heap.size) : (w.alloc (.cells #[x] t)).cell? ⟨n, 0, none⟩ = some x := by
  subst hn
  simp
end Go.Proofs.Ytpacfijkhhjfeaa
