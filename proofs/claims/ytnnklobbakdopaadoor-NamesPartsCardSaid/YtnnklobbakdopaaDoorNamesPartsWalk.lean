/- The walk of NamesParts. -/
import Derived.Test.YtnnklobbakdopaaDoorNamesTellWalk
namespace Go.Proofs.YtnnklobbakdopaaDoor
set_option linter.unusedVariables false
set_option linter.unusedSimpArgs false
open Go.RowKit

/-! ### plain laws -/
theorem kindL_parts (l : List UInt8) (h : kindL l ≠ 0) : l.length ≤ 64 ∧ (partsL l).all goodL = true ∧
    ((∃ r, l = headsS ++ 47 :: r ∧ kindL l = 1) ∨ (∃ r, l = tagsS ++ 47 :: r ∧ kindL l = 2)) := by
  unfold kindL at h ⊢
  by_cases h1 : 64 < l.length
  · rw [if_pos h1] at h; exact absurd rfl h
  rw [if_neg h1] at h ⊢
  by_cases h2 : (partsL l).all goodL = false
  · rw [if_pos h2] at h; exact absurd rfl h
  rw [if_neg h2] at h ⊢
  refine ⟨by omega, by simpa using h2, ?_⟩
  by_cases h3 : (headsS ++ [47]).isPrefixOf l = true
  · rw [if_pos h3]
    obtain ⟨r, hr⟩ := List.isPrefixOf_iff_prefix.1 h3
    exact Or.inl ⟨r, by rw [← hr, List.append_assoc]; rfl, rfl⟩
  rw [if_neg h3] at h ⊢
  by_cases h4 : (tagsS ++ [47]).isPrefixOf l = true
  · rw [if_pos h4]
    obtain ⟨r, hr⟩ := List.isPrefixOf_iff_prefix.1 h4
    exact Or.inr ⟨r, by rw [← hr, List.append_assoc]; rfl, rfl⟩
  · rw [if_neg h4] at h; exact absurd rfl h

theorem goodL_ne {p : List UInt8} (h : goodL p = true) : p ≠ [] := by
  rintro rfl
  simp [goodL] at h

theorem goodL_part (p : List UInt8) (h : goodL p = true) (hl : p.length ≤ 64) : partL p = true := by
  have hne := goodL_ne h
  simp only [goodL, Bool.and_eq_true, Bool.not_eq_true', beq_eq_false_iff_ne, ne_eq] at h
  obtain ⟨⟨⟨⟨⟨⟨h1, h2⟩, h3⟩, h4⟩, h5⟩, h6⟩, h7⟩ := h
  have hall := List.all_eq_true.1 h5
  have n47 : p.any (· == 47) = false := by
    rw [Bool.eq_false_iff]; intro hc
    obtain ⟨x, hx, he⟩ := List.any_eq_true.1 hc
    have hx2 := hall x hx
    rw [eq_of_beq he] at hx2
    exact absurd hx2 (by decide)
  have n0 : p.any (· == 0) = false := by
    rw [Bool.eq_false_iff]; intro hc
    obtain ⟨x, hx, he⟩ := List.any_eq_true.1 hc
    have hx2 := hall x hx
    rw [eq_of_beq he] at hx2
    exact absurd hx2 (by decide)
  have e1 : (p == [46]) = false := beq_eq_false_iff_ne.2 (fun e => by rw [e] at h3; exact h3 rfl)
  have e2 : (p == [46, 46]) = false := beq_eq_false_iff_ne.2 (fun e => by rw [e] at h3; exact h3 rfl)
  unfold partL
  rw [n47, n0, e1, e2, decide_eq_true hl, h1]
  rfl

theorem partsL_len : ∀ (l p : List UInt8), p ∈ partsL l → p.length ≤ l.length
  | [], p, h => by simp [partsL] at h; subst h; exact Nat.le_refl _
  | a :: t, p, h => by
    rw [partsL] at h
    have ih := fun q hq => partsL_len t q hq
    by_cases ha : a = 47
    · rw [if_pos ha] at h
      rcases List.mem_cons.1 h with rfl | h
      · exact Nat.zero_le _
      · exact Nat.le_succ_of_le (ih p h)
    · rw [if_neg ha] at h
      cases hp : partsL t with
      | nil => exact absurd hp (partsL_ne t)
      | cons q r =>
        rw [hp] at h ih
        rcases List.mem_cons.1 h with rfl | h
        · have := ih q (by simp)
          simp only [List.length_cons]; omega
        · exact Nat.le_succ_of_le (ih p (by simp [h]))

theorem all_parts_tree (l : List UInt8) (h : (partsL l).all goodL = true) (hl : l.length ≤ 64) : (partsL l).all partL = true := by
  rw [List.all_eq_true] at h ⊢
  intro p hp
  exact goodL_part p (h p hp) (Nat.le_trans (partsL_len l p hp) hl)

theorem kind_first : kindL headsS = 0 ∧ kindL tagsS = 0 := by decide +kernel

theorem heads_plain : ∀ c ∈ headsS, c ≠ 47 := by decide
theorem tags_plain : ∀ c ∈ tagsS, c ≠ 47 := by decide

/-- a part more -/
theorem kindL_more (l m : List UInt8) (h : kindL l ≠ 0) :
    kindL (l ++ 47 :: m) = if kindL (headsS ++ 47 :: m) = 1 ∧ l.length + 1 + m.length ≤ 64 then kindL l else 0 := by
  obtain ⟨h1, h2, h3⟩ := kindL_parts l h
  have hl6 : 6 ≤ l.length := by
    rcases h3 with ⟨r, rfl, _⟩ | ⟨r, rfl, _⟩
    · simp [headsS]
    · rw [partsL_append, partsL_plain tagsS tags_plain, List.all_append, Bool.and_eq_true] at h2
      have hr : r ≠ [] := by
        rintro rfl
        exact absurd h2.2 (by decide)
      have := List.length_pos_iff.2 hr
      simp [tagsS]; omega
  have hlen : (l ++ 47 :: m).length = l.length + 1 + m.length := by simp; omega
  have hheads : kindL (headsS ++ 47 :: m) = if 64 < 6 + m.length then 0 else if (partsL m).all goodL = false then 0 else 1 := by
    have e1 : (headsS ++ 47 :: m).length = 6 + m.length := by simp [headsS]; omega
    have e2 : (partsL (headsS ++ 47 :: m)).all goodL = (partsL m).all goodL := by
      rw [partsL_append, partsL_plain headsS heads_plain, List.all_append]
      have : ([headsS] : List (List UInt8)).all goodL = true := by decide
      rw [this, Bool.true_and]
    have e3 : (headsS ++ [47]).isPrefixOf (headsS ++ 47 :: m) = true := List.isPrefixOf_iff_prefix.2 ⟨m, by rw [List.append_assoc]; rfl⟩
    unfold kindL
    rw [e1, e2, if_pos e3]
  by_cases hbig : 64 < l.length + 1 + m.length
  · rw [if_neg (by omega)]
    unfold kindL
    rw [hlen, if_pos hbig]
  · have ha : (partsL (l ++ 47 :: m)).all goodL = (partsL m).all goodL := by rw [partsL_append, List.all_append, h2, Bool.true_and]
    have hh : kindL (headsS ++ 47 :: m) = if (partsL m).all goodL = false then 0 else 1 := by rw [hheads, if_neg (by omega)]
    rw [hh]
    by_cases hm : (partsL m).all goodL = false
    · rw [if_pos hm, if_neg (by omega)]
      unfold kindL
      rw [hlen, if_neg hbig, ha, if_pos hm]
    · rw [if_neg hm, if_pos ⟨rfl, by omega⟩]
      rcases h3 with ⟨r, hr, hk⟩ | ⟨r, hr, hk⟩
      · rw [hk]
        unfold kindL
        rw [hlen, if_neg hbig, ha, if_neg hm, if_pos (List.isPrefixOf_iff_prefix.2 ⟨r ++ 47 :: m, by rw [hr]; simp⟩)]
      · rw [hk]
        unfold kindL
        have e3 : ¬ (headsS ++ [47]).isPrefixOf (l ++ 47 :: m) = true := by rw [hr]; simp [headsS, tagsS, List.isPrefixOf]
        rw [hlen, if_neg hbig, ha, if_neg hm, if_neg e3, if_pos (List.isPrefixOf_iff_prefix.2 ⟨r ++ 47 :: m, by rw [hr]; simp⟩)]

/-! ### of texts -/
theorem path_of_kind (s : ByteArray) (h : refKindV s ≠ 0) : refPathOk s = true ∧ 2 ≤ (partsOf s).length ∧ s.size ≤ 64 ∧ refKindV ((partsOf s).getD 0 ⟨#[]⟩) = 0 := by
  rw [refKindV_eq] at h
  obtain ⟨h1, h2, h3⟩ := kindL_parts _ h
  rw [size_len] at h1
  have hp := partsOf_eq s
  refine ⟨?_, ?_, h1, ?_⟩
  · unfold refPathOk
    rw [decide_eq_true (by omega), Bool.true_and]
    have := all_parts_tree _ h2 (by rw [size_len]; exact h1)
    rw [← hp, all_map] at this
    rw [← this]
    congr 1
    exact funext fun p => refPartB_eq p
  · have e : (partsOf s).length = (partsL s.data.toList).length := by rw [← hp, List.length_map]
    rw [e]
    rcases h3 with ⟨r, hr, _⟩ | ⟨r, hr, _⟩
    · rw [hr, partsL_append, partsL_plain headsS heads_plain]
      have := List.length_pos_iff.2 (partsL_ne r)
      simp; omega
    · rw [hr, partsL_append, partsL_plain tagsS tags_plain]
      have := List.length_pos_iff.2 (partsL_ne r)
      simp; omega
  · rw [refKindV_eq, getD_map_toList, hp]
    rcases h3 with ⟨r, hr, _⟩ | ⟨r, hr, _⟩
    · rw [hr, partsL_append, partsL_plain headsS heads_plain]; exact kind_first.1
    · rw [hr, partsL_append, partsL_plain tagsS tags_plain]; exact kind_first.2

theorem kind_more (s m : ByteArray) (h : refKindV s ≠ 0) :
    refKindV (s ++ ⟨#[47]⟩ ++ m) = if refKindV (⟨#[104, 101, 97, 100, 115, 47]⟩ ++ m) = 1 ∧ s.size + 1 + m.size ≤ 64 then refKindV s else 0 := by
  rw [refKindV_eq] at h
  have e1 : (s ++ ⟨#[47]⟩ ++ m).data.toList = s.data.toList ++ 47 :: m.data.toList := by simp [ByteArray.data_append, Array.toList_append]
  have e2 : ((⟨#[104, 101, 97, 100, 115, 47]⟩ : ByteArray) ++ m).data.toList = headsS ++ 47 :: m.data.toList := by simp [ByteArray.data_append, Array.toList_append, headsS]
  rw [refKindV_eq, refKindV_eq, refKindV_eq, e1, e2, kindL_more _ _ h, size_len, size_len]

set_option maxHeartbeats 800000 in
theorem namesparts_walk (s m : ByteArray) (w : World) (hs : s.size ≤ 140737488351232) (hm : m.size ≤ 140737488351232) (hS : w.ShapedOpen Tryd.prog) :
    Calls Tryd.prog 4 #[.string s, .string m] w fun e w' => e = .returned (.bool true) ∧ Below w.heap.size w w' := by
  have HS := Lib.hid hS; clear hS
  by_cases h1 : 200 < (s.size : Int)
  · go_enter Tryd.func4, Tryd.ntmps4
    go_wp2_with fail
    go_ret
    exact ⟨rfl, Below.refl _ _⟩
  by_cases h2 : 200 < (m.size : Int)
  · go_enter Tryd.func4, Tryd.ntmps4
    go_wp2_with fail
    go_ret
    exact ⟨rfl, Below.refl _ _⟩
  have b1 : (s.size : Int) ≤ 200 := by omega
  have b2 : (m.size : Int) ≤ 200 := by omega
  clear h1 h2
  by_cases hk : refKindV s = 0
  · go_enter Tryd.func4, Tryd.ntmps4
    go_wp2_with fail
    refine (kind_calls2 s w (by omega) HS.out).mono ?_
    rintro e w1 ⟨rfl, hb1⟩
    go_wp2_with fail
    refine (one_calls _ (shaped_below HS.out hb1)).mono ?_
    rintro e w2 ⟨rfl, hb2⟩
    go_wp2_with fail
    go_ret
    exact ⟨rfl, hb1.trans (hb2.mono hb1.size)⟩
  · obtain ⟨p1, p2, p3, p4⟩ := path_of_kind s hk
    have P1 := Lib.hid p1
    have P4 := Lib.hid p4
    have HM := Lib.hid (kind_more s m hk)
    have hz1 : ((⟨#[104, 101, 97, 100, 115, 47]⟩ : ByteArray) ++ m).size = 6 + m.size := by rw [ByteArray.size_append]; rfl
    have hz2 : (s ++ ⟨#[47]⟩ ++ m).size = s.size + 1 + m.size := by rw [ByteArray.size_append, ByteArray.size_append]; rfl
    have HZ2 := Lib.hid hz2
    have HZ1 := Lib.hid hz1
    clear hz1 hz2
    have hk2 : (refKindV s == 0) = false := beq_eq_false_iff_ne.2 hk
    have hc0 : ∀ k, k < (partsOf s).length → (partsOf s).getD 0 ⟨#[]⟩ = (partsOf s).getD 0 ⟨#[]⟩ := fun _ _ => rfl
    clear p1 p4 hk hc0
    go_enter Tryd.func4, Tryd.ntmps4
    go_wp2_with fail
    refine (kind_calls2 s w (by omega) HS.out).mono ?_
    rintro e w1 ⟨rfl, hb1⟩
    go_wp2_with fail
    refine (path_yes2 s w1 (shaped_below HS.out hb1) P1.out).mono ?_
    rintro e w2 ⟨b, rfl, hbw, hc, hb2⟩
    have hc0 := hc 0 (by omega)
    have hbw2 := hb1.trans (hb2.mono hb1.size)
    clear hc
    have hpz : ((partsOf s).getD 0 ⟨#[]⟩).size ≤ s.size := partsOf_size s _ (by
      have : 0 < (partsOf s).length := by omega
      simp [List.getD, this])
    generalize (partsOf s).getD 0 ⟨#[]⟩ = x at *
    go_wp2_with fail
    refine (kind_calls2 x w2 (by omega) (shaped_below HS.out hbw2)).mono ?_
    rintro e w3 ⟨rfl, hb3⟩
    have hbw3 := hbw2.trans (hb3.mono hbw2.size)
    rw [P4.out]
    clear hc0
    go_wp2_with fail
    refine (kind_calls2 _ w3 (by rw [HZ1.out]; omega) (shaped_below HS.out hbw3)).mono ?_
    rintro e w4 ⟨rfl, hb4⟩
    have hbw4 := hbw3.trans (hb4.mono hbw3.size)
    by_cases hcond : refKindV (⟨#[104, 101, 97, 100, 115, 47]⟩ ++ m) = 1 ∧ s.size + 1 + m.size ≤ 64
    · have hw : refKindV (s ++ ⟨#[47]⟩ ++ m) = refKindV s := by rw [HM.out, if_pos hcond]
      have HW := Lib.hid hw
      rw [hcond.1]
      have h64 : (s.size : Int) + 1 + m.size ≤ 64 := by omega
      have hsz : (s ++ ⟨#[47]⟩ ++ m).size < 4294967281 := by rw [HZ2.out]; omega
      have HSZ := Lib.hid hsz
      clear hsz
      clear hw hcond
      go_wp2_with fail
      refine (kind_calls2 _ w4 HSZ.out (shaped_below HS.out hbw4)).mono ?_
      rintro e w5 ⟨rfl, hb5⟩
      have hbw5 := hbw4.trans (hb5.mono hbw4.size)
      rw [HW.out]
      go_wp2_with fail
      refine (one_calls _ (shaped_below HS.out hbw5)).mono ?_
      rintro e w6 ⟨rfl, hb6⟩
      go_wp2_with fail
      go_ret
      exact ⟨rfl, hbw5.trans (hb6.mono hbw5.size)⟩
    · have hw : refKindV (s ++ ⟨#[47]⟩ ++ m) = 0 := by rw [HM.out, if_neg hcond]
      have HW := Lib.hid hw
      have hnot : (refKindV (⟨#[104, 101, 97, 100, 115, 47]⟩ ++ m) = 1 ∧ 64 < (s.size : Int) + 1 + m.size) ∨ (refKindV (⟨#[104, 101, 97, 100, 115, 47]⟩ ++ m) == 1) = false := by
        by_cases h1 : refKindV (⟨#[104, 101, 97, 100, 115, 47]⟩ ++ m) = 1
        · left; exact ⟨h1, by have : ¬ s.size + 1 + m.size ≤ 64 := fun h2 => hcond ⟨h1, h2⟩
                              omega⟩
        · right; exact beq_eq_false_iff_ne.2 h1
      have hsz : (s ++ ⟨#[47]⟩ ++ m).size < 4294967281 := by rw [HZ2.out]; omega
      have HSZ := Lib.hid hsz
      clear hw hcond hsz HM
      generalize (refKindV (⟨#[104, 101, 97, 100, 115, 47]⟩ ++ m)) = x1 at *
      rcases hnot with ⟨rfl, hbig⟩ | hne
      all_goals
        go_wp2_with fail
        refine (kind_calls2 _ w4 HSZ.out (shaped_below HS.out hbw4)).mono ?_
        rintro e w5 ⟨rfl, hb5⟩
        have hbw5 := hbw4.trans (hb5.mono hbw4.size)
        rw [HW.out]
        go_wp2_with fail
        refine (one_calls _ (shaped_below HS.out hbw5)).mono ?_
        rintro e w6 ⟨rfl, hb6⟩
        go_wp2_with fail
        go_ret
        exact ⟨rfl, hbw5.trans (hb6.mono hbw5.size)⟩
end Go.Proofs.YtnnklobbakdopaaDoor
