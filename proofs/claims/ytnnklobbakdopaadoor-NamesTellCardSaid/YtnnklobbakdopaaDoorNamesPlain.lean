/- Plain laws: what the program's functions on names compute is what the document's compute. -/
import Derived.Test.YtnnklobbakdopaaDoorNamesRefKind
namespace Go.Proofs.YtnnklobbakdopaaDoor
set_option linter.unusedVariables false
set_option linter.unusedSimpArgs false
open Go.RowKit

def letter8 (c : UInt8) : Bool := letterB c.toNat

def noDots : List UInt8 → Bool
  | a :: b :: t => !(a == 46 && b == 46) && noDots (b :: t)
  | _ => true

def lockL : List UInt8 := [46, 108, 111, 99, 107]

def goodL (l : List UInt8) : Bool :=
  !l.isEmpty && !(l.getD 0 0 == 45) && !(l.getD 0 0 == 46) && !(l.getD (l.length - 1) 0 == 46) && l.all letter8 && noDots l && !(lockL.isSuffixOf l)

theorem size_len (s : ByteArray) : s.data.toList.length = s.size := Array.length_toList

/-! ### letters -/
theorem letterB_high (c : Int) (h : 128 ≤ c) : letterB c = false := by unfold letterB; simp; omega

theorem lettersFrom_eq (s : ByteArray) : ∀ (fuel pos : Nat), s.size ≤ pos + fuel → lettersFrom s fuel pos = (s.data.toList.drop pos).all letter8
  | 0, pos, h => by
    rw [List.drop_eq_nil_of_le (by rw [size_len]; omega)]; rfl
  | fuel + 1, pos, h => by
    rw [lettersFrom]
    by_cases hp : pos < s.size
    · have hl : pos < s.data.toList.length := by rw [size_len]; exact hp
      rw [if_pos hp, List.drop_eq_getElem_cons hl, List.all_cons]
      have e : s.data.toList[pos] = s[pos] := rfl
      rw [e]
      by_cases ha : (s[pos]'hp).toNat < 128
      · rw [decode_ascii s pos hp ha]
        show (letterB _ && lettersFrom s fuel (pos + 1)) = _
        rw [lettersFrom_eq s fuel (pos + 1) (by omega)]
        rfl
      · have hh := decode_high s pos hp (by omega)
        rw [letterB_high _ (by omega)]
        have : letter8 (s[pos]'hp) = false := letterB_high _ (by omega)
        rw [this]
        rfl
    · rw [if_neg hp, List.drop_eq_nil_of_le (by rw [size_len]; omega)]; rfl

/-! ### two dots -/
theorem contains_dots : ∀ l : List UInt8, Lib.contains l [46, 46] = !(noDots l)
  | [] => by simp [Lib.contains, Lib.index, noDots]
  | [a] => by simp [Lib.contains, Lib.index, noDots, List.isPrefixOf]
  | a :: b :: t => by
    have ih := contains_dots (b :: t)
    have hge := Lib.index_ge (b :: t) [46, 46]
    unfold Lib.contains at ih ⊢
    rw [Lib.index, noDots]
    by_cases h : a = 46 ∧ b = 46
    · obtain ⟨rfl, rfl⟩ := h
      simp [List.isPrefixOf]
    · have hp : ([46, 46] : List UInt8).isPrefixOf (a :: b :: t) = false := by
        simp only [List.isPrefixOf, Bool.and_true, Bool.and_eq_false_iff, beq_eq_false_iff_ne]
        by_cases h1 : a = 46
        · right; exact fun e => h ⟨h1, e.symm⟩
        · left; exact fun e => h1 e.symm
      have hb : (a == 46 && b == 46) = false := by
        rw [Bool.and_eq_false_iff]
        by_cases h1 : a = 46
        · right; exact beq_eq_false_iff_ne.2 (fun e => h ⟨h1, e⟩)
        · left; exact beq_eq_false_iff_ne.2 h1
      rw [hp, hb]
      simp only [Bool.false_eq_true, if_false, Bool.not_false, Bool.true_and]
      rw [← ih]
      split
      · rename_i hm
        have := eq_of_beq hm
        rw [this]
        try decide
      · rename_i hm
        have hm' : ¬ Lib.index (b :: t) [46, 46] = -1 := fun e => hm (by rw [e]; rfl)
        rw [decide_eq_true (by omega), decide_eq_true (by omega)]

theorem contains_take1 (l : List UInt8) : Lib.contains [45, 46] (l.take 1) = (l.isEmpty || l.getD 0 0 == 45 || l.getD 0 0 == 46) := by
  cases l with
  | nil => decide
  | cons a t =>
    show Lib.contains [45, 46] [a] = (false || a == 45 || a == 46)
    unfold Lib.contains
    by_cases h1 : a = 45
    · subst h1; decide
    by_cases h2 : a = 46
    · subst h2; decide
    simp [Lib.index, List.isPrefixOf, h1, h2]

theorem suffix_dot (l : List UInt8) (h : l ≠ []) : Lib.hasSuffix l [46] = (l.getD (l.length - 1) 0 == 46) := by
  rw [Bool.eq_iff_iff]
  unfold Lib.hasSuffix
  rw [List.isSuffixOf_iff_suffix, List.suffix_iff_eq_drop]
  have hl := List.length_pos_iff.2 h
  have hlt : l.length - 1 < l.length := by omega
  simp only [List.length_singleton]
  rw [List.drop_eq_getElem_cons hlt, show l.length - 1 + 1 = l.length by omega, List.drop_length]
  rw [beq_iff_eq]
  simp only [List.getD, List.getElem?_eq_getElem hlt, Option.getD_some]
  constructor
  · intro h2; exact ((List.cons.inj h2).1).symm
  · intro h2; rw [h2]

theorem goodB_eq (s : ByteArray) : goodB s = goodL s.data.toList := by
  unfold goodB goodL
  rw [lettersFrom_eq s s.size 0 (by omega), List.drop_zero, contains_dots, contains_take1]
  cases hl : s.data.toList with
  | nil => rfl
  | cons a t =>
    rw [suffix_dot _ (by simp)]
    unfold Lib.hasSuffix lockL
    simp only [List.isEmpty_cons, Bool.false_or, Bool.not_not, Bool.not_or, Bool.and_assoc]

/-! ### the document's -/
theorem bI_beq (s : ByteArray) (k : Nat) (c : UInt8) (n : Int) (hn : (c.toNat : Int) = n) : (bI s k == n) = (s.data.toList.getD k 0 == c) := by
  rw [Bool.eq_iff_iff, beq_iff_eq, beq_iff_eq]
  unfold bI
  rw [← hn]
  constructor
  · intro h; exact UInt8.toNat_inj.1 (by omega)
  · intro h; rw [h]

theorem noDots_snoc : ∀ (l : List UInt8) (c : UInt8), noDots (l ++ [c]) = (noDots l && !(decide (0 < l.length) && (c == 46) && (l.getD (l.length - 1) 0 == 46)))
  | [], c => by simp [noDots]
  | [a], c => by
    simp only [List.singleton_append, noDots, List.length_singleton, Nat.sub_self, List.getD_cons_zero, Bool.and_true, Bool.true_and]
    rw [Bool.and_comm (a == 46)]
    simp
  | a :: b :: t, c => by
    have ih := noDots_snoc (b :: t) c
    have e1 : (a :: b :: t).getD ((a :: b :: t).length - 1) 0 = (b :: t).getD ((b :: t).length - 1) 0 := rfl
    have e2 : decide (0 < (a :: b :: t).length) = true := by simp
    have e3 : decide (0 < (b :: t).length) = true := by simp
    show (!(a == 46 && b == 46) && noDots ((b :: t) ++ [c])) = ((!(a == 46 && b == 46) && noDots (b :: t)) && _)
    rw [ih, e1, e2, e3]
    simp only [Bool.and_assoc]

theorem okTo_eq (s : ByteArray) : ∀ k, k ≤ s.size → okTo s k = ((s.data.toList.take k).all letter8 && noDots (s.data.toList.take k))
  | 0, _ => by simp [okTo, noDots]
  | k + 1, h => by
    have hl : k < s.data.toList.length := by rw [size_len]; omega
    rw [okTo, okTo_eq s k (by omega), List.take_succ_eq_append_getElem hl, List.all_append, noDots_snoc, bI_beq s k 46 46 rfl, bI_beq s (k - 1) 46 46 rfl]
    have e : s.data.toList.getD k 0 = s.data.toList[k] := by simp only [List.getD, List.getElem?_eq_getElem hl, Option.getD_some]
    have elen : (s.data.toList.take k).length = k := by rw [List.length_take]; omega
    rw [elen, e]
    have e2 : bI s k = (s.data.toList[k].toNat : Int) := by unfold bI; rw [e]
    rw [e2]
    have e3 : 0 < k → (s.data.toList.take k).getD (k - 1) 0 = s.data.toList.getD (k - 1) 0 := fun hk => by
      simp only [List.getD]
      rw [List.getElem?_take, if_pos (by omega)]
    have e4 : (decide (0 < k) && (s.data.toList[k] == 46) && ((s.data.toList.take k).getD (k - 1) 0 == 46)) = (decide (0 < k) && (s.data.toList[k] == 46) && (s.data.toList.getD (k - 1) 0 == 46)) := by
      by_cases hk : 0 < k
      · rw [e3 hk]
      · simp [hk]
    rw [e4]
    simp only [List.all_cons, List.all_nil, Bool.and_true, letter8]
    cases (s.data.toList.take k).all (fun c => letterB c.toNat) <;> cases noDots (s.data.toList.take k) <;> cases letterB (s.data.toList[k].toNat : Int) <;> simp

theorem suffix_lock (s : ByteArray) : (decide (s.size < 5) || !((s.extract (s.size - 5) s.size).toList == [46, 108, 111, 99, 107])) = !(lockL.isSuffixOf s.data.toList) := by
  rw [Bool.eq_iff_iff]
  simp only [Bool.or_eq_true, decide_eq_true_eq, Bool.not_eq_true', beq_eq_false_iff_ne, ne_eq]
  rw [Bool.eq_false_iff, ne_eq, List.isSuffixOf_iff_suffix, List.suffix_iff_eq_drop, size_len]
  have e : (s.extract (s.size - 5) s.size).toList = s.data.toList.drop (s.size - 5) := by
    rw [ByteArray.toList_eq, Lib.extract_data, List.take_of_length_le (by rw [List.length_drop, size_len]; omega)]
  rw [e]
  have e5 : lockL.length = 5 := rfl
  rw [e5]
  constructor
  · rintro (h | h)
    · intro h2
      have := congrArg List.length h2
      rw [List.length_drop, size_len, e5] at this
      omega
    · intro h2; exact h h2.symm
  · intro h
    right
    exact fun h2 => h h2.symm

theorem refGoodB_eq (s : ByteArray) : refGoodB s = goodL s.data.toList := by
  unfold refGoodB goodL
  rw [okTo_eq s s.size (Nat.le_refl _), bI_beq s 0 45 45 rfl, bI_beq s 0 46 46 rfl, bI_beq s (s.size - 1) 46 46 rfl, suffix_lock, ByteArray.toList_eq, ← size_len s, List.take_length]
  simp only [Bool.and_assoc]

/-! ### a text in parts -/
def partsL : List UInt8 → List (List UInt8)
  | [] => [[]]
  | a :: t => if a = 47 then [] :: partsL t else match partsL t with
    | [] => [[a]]
    | p :: r => (a :: p) :: r

theorem partsL_ne (l : List UInt8) : partsL l ≠ [] := by
  cases l with
  | nil => simp [partsL]
  | cons a t =>
    rw [partsL]
    split
    · simp
    · split <;> simp

theorem partsL_append : ∀ l m : List UInt8, partsL (l ++ 47 :: m) = partsL l ++ partsL m
  | [], m => by simp [partsL]
  | a :: t, m => by
    have ih := partsL_append t m
    rw [List.cons_append, partsL, partsL, ih]
    by_cases h : a = 47
    · rw [if_pos h, if_pos h]; rfl
    · rw [if_neg h, if_neg h]
      cases hp : partsL t with
      | nil => exact absurd hp (partsL_ne t)
      | cons p r => rfl

theorem partsL_plain : ∀ l : List UInt8, (∀ c ∈ l, c ≠ 47) → partsL l = [l]
  | [], _ => rfl
  | a :: t, h => by
    rw [partsL, if_neg (h a (by simp)), partsL_plain t (fun c hc => h c (by simp [hc]))]

theorem partsL_snoc (c : UInt8) : ∀ (l : List UInt8) (done : List (List UInt8)) (cur : List UInt8), partsL l = done ++ [cur] →
    partsL (l ++ [c]) = if c = 47 then (done ++ [cur]) ++ [[]] else done ++ [cur ++ [c]]
  | [], done, cur, h => by
    have hd : done = [] ∧ cur = [] := by
      cases done with
      | nil => simp [partsL] at h; exact ⟨rfl, h⟩
      | cons x r => simp [partsL] at h
    obtain ⟨rfl, rfl⟩ := hd
    by_cases hc : c = 47 <;> simp [partsL, hc]
  | a :: t, done, cur, h => by
    rw [List.cons_append, partsL]
    rw [partsL] at h
    by_cases ha : a = 47
    · rw [if_pos ha] at h ⊢
      obtain ⟨d2, hd2⟩ : ∃ d2, done = [] :: d2 := by
        cases done with
        | nil =>
          simp at h
          exact absurd h.2 (partsL_ne t)
        | cons x r =>
          simp at h
          exact ⟨r, by rw [← h.1]⟩
      subst hd2
      have h2 : partsL t = d2 ++ [cur] := by simpa using h
      rw [partsL_snoc c t d2 cur h2]
      by_cases hc : c = 47 <;> simp [hc]
    · rw [if_neg ha] at h ⊢
      cases hp : partsL t with
      | nil => exact absurd hp (partsL_ne t)
      | cons p r =>
        rw [hp] at h
        cases done with
        | nil =>
          simp at h
          obtain ⟨h1, h2⟩ := h
          subst h2
          rw [partsL_snoc c t [] p (by simpa using hp), ← h1]
          by_cases hc : c = 47 <;> simp [hc]
        | cons x d2 =>
          simp at h
          obtain ⟨h1, h2⟩ := h
          rw [partsL_snoc c t (p :: d2) cur (by rw [hp, h2]; rfl), ← h1]
          by_cases hc : c = 47 <;> simp [hc]

theorem partsTo_eq (s : ByteArray) : ∀ k, k ≤ s.size → partsL (s.data.toList.take k) = (partsTo s k).1.map (·.data.toList) ++ [(partsTo s k).2.data.toList]
  | 0, _ => rfl
  | k + 1, h => by
    have hl : k < s.data.toList.length := by rw [size_len]; omega
    rw [List.take_succ_eq_append_getElem hl, partsL_snoc _ _ _ _ (partsTo_eq s k (by omega)), partsTo]
    have e : s.data.toList.getD k 0 = s.data.toList[k] := by simp only [List.getD, List.getElem?_eq_getElem hl, Option.getD_some]
    rw [e]
    by_cases hc : s.data.toList[k] = 47
    · rw [if_pos hc, if_pos hc, List.map_append]; rfl
    · rw [if_neg hc, if_neg hc]
      have e3 : ((partsTo s k).2 ++ s.extract k (k + 1)).data.toList = (partsTo s k).2.data.toList ++ [s.data.toList[k]] := by
        rw [ByteArray.data_append, Array.toList_append, Lib.extract_data, show k + 1 - k = 1 by omega, List.drop_eq_getElem_cons hl]
        rfl
      rw [e3]

theorem partsOf_eq (s : ByteArray) : (partsOf s).map (·.data.toList) = partsL s.data.toList := by
  have h := partsTo_eq s s.size (Nat.le_refl _)
  rw [← size_len s, List.take_length, size_len] at h
  rw [h, partsOf, List.map_append]; rfl

theorem splitK_eq : ∀ l : List UInt8, Lib.splitK [47] 0 (Lib.count l [47]) l = partsL l
  | [] => by rw [Lib.count_miss (by decide)]; rfl
  | a :: t => by
    have ih := splitK_eq t
    rw [partsL]
    by_cases ha : a = 47
    · subst ha
      rw [if_pos rfl, Lib.count_cons_eq, Nat.add_comm 1, Lib.splitK]
      have hix : Lib.index (47 :: t) [47] = 0 := by rw [Lib.index]; simp [List.isPrefixOf]
      rw [hix]
      simp only [Int.toNat_zero, Nat.zero_add, List.take_zero, List.length_singleton, List.drop_succ_cons, List.drop_zero]
      rw [if_neg (by decide), ih]
    · rw [if_neg ha, Lib.count_cons_ne a 47 t ha]
      have hp : ([47] : List UInt8).isPrefixOf (a :: t) = false := by simp [List.isPrefixOf, Ne.symm ha]
      have hix : Lib.index (a :: t) [47] = if Lib.index t [47] == -1 then -1 else Lib.index t [47] + 1 := by rw [Lib.index, hp]; simp
      cases hc : Lib.count t [47] with
      | zero =>
        rw [hc] at ih
        rw [Lib.splitK] at ih ⊢
        rw [← ih]
      | succ k =>
        rw [hc] at ih
        rw [Lib.splitK] at ih ⊢
        by_cases hm : Lib.index t [47] = -1
        · rw [hix, hm]
          rw [hm] at ih
          simp only [beq_self_eq_true, if_true] at ih ⊢
          rw [← ih]
        · have hge := Lib.index_ge t [47]
          obtain ⟨j, hj⟩ : ∃ j : Nat, Lib.index t [47] = j := ⟨(Lib.index t [47]).toNat, by omega⟩
          rw [hix, hj]
          rw [hj] at ih
          have n1 : ((j : Int) == -1) = false := beq_eq_false_iff_ne.2 (by omega)
          rw [n1] at ih ⊢
          simp only [Bool.false_eq_true, if_false] at ih ⊢
          have n2 : ((j : Int) + 1 == -1) = false := beq_eq_false_iff_ne.2 (by omega)
          rw [n2]
          simp only [Bool.false_eq_true, if_false]
          rw [← ih]
          have t1 : ((j : Int) + 1).toNat = j + 1 := by omega
          rw [t1]
          simp only [Nat.add_zero, Int.toNat_natCast, List.take_succ_cons, List.length_singleton, List.drop_succ_cons]

theorem slashB_eq (s : ByteArray) : (slashB s).map (·.data.toList) = partsL s.data.toList := by
  unfold slashB
  rw [Lib.splitB_data]
  exact splitK_eq _

theorem map_inj {α β : Type} (f : α → β) (hf : ∀ a b, f a = f b → a = b) : ∀ l m : List α, l.map f = m.map f → l = m
  | [], [], _ => rfl
  | [], _ :: _, h => by simp at h
  | _ :: _, [], h => by simp at h
  | a :: l, b :: m, h => by
    simp only [List.map_cons, List.cons.injEq] at h
    rw [hf a b h.1, map_inj f hf l m h.2]

theorem bytes_inj2 (a b : ByteArray) (h : a.data.toList = b.data.toList) : a = b := by
  cases a; cases b
  have := Array.toList_inj.1 h
  simp_all

theorem parts_same (s : ByteArray) : slashB s = partsOf s :=
  map_inj (·.data.toList) bytes_inj2 _ _ ((slashB_eq s).trans (partsOf_eq s).symm)

theorem good_same (s : ByteArray) : goodB s = refGoodB s := by rw [goodB_eq, refGoodB_eq]


/-! ### names in trees -/
theorem contains_one (c : UInt8) : ∀ l : List UInt8, Lib.contains l [c] = l.any (· == c)
  | [] => by simp [Lib.contains, Lib.index]
  | a :: t => by
    have ih := contains_one c t
    have hge := Lib.index_ge t [c]
    unfold Lib.contains at ih ⊢
    rw [Lib.index, List.any_cons, ← ih]
    by_cases h : a = c
    · subst h; simp [List.isPrefixOf]
    · have hp : ([c] : List UInt8).isPrefixOf (a :: t) = false := by simp [List.isPrefixOf, Ne.symm h]
      rw [hp, beq_eq_false_iff_ne.2 h]
      simp only [Bool.false_eq_true, if_false, Bool.false_or]
      split
      · rename_i hm
        rw [eq_of_beq hm]
      · rename_i hm
        have hm' : ¬ Lib.index t [c] = -1 := fun e => hm (by rw [e]; rfl)
        rw [decide_eq_true (by omega), decide_eq_true (by omega)]

theorem plainTo_eq (s : ByteArray) : ∀ k, k ≤ s.size → plainTo s k = (s.data.toList.take k).all (fun c => !(c == 47 || c == 0))
  | 0, _ => rfl
  | k + 1, h => by
    have hl : k < s.data.toList.length := by rw [size_len]; omega
    rw [plainTo, plainTo_eq s k (by omega), List.take_succ_eq_append_getElem hl, List.all_append, bI_beq s k 47 47 rfl, bI_beq s k 0 0 rfl]
    have e : s.data.toList.getD k 0 = s.data.toList[k] := by simp only [List.getD, List.getElem?_eq_getElem hl, Option.getD_some]
    rw [e]
    simp

theorem all_not_or (l : List UInt8) : l.all (fun c => !(c == 47 || c == 0)) = (!(l.any (· == 47)) && !(l.any (· == 0))) := by
  induction l with
  | nil => rfl
  | cons a t ih =>
    rw [List.all_cons, List.any_cons, List.any_cons, ih]
    cases (a == 47) <;> cases (a == 0) <;> cases t.any (· == 47) <;> cases t.any (· == 0) <;> rfl

def partL (l : List UInt8) : Bool :=
  !l.isEmpty && !(l == [46]) && !(l == [46, 46]) && decide (l.length ≤ 64) && !(l.any (· == 47)) && !(l.any (· == 0))

theorem partB_eq (s : ByteArray) : partB s = partL s.data.toList := by
  unfold partB partL
  rw [contains_one, contains_one, ByteArray.toList_eq, size_len]

theorem refPartB_eq (s : ByteArray) : refPartB s = partL s.data.toList := by
  unfold refPartB partL
  rw [plainTo_eq s s.size (Nat.le_refl _), ByteArray.toList_eq, ← size_len s, List.take_length, all_not_or]
  simp only [Bool.and_assoc]

theorem part_same (s : ByteArray) : partB s = refPartB s := by rw [partB_eq, refPartB_eq]

theorem path_same (s : ByteArray) : pathOk s = refPathOk s := by
  unfold pathOk refPathOk
  rw [parts_same]
  congr 2
  exact funext part_same

/-! ### kinds -/
def headsS : List UInt8 := [104, 101, 97, 100, 115]
def tagsS : List UInt8 := [116, 97, 103, 115]

def kindL (l : List UInt8) : Int :=
  if 64 < l.length then 0 else if (partsL l).all goodL = false then 0
  else if (headsS ++ [47]).isPrefixOf l = true then 1 else if (tagsS ++ [47]).isPrefixOf l = true then 2 else 0

theorem all_map {α β : Type} (f : α → β) (p : β → Bool) (l : List α) : (l.map f).all p = l.all (fun a => p (f a)) := by
  induction l with
  | nil => rfl
  | cons a t ih => rw [List.map_cons, List.all_cons, List.all_cons, ih]

theorem kindV_eq (s : ByteArray) : kindV s = kindL s.data.toList := by
  unfold kindV kindL
  have e : (partsL s.data.toList).all goodL = (slashB s).all goodB := by
    rw [← slashB_eq, all_map]
    congr 1
    exact funext fun p => (goodB_eq p).symm
  rw [e, size_len]
  rfl

/-- the first part, and whether there are more -/
theorem first_part (h l : List UInt8) (hh : ∀ c ∈ h, c ≠ 47) : (1 < (partsL l).length ∧ (partsL l).getD 0 [] = h) ↔ (h ++ [47]).isPrefixOf l = true := by
  rw [List.isPrefixOf_iff_prefix]
  constructor
  · rintro ⟨h1, h2⟩
    have key : ∀ l : List UInt8, 1 < (partsL l).length → (partsL l).getD 0 [] ++ [47] <+: l := by
      intro l
      induction l with
      | nil => intro h; simp [partsL] at h
      | cons a t ih =>
        rw [partsL]
        by_cases ha : a = 47
        · subst ha
          rw [if_pos rfl]
          intro _
          exact ⟨t, rfl⟩
        · rw [if_neg ha]
          cases hp : partsL t with
          | nil => exact absurd hp (partsL_ne t)
          | cons p r =>
            rw [hp] at ih
            intro h
            have := ih (by simpa using h)
            exact (List.cons_prefix_cons).2 ⟨rfl, this⟩
    have := key l h1
    rwa [h2] at this
  · rintro ⟨m, rfl⟩
    rw [List.append_assoc]
    show 1 < (partsL (h ++ 47 :: m)).length ∧ (partsL (h ++ 47 :: m)).getD 0 [] = h
    rw [partsL_append, partsL_plain h hh]
    refine ⟨?_, rfl⟩
    have := List.length_pos_iff.2 (partsL_ne m)
    simp; omega

theorem getD_map_toList (l : List ByteArray) : (l.getD 0 ⟨#[]⟩).data.toList = (l.map (·.data.toList)).getD 0 [] := by
  cases l <;> rfl

theorem refKindV_eq (s : ByteArray) : refKindV s = kindL s.data.toList := by
  unfold refKindV kindL
  have e : (partsL s.data.toList).all goodL = (partsOf s).all refGoodB := by
    rw [← partsOf_eq, all_map]
    congr 1
    exact funext fun p => (refGoodB_eq p).symm
  have e1 : ∀ h : List UInt8, (∀ c ∈ h, c ≠ 47) → ((1 < (partsOf s).length ∧ ((partsOf s).getD 0 ⟨#[]⟩).toList = h) ↔ (h ++ [47]).isPrefixOf s.data.toList = true) := by
    intro h hh
    rw [← first_part h _ hh, ← partsOf_eq, List.length_map, ByteArray.toList_eq, getD_map_toList]
  rw [e, size_len]
  simp only [e1 [104, 101, 97, 100, 115] (by decide), e1 [116, 97, 103, 115] (by decide)]
  rfl

theorem kind_same (s : ByteArray) : kindV s = refKindV s := by rw [kindV_eq, refKindV_eq]
end Go.Proofs.YtnnklobbakdopaaDoor
