/- SHA-256 in plain words, as the program's text has it. -/
import Derived.Test.YtpacfijkhhjfeaaShaTurned
import Derived.Test.YtpacfijkhhjfeaaArr
namespace Go.Proofs.Ytpacfijkhhjfeaa
set_option linter.unusedVariables false
set_option linter.unusedSimpArgs false
open Go.RowKit

def xorW (a b : Int) : Int := bits .xor .u32 a b
def andW (a b : Int) : Int := bits .and .u32 a b
def orW (a b : Int) : Int := bits .or .u32 a b
def addW (a b : Int) : Int := (a + b) % 4294967296

def or8 (x c : Int) : Int := bits .or .u32 (x * 256 % 4294967296) c
def word4 (b : Nat → Int) (t : Nat) : Nat → Int
  | 0 => 0
  | j + 1 => or8 (word4 b t j) (b (4 * t + j))

def low (x : Int) : Int := bits .xor .u32 (bits .xor .u32 (rot 7 x) (rot 18 x)) (x / 8)
def high (y : Int) : Int := bits .xor .u32 (bits .xor .u32 (rot 17 y) (rot 19 y)) (y / 1024)

def nextW (l : List Int) (t : Nat) : Int :=
  (l.getD (t - 16) 0 + low (l.getD (t - 15) 0) + l.getD (t - 7) 0 + high (l.getD (t - 2) 0)) % 4294967296

/-- the first t words of a block's rounds -/
def words (b : Nat → Int) : Nat → List Int
  | 0 => []
  | t + 1 => words b t ++ [if t < 16 then word4 b t 4 else nextW (words b t) t]

theorem words_length (b : Nat → Int) : ∀ t, (words b t).length = t
  | 0 => rfl
  | t + 1 => by rw [words, List.length_append, words_length b t]; rfl

theorem bits_u32 (op : BinOp) (a b : Int) : 0 ≤ bits op .u32 a b ∧ bits op .u32 a b ≤ 4294967295 := ⟨bits_u32_lo op a b, bits_u32_hi op a b⟩

theorem word4_bd (b : Nat → Int) (t : Nat) : ∀ j, 0 ≤ word4 b t j ∧ word4 b t j ≤ 4294967295
  | 0 => ⟨by simp [word4], by simp [word4]⟩
  | j + 1 => by rw [word4, or8]; exact bits_u32 _ _ _

theorem words_bd (b : Nat → Int) : ∀ t, ∀ x ∈ words b t, 0 ≤ x ∧ x ≤ 4294967295
  | 0, x, h => by simp [words] at h
  | t + 1, x, h => by
    rw [words] at h
    rcases List.mem_append.1 h with h | h
    · exact words_bd b t x h
    · simp only [List.mem_singleton] at h
      subst h
      split
      · exact word4_bd b t 4
      · unfold nextW; omega

theorem getD_bd {l : List Int} (h : ∀ x ∈ l, 0 ≤ x ∧ x ≤ 4294967295) (i : Nat) : 0 ≤ l.getD i 0 ∧ l.getD i 0 ≤ 4294967295 := by
  by_cases hi : i < l.length
  · have : l.getD i 0 ∈ l := by simp [List.getD, hi]
    exact h _ this
  · simp [List.getD, hi]

/-- the constants of the rounds -/
def kL : List Int := [1116352408, 1899447441, 3049323471, 3921009573, 961987163, 1508970993, 2453635748, 2870763221, 3624381080, 310598401, 607225278, 1426881987, 1925078388, 2162078206, 2614888103, 3248222580, 3835390401, 4022224774, 264347078, 604807628, 770255983, 1249150122, 1555081692, 1996064986, 2554220882, 2821834349, 2952996808, 3210313671, 3336571891, 3584528711, 113926993, 338241895, 666307205, 773529912, 1294757372, 1396182291, 1695183700, 1986661051, 2177026350, 2456956037, 2730485921, 2820302411, 3259730800, 3345764771, 3516065817, 3600352804, 4094571909, 275423344, 430227734, 506948616, 659060556, 883997877, 958139571, 1322822218, 1537002063, 1747873779, 1955562222, 2024104815, 2227730452, 2361852424, 2428436474, 2756734187, 3204031479, 3329325298]
/-- what nothing came to -/
def s0L : List Int := [1779033703, 3144134277, 1013904242, 2773480762, 1359893119, 2600822924, 528734635, 1541459225]

def choice (e f g : Int) : Int := bits .xor .u32 g (bits .and .u32 e (bits .xor .u32 f g))
def most (a b c : Int) : Int := bits .or .u32 (bits .and .u32 a b) (bits .and .u32 c (bits .or .u32 a b))
def big1 (e : Int) : Int := bits .xor .u32 (bits .xor .u32 (rot 6 e) (rot 11 e)) (rot 25 e)
def big0 (a : Int) : Int := bits .xor .u32 (bits .xor .u32 (rot 2 a) (rot 13 a)) (rot 22 a)

/-- one round -/
def roundL (k x : Int) : List Int → List Int
  | [a, b, c, d, e, f, g, h] =>
    [(h + big1 e + choice e f g + k + x + (big0 a + most a b c)) % 4294967296, a, b, c,
      (d + (h + big1 e + choice e f g + k + x)) % 4294967296, e, f, g]
  | l => l

/-- the first t rounds -/
def roundsL (ws : List Int) (s : List Int) : Nat → List Int
  | 0 => s
  | t + 1 => roundL (kL.getD t 0) (ws.getD t 0) (roundsL ws s t)

/-- two states, word by word -/
def addL (s v : List Int) : Nat → List Int
  | 0 => s
  | i + 1 => (addL s v i).set i (((addL s v i).getD i 0 + v.getD i 0) % 4294967296)

/-- a block, taken in -/
def takeL (s : List Int) (b : Nat → Int) : List Int := addL s (roundsL (words b 64) s 64) 8

def okS (s : List Int) : Prop := s.length = 8 ∧ ∀ x ∈ s, 0 ≤ x ∧ x ≤ 4294967295

theorem okS_eight {s : List Int} (h : okS s) : ∃ a b c d e f g i, s = [a, b, c, d, e, f, g, i] ∧ (0 ≤ a ∧ a ≤ 4294967295) ∧ (0 ≤ b ∧ b ≤ 4294967295) ∧ (0 ≤ c ∧ c ≤ 4294967295) ∧ (0 ≤ d ∧ d ≤ 4294967295) ∧
    (0 ≤ e ∧ e ≤ 4294967295) ∧ (0 ≤ f ∧ f ≤ 4294967295) ∧ (0 ≤ g ∧ g ≤ 4294967295) ∧ (0 ≤ i ∧ i ≤ 4294967295) := by
  obtain ⟨hl, hb⟩ := h
  match s, hl with
  | [a, b, c, d, e, f, g, i], _ =>
    exact ⟨a, b, c, d, e, f, g, i, rfl, hb a (by simp), hb b (by simp), hb c (by simp), hb d (by simp), hb e (by simp), hb f (by simp), hb g (by simp), hb i (by simp)⟩

theorem mod_bd (x : Int) : 0 ≤ x % 4294967296 ∧ x % 4294967296 ≤ 4294967295 := by omega

theorem roundL_ok (k x : Int) {s : List Int} (h : okS s) : okS (roundL k x s) := by
  obtain ⟨a, b, c, d, e, f, g, i, rfl, ha, hb, hc, hd, he, hf, hg, hi⟩ := okS_eight h
  refine ⟨rfl, ?_⟩
  intro y hy
  simp only [roundL, List.mem_cons, List.not_mem_nil, or_false] at hy
  rcases hy with rfl | rfl | rfl | rfl | rfl | rfl | rfl | rfl
  · exact mod_bd _
  · exact ha
  · exact hb
  · exact hc
  · exact mod_bd _
  · exact he
  · exact hf
  · exact hg

theorem roundsL_ok (ws : List Int) {s : List Int} (h : okS s) : ∀ t, okS (roundsL ws s t)
  | 0 => h
  | t + 1 => roundL_ok _ _ (roundsL_ok ws h t)

theorem addL_ok {s : List Int} (v : List Int) (h : okS s) : ∀ i, okS (addL s v i)
  | 0 => h
  | i + 1 => by
    have ih := addL_ok v h i
    refine ⟨by rw [addL, List.length_set]; exact ih.1, ?_⟩
    intro x hx
    rw [addL] at hx
    rcases List.mem_or_eq_of_mem_set hx with hx | rfl
    · exact ih.2 x hx
    · exact mod_bd _

theorem takeL_ok {s : List Int} (b : Nat → Int) (h : okS s) : okS (takeL s b) := addL_ok _ h 8

theorem kL_bd : ∀ x ∈ kL, 0 ≤ x ∧ x ≤ 4294967295 := by decide +kernel
theorem s0L_ok : okS s0L := ⟨rfl, by decide +kernel⟩
end Go.Proofs.Ytpacfijkhhjfeaa
