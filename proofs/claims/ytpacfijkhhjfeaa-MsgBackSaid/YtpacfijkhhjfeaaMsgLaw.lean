/- The plain law of frames and of requests and replies: what is put is read as it was. -/
import Derived.Test.YtpacfijkhhjfeaaMsgReads
namespace Go.Proofs.Ytpacfijkhhjfeaa
set_option linter.unusedVariables false
set_option linter.unusedSimpArgs false
open Go.RowKit

theorem take_front {a b : List Int} {n : Nat} (h : a.length = n) (hn : 1 ≤ n) : gotL n (a ++ b) 0 = a ∧ restL n (a ++ b) 0 = b ∧ wrongL n (a ++ b) 0 = 0 := by
  have h1 : (1 : Int) ≤ n := by omega
  have h2 : (n : Int) ≤ (a ++ b).length := by rw [List.length_append]; omega
  have h3 : ¬ ((n : Int) < 1 ∨ (0 : Int) ≠ 0) := by omega
  have h4 : 1 ≤ (n : Int) ∧ (0 : Int) = 0 ∧ (n : Int) ≤ (a ++ b).length := ⟨h1, rfl, h2⟩
  refine ⟨?_, ?_, ?_⟩
  · unfold gotL
    rw [if_pos h4, Int.toNat_natCast, List.take_left' h]
  · unfold restL
    rw [if_neg h3, if_pos h2, Int.toNat_natCast, List.drop_left' h]
  · unfold wrongL
    rw [if_neg h3, if_pos h2]

theorem numOf_cons_aux (l : List Int) : ∀ (a : Int), l.foldl (fun v c => v * 256 + c) a = a * 256 ^ l.length + numOf l := by
  induction l with
  | nil => intro a; simp [numOf]
  | cons x l ih =>
    intro a
    unfold numOf
    rw [List.foldl_cons, List.foldl_cons, ih, ih (0 * 256 + x), List.length_cons, Int.pow_succ, Int.add_mul, Int.zero_mul, Int.zero_add, Int.mul_assoc, Int.mul_comm 256 (256 ^ l.length)]
    omega

theorem numOf_cons (x : Int) (l : List Int) : numOf (x :: l) = x * 256 ^ l.length + numOf l := by
  show (x :: l).foldl (fun v c => v * 256 + c) 0 = _
  rw [List.foldl_cons, numOf_cons_aux]
  simp

theorem pow256 (k : Nat) : (2 : Int) ^ (8 * k) = 256 ^ k := by
  rw [Int.pow_mul]; rfl

theorem numOf_numBytes (c : Int) (hc : 0 ≤ c) : ∀ k, numOf (numBytes c k) = c % 256 ^ k
  | 0 => by simp [numBytes, numOf, Int.emod_one]
  | k + 1 => by
    rw [numBytes, numOf_cons, numOf_numBytes c hc k, numBytes_length, pow256, Int.pow_succ]
    have hp : (0 : Int) < 256 ^ k := Int.pow_pos (by decide)
    have h1 := Int.mul_ediv_add_emod c (256 ^ k)
    have h2 := Int.mul_ediv_add_emod (c / 256 ^ k) 256
    have h3 := Int.mul_ediv_add_emod c (256 ^ k * 256)
    rw [← Int.ediv_ediv_of_nonneg (by omega)] at h3
    have h4 : 256 ^ k * (c / 256 ^ k) = 256 ^ k * (256 * (c / 256 ^ k / 256)) + 256 ^ k * (c / 256 ^ k % 256) := by rw [← Int.mul_add, h2]
    have h5 : 256 ^ k * (256 * (c / 256 ^ k / 256)) = 256 ^ k * 256 * (c / 256 ^ k / 256) := by rw [Int.mul_assoc]
    have h6 : c / 256 ^ k % 256 * 256 ^ k = 256 ^ k * (c / 256 ^ k % 256) := Int.mul_comm _ _
    omega

theorem numOf_put {c : Int} {k : Nat} (h0 : 0 ≤ c) (h : c < 256 ^ k) : numOf (numBytes c k) = c := by
  rw [numOf_numBytes c h0, Int.emod_eq_of_lt h0 h]

theorem one_put {c : Int} (h0 : 0 ≤ c) (h : c ≤ 255) : [c] = numBytes c 1 := by
  simp [numBytes]
  omega

theorem nameOf_front {a b : List Int} (h : a.length = 16) : nameOf (a ++ b) 0 = a ∧ restL 16 (a ++ b) 0 = b ∧ wrongL 16 (a ++ b) 0 = 0 := by
  have := take_front (b := b) (n := 16) h (by decide)
  refine ⟨?_, this.2.1, this.2.2⟩
  unfold nameOf
  rw [if_pos ⟨rfl, by rw [List.length_append]; omega⟩, ← h]
  simp

theorem namesOf_front : ∀ (ns : List (List Int)) (b : List Int), (∀ n ∈ ns, n.length = 16) → namesOf ns.length (ns.flatten ++ b) 0 = (ns, b, 0)
  | [], b, _ => rfl
  | n :: r, b, h => by
    have hn := nameOf_front (b := r.flatten ++ b) (h n (List.mem_cons_self ..))
    have ih := namesOf_front r b (fun m hm => h m (List.mem_cons_of_mem _ hm))
    rw [List.length_cons, List.flatten_cons, List.append_assoc]
    unfold namesOf
    rw [if_pos rfl, hn.1, hn.2.1, hn.2.2, ih]

theorem sized_front {d : List Int} (h : d.length ≤ 65536) : sizedGot (numBytes d.length 4 ++ d) 0 = d := by
  have h1 := take_front (a := numBytes d.length 4) (b := d) (n := 4) (numBytes_length _ _) (by decide)
  have h2 : numOf (numBytes d.length 4) = d.length := numOf_put (by omega) (by simp only [Int.pow_succ, Int.pow_zero]; omega)
  unfold sizedGot
  simp only [show (((4 : Nat) : Int)) = 4 from rfl] at h1
  rw [h1.1, h1.2.1, h1.2.2, h2, if_pos (by omega)]
  unfold gotL
  by_cases hd : d.length = 0
  · rw [if_neg (by omega), List.eq_nil_of_length_eq_zero hd]
  · rw [if_pos ⟨by omega, rfl, by omega⟩]
    simp

/-- a core that may be put -/
def goodCore (named : Bool) (c : Core) : Prop := 0 ≤ c.client ∧ c.client ≤ 255 ∧ 0 ≤ c.kind ∧ c.kind ≤ 255 ∧ 0 ≤ c.id ∧ c.id ≤ 18446744073709551615 ∧ 0 ≤ c.gen ∧ c.gen ≤ 18446744073709551615 ∧ if named then c.name.length = 16 else c.name = List.replicate 16 0

theorem readOfL_front {named : Bool} {c : Core} {ns : List (List Int)} {d : List Int} (hc : goodCore named c) (hn : ∀ n ∈ ns, n.length = 16) (hns : ns.length ≤ 65535) (hd : d.length ≤ 65536) :
    readOfL named (tailL (headL c named) ns d) = (c, ns, d) := by
  obtain ⟨a1, a2, a3, a4, a5, a6, a7, a8, a9⟩ := hc
  have e : tailL (headL c named) ns d = numBytes c.client 1 ++ (numBytes c.id 8 ++ (numBytes c.kind 1 ++ ((if named then c.name else []) ++ (numBytes c.gen 8 ++ (numBytes ns.length 2 ++ (ns.flatten ++ (numBytes d.length 4 ++ d))))))) := by
    unfold tailL headL
    rw [one_put a1 a2, one_put a3 a4]
    simp only [List.append_assoc]
  rw [e]
  have s1 := take_front (a := numBytes c.client 1) (b := numBytes c.id 8 ++ (numBytes c.kind 1 ++ ((if named then c.name else []) ++ (numBytes c.gen 8 ++ (numBytes ns.length 2 ++ (ns.flatten ++ (numBytes d.length 4 ++ d))))))) (n := 1) (numBytes_length _ _) (by decide)
  simp only [show (((1 : Nat) : Int)) = 1 from rfl] at s1
  unfold readOfL
  rw [s1.1, s1.2.1, s1.2.2, numOf_put a1 (by simp only [Int.pow_succ, Int.pow_zero]; omega)]
  have s2 := take_front (a := numBytes c.id 8) (b := numBytes c.kind 1 ++ ((if named then c.name else []) ++ (numBytes c.gen 8 ++ (numBytes ns.length 2 ++ (ns.flatten ++ (numBytes d.length 4 ++ d)))))) (n := 8) (numBytes_length _ _) (by decide)
  simp only [show (((8 : Nat) : Int)) = 8 from rfl] at s2
  unfold rdId
  rw [s2.1, s2.2.1, s2.2.2, numOf_put a5 (by simp only [Int.pow_succ, Int.pow_zero]; omega)]
  have s3 := take_front (a := numBytes c.kind 1) (b := (if named then c.name else []) ++ (numBytes c.gen 8 ++ (numBytes ns.length 2 ++ (ns.flatten ++ (numBytes d.length 4 ++ d))))) (n := 1) (numBytes_length _ _) (by decide)
  simp only [show (((1 : Nat) : Int)) = 1 from rfl] at s3
  unfold rdKind
  rw [s3.1, s3.2.1, s3.2.2, numOf_put a3 (by simp only [Int.pow_succ, Int.pow_zero]; omega)]
  have s5 := take_front (a := numBytes c.gen 8) (b := numBytes ns.length 2 ++ (ns.flatten ++ (numBytes d.length 4 ++ d))) (n := 8) (numBytes_length _ _) (by decide)
  simp only [show (((8 : Nat) : Int)) = 8 from rfl] at s5
  have s6 := take_front (a := numBytes ns.length 2) (b := ns.flatten ++ (numBytes d.length 4 ++ d)) (n := 2) (numBytes_length _ _) (by decide)
  simp only [show (((2 : Nat) : Int)) = 2 from rfl] at s6
  have fin : ∀ nm : List Int, rdGen c.client c.kind c.id nm (numBytes c.gen 8 ++ (numBytes ns.length 2 ++ (ns.flatten ++ (numBytes d.length 4 ++ d)))) 0 = (⟨c.client, c.kind, c.id, c.gen, nm⟩, ns, d) := by
    intro nm
    unfold rdGen
    rw [s5.1, s5.2.1, s5.2.2, numOf_put a7 (by simp only [Int.pow_succ, Int.pow_zero]; omega)]
    unfold rdCount
    rw [s6.1, s6.2.1, s6.2.2, numOf_put (by omega) (by simp only [Int.pow_succ, Int.pow_zero]; omega), Int.toNat_natCast]
    unfold rdLast
    rw [namesOf_front ns _ hn]
    simp only
    rw [sized_front hd]
  unfold rdNamed rdName rdRest rdWrong
  cases named with
  | true =>
    have s4 := nameOf_front (a := c.name) (b := numBytes c.gen 8 ++ (numBytes ns.length 2 ++ (ns.flatten ++ (numBytes d.length 4 ++ d)))) (by simpa using a9)
    simp only [if_true]
    rw [s4.1, s4.2.1, s4.2.2, fin]
  | false =>
    simp only [if_false, Bool.false_eq_true, List.nil_append]
    rw [fin]
    have : c.name = List.replicate 16 0 := by simpa using a9
    rw [← this]

theorem frameL_split (k : Int) (l : List Int) : frameL k l = [67, 70, 49, k] ++ (numBytes l.length 4 ++ (l ++ (shaL (frameBody k l)).take 4)) := by
  simp [frameL, frameBody]

theorem frameL_length (k : Int) (l : List Int) : (frameL k l).length = l.length + 12 := by
  rw [frameL_split]
  simp [numBytes_length, shaL_length]
  omega

theorem frameBody_length (k : Int) (l : List Int) : (frameBody k l).length = l.length + 8 := by
  simp [frameBody, numBytes_length]; omega

theorem lengthL_more {k : Int} {l m : List Int} (hk : 1 ≤ k) (hl : l.length ≤ 65536) : lengthL (frameL k l ++ m) = ((12 : Int) + l.length, 0) := by
  have hlen : (frameL k l ++ m).length = l.length + 12 + m.length := by rw [List.length_append, frameL_length]
  have e : frameL k l ++ m = 67 :: 70 :: 49 :: k :: (numBytes l.length 4 ++ (l ++ (shaL (frameBody k l)).take 4 ++ m)) := by rw [frameL_split]; simp
  have hd : ((frameL k l ++ m).drop 4).take 4 = numBytes l.length 4 := by
    rw [e]
    simp only [List.drop_succ_cons, List.drop_zero]
    rw [List.take_left' (numBytes_length _ _)]
  have h3 : (frameL k l ++ m).getD 3 0 = k := by rw [e]; rfl
  have hm : magicTo (frameL k l ++ m) 3 = true := by
    rw [e]
    simp [magicTo, List.range_succ, magicL, List.getD]
  unfold lengthL
  rw [if_neg (by rw [hm]; decide), if_neg (by rw [h3]; omega), if_neg (by omega), hd, numOf_put (by omega) (by simp only [Int.pow_succ, Int.pow_zero]; omega), if_neg (by omega)]

theorem lengthL_front {k : Int} {l : List Int} (hk : 1 ≤ k) (hl : l.length ≤ 65536) : lengthL (frameL k l) = ((12 : Int) + l.length, 0) := by
  have := lengthL_more (m := []) hk hl
  rwa [List.append_nil] at this

theorem openL_front {k : Int} {l : List Int} (hk : 1 ≤ k) (hl : l.length ≤ 65536) : openL (frameL k l) = ⟨k, l, 12 + l.length, 0⟩ := by
  have hlen := frameL_length k l
  unfold openL readL
  rw [lengthL_front hk hl]
  have hn : ((12 : Int) + l.length).toNat = l.length + 12 := by omega
  have h1 : (frameL k l).take (l.length + 12 - 4) = frameBody k l := by
    unfold frameL
    rw [List.take_left' (by rw [frameBody_length]; omega)]
  have h2 : ((frameL k l).drop (l.length + 12 - 4)).take 4 = (shaL (frameBody k l)).take 4 := by
    unfold frameL
    rw [List.drop_left' (by rw [frameBody_length]; omega), List.take_take]
    rfl
  have hs : sumOk (frameL k l) (l.length + 12) = true := by
    unfold sumOk
    rw [h1, h2]
    simp
  have hw : withinL (frameL k l) (l.length + 12) = l := by
    unfold withinL
    rw [frameL_split]
    rw [show l.length + 12 - 4 - 8 = l.length from by omega]
    have : ([67, 70, 49, k] ++ (numBytes l.length 4 ++ (l ++ (shaL (frameBody k l)).take 4))).drop 8 = l ++ (shaL (frameBody k l)).take 4 := by
      rw [← List.append_assoc, List.drop_left' (by simp [numBytes_length])]
    rw [this, List.take_left' rfl]
  have h3 : (frameL k l).getD 3 0 = k := by rw [frameL_split]; rfl
  simp only [hn, hs, hw, h3, hlen]
  rw [if_neg (by omega), if_neg (by simp), if_neg (by omega), if_neg (by simp)]

theorem openL_more {k : Int} {l m : List Int} (hk : 1 ≤ k) (hl : l.length ≤ 65536) (hm : m ≠ []) : (openL (frameL k l ++ m)).within = [] := by
  have hp : 0 < m.length := List.length_pos_iff.2 hm
  unfold openL
  rw [lengthL_more hk hl, if_pos ⟨rfl, by rw [List.length_append, frameL_length]; simp only; omega⟩]

theorem readOfL_nil (named : Bool) : (readOfL named []).1.client = 0 := rfl

theorem mayBe_good {c : Core} {named : Bool} {lo hi : Int} {n m : Nat} (h : mayBe c lo hi n m = true) (hlo : 0 ≤ lo) (hhi : hi ≤ 255) (hi1 : 0 ≤ c.id ∧ c.id ≤ 18446744073709551615) (hg : 0 ≤ c.gen ∧ c.gen ≤ 18446744073709551615)
    (hn : if named then c.name.length = 16 else c.name = List.replicate 16 0) : goodCore named c ∧ n ≤ 128 ∧ m ≤ 8192 := by
  have hb := mayBe_bd h
  exact ⟨⟨by omega, by omega, by omega, by omega, hi1.1, hi1.2, hg.1, hg.2, hn⟩, by omega, by omega⟩

/-- the frame of a request that may be -/
def reqFrame (c : Core) (ns : List (List Int)) (d : List Int) : List Int := frameL 1 (tailL (headL c true) ns d)
def repFrame (c : Core) (ns : List (List Int)) (d : List Int) : List Int := frameL 2 (tailL (headL c false) ns d)

section
variable {c : Core} {ns : List (List Int)} {d : List Int}

theorem tail_small {named : Bool} (hc : goodCore named c) (hn : ∀ n ∈ ns, n.length = 16) (h1 : ns.length ≤ 128) (h2 : d.length ≤ 8192) : (tailL (headL c named) ns d).length ≤ 65536 := by
  rw [tailL_length hn, headL_length]
  obtain ⟨-, -, -, -, -, -, -, -, h9⟩ := hc
  cases named with
  | true => simp only [if_true] at h9 ⊢; omega
  | false => simp only [if_false, Bool.false_eq_true]; omega

theorem req_read (h : mayBe c 1 6 ns.length d.length = true) (hg : goodCore true c) (hn : ∀ n ∈ ns, n.length = 16) : readOfL true (openL (reqFrame c ns d)).within = (c, ns, d) := by
  have hb := mayBe_bd h
  unfold reqFrame
  rw [openL_front (by decide) (tail_small hg hn (by omega) (by omega))]
  exact readOfL_front hg hn (by omega) (by omega)

theorem rep_read (h : mayBe c 0 9 ns.length d.length = true) (hg : goodCore false c) (hn : ∀ n ∈ ns, n.length = 16) : readOfL false (openL (repFrame c ns d)).within = (c, ns, d) := by
  have hb := mayBe_bd h
  unfold repFrame
  rw [openL_front (by decide) (tail_small hg hn (by omega) (by omega))]
  exact readOfL_front hg hn (by omega) (by omega)

theorem request_ok (h : mayBe c 1 6 ns.length d.length = true) (hg : goodCore true c) (hn : ∀ n ∈ ns, n.length = 16) : requestOk (reqFrame c ns d) = true := by
  unfold requestOk
  rw [req_read h hg hn]
  simp only [h, Bool.true_and]
  exact decide_eq_true rfl

theorem reply_ok (h : mayBe c 0 9 ns.length d.length = true) (hg : goodCore false c) (hn : ∀ n ∈ ns, n.length = 16) : replyOk (repFrame c ns d) = true := by
  unfold replyOk
  rw [rep_read h hg hn]
  simp only [h, Bool.true_and]
  exact decide_eq_true rfl

theorem frame_kind {j k : Int} {l m : List Int} (h : frameL j l = frameL k m) : j = k := by
  rw [frameL_split, frameL_split] at h
  simp at h
  exact h.1

/-- a request's frame is no reply's, and the other way round -/
theorem reply_not (l : List Int) : replyOk (frameL 1 l) = false := by
  unfold replyOk
  rw [Bool.and_eq_false_iff]
  exact .inr (decide_eq_false fun h => absurd (frame_kind h) (by decide))
theorem request_not (l : List Int) : requestOk (frameL 2 l) = false := by
  unfold requestOk
  rw [Bool.and_eq_false_iff]
  exact .inr (decide_eq_false fun h => absurd (frame_kind h) (by decide))

/-- with something more it is none -/
theorem request_more {k : Int} {l m : List Int} (hk : 1 ≤ k) (hl : l.length ≤ 65536) (hm : m ≠ []) : requestOk (frameL k l ++ m) = false := by
  unfold requestOk
  rw [openL_more hk hl hm, Bool.and_eq_false_iff]
  left
  unfold mayBe
  rw [readOfL_nil]
  exact decide_eq_false fun h => absurd h.1 (by decide)
end
end Go.Proofs.Ytpacfijkhhjfeaa
