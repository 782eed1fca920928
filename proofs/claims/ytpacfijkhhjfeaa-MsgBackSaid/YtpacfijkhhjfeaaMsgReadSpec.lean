/- What msg.read tells, in plain words. -/
import Derived.Test.YtpacfijkhhjfeaaMsgPut
import Derived.Test.YtpacfijkhhjfeaaMsgName
namespace Go.Proofs.Ytpacfijkhhjfeaa
set_option linter.unusedVariables false
set_option linter.unusedSimpArgs false
open Go.RowKit

/-- a reader's fault is none, or one of two -/
def okE (e : Int) : Prop := e = 0 ∨ e = 3 ∨ e = 10

theorem okE_wrong {n : Int} {l : List Int} {e : Int} (h : okE e) : okE (wrongL n l e) := by
  unfold wrongL okE at *
  split
  · exact h
  · split
    · exact .inl rfl
    · exact .inr (.inr rfl)

def rdName (named : Bool) (l : List Int) (e : Int) : List Int := if named then nameOf l e else List.replicate 16 0
def rdRest (named : Bool) (l : List Int) (e : Int) : List Int := if named then restL 16 l e else l
def rdWrong (named : Bool) (l : List Int) (e : Int) : Int := if named then wrongL 16 l e else e

/-- at most n names, as long as nothing is wrong -/
def namesOf : Nat → List Int → Int → List (List Int) × List Int × Int
  | 0, l, e => ([], l, e)
  | n + 1, l, e => if e = 0 then (nameOf l e :: (namesOf n (restL 16 l e) (wrongL 16 l e)).1, (namesOf n (restL 16 l e) (wrongL 16 l e)).2) else ([], l, e)

/-- what is told, from each stage on -/
def rdLast (c : Core) (l : List Int) (e : Int) (n : Nat) : Core × List (List Int) × List Int := (c, (namesOf n l e).1, sizedGot (namesOf n l e).2.1 (namesOf n l e).2.2)
def rdCount (c : Core) (l : List Int) (e : Int) : Core × List (List Int) × List Int := rdLast c (restL 2 l e) (wrongL 2 l e) (numOf (gotL 2 l e)).toNat
def rdGen (client kind id : Int) (name : List Int) (l : List Int) (e : Int) : Core × List (List Int) × List Int := rdCount ⟨client, kind, id, numOf (gotL 8 l e), name⟩ (restL 8 l e) (wrongL 8 l e)
def rdNamed (named : Bool) (client kind id : Int) (l : List Int) (e : Int) : Core × List (List Int) × List Int := rdGen client kind id (rdName named l e) (rdRest named l e) (rdWrong named l e)
def rdKind (named : Bool) (client id : Int) (l : List Int) (e : Int) : Core × List (List Int) × List Int := rdNamed named client (numOf (gotL 1 l e)) id (restL 1 l e) (wrongL 1 l e)
def rdId (named : Bool) (client : Int) (l : List Int) (e : Int) : Core × List (List Int) × List Int := rdKind named client (numOf (gotL 8 l e)) (restL 8 l e) (wrongL 8 l e)
def readOfL (named : Bool) (b : List Int) : Core × List (List Int) × List Int := rdId named (numOf (gotL 1 b 0)) (restL 1 b 0) (wrongL 1 b 0)

theorem namesOf_ok : ∀ (n : Nat) (l : List Int) (e : Int), isByte l → okE e →
    (∀ x ∈ (namesOf n l e).1, x.length = 16 ∧ isByte x) ∧ isByte (namesOf n l e).2.1 ∧ okE (namesOf n l e).2.2 ∧ (namesOf n l e).1.length ≤ n ∧ (namesOf n l e).2.1.length ≤ l.length
  | 0, l, e, hl, he => ⟨(fun x hx => by cases hx), hl, he, Nat.le_refl _, Nat.le_refl _⟩
  | n + 1, l, e, hl, he => by
    unfold namesOf
    split
    · have ih := namesOf_ok n (restL 16 l e) (wrongL 16 l e) (restL_byte hl) (okE_wrong he)
      refine ⟨?_, ih.2.1, ih.2.2.1, by simp only [List.length_cons]; have := ih.2.2.2.1; omega, Nat.le_trans ih.2.2.2.2 (restL_le _ _ _)⟩
      intro x hx
      rcases List.mem_cons.1 hx with rfl | hx
      · exact ⟨nameOf_length _ _, nameOf_byte hl⟩
      · exact ih.1 x hx
    · exact ⟨(fun x hx => by cases hx), hl, he, Nat.zero_le _, Nat.le_refl _⟩

theorem gotL_length_le (n : Nat) (l : List Int) (e : Int) : (gotL n l e).length ≤ n := by
  unfold gotL
  split
  · rw [List.length_take]; exact Nat.le_trans (Nat.min_le_left _ _) (by omega)
  · exact Nat.zero_le _

theorem num_of_got {k : Nat} {l : List Int} {e : Int} (hl : isByte l) (hk : k ≤ 8) : 0 ≤ numOf (gotL k l e) ∧ numOf (gotL k l e) ≤ 18446744073709551615 :=
  numOf_u64 _ (gotL_byte hl) (Nat.le_trans (gotL_length_le _ _ _) hk)

theorem num_lt {l : List Int} (h : isByte l) (n : Nat) (hn : l.length ≤ n) : numOf l < 256 ^ n := by
  have h1 := numOf_bd l.length l rfl h
  have h2 : (256 : Int) ^ l.length ≤ 256 ^ n := by
    obtain ⟨d, rfl⟩ := Nat.exists_eq_add_of_le hn
    rw [Int.pow_add]
    have hp : ∀ m : Nat, 0 < (256 : Int) ^ m := fun m => Int.pow_pos (by decide)
    have h1 := hp l.length
    have h2 := hp d
    have : (256 : Int) ^ l.length * 1 ≤ 256 ^ l.length * 256 ^ d := Int.mul_le_mul_of_nonneg_left (by omega) (by omega)
    omega
  omega

/-- what is read is well made -/
def wellMade (r : Core × List (List Int) × List Int) : Prop :=
  r.1.name.length = 16 ∧ isByte r.1.name ∧ (0 ≤ r.1.id ∧ r.1.id ≤ 18446744073709551615) ∧ (0 ≤ r.1.gen ∧ r.1.gen ≤ 18446744073709551615) ∧ (∀ n ∈ r.2.1, n.length = 16 ∧ isByte n) ∧ isByte r.2.2 ∧
    r.2.1.length ≤ 65535 ∧ r.2.2.length ≤ 2 ^ 46 ∧ (0 ≤ r.1.client ∧ r.1.client ≤ 255) ∧ (0 ≤ r.1.kind ∧ r.1.kind ≤ 255)

theorem rdName_length (named : Bool) (l : List Int) (e : Int) : (rdName named l e).length = 16 := by
  cases named
  · rfl
  · exact nameOf_length l e
theorem rdName_byte {named : Bool} {l : List Int} {e : Int} (h : isByte l) : isByte (rdName named l e) := by
  cases named
  · exact isByte.replicate _
  · exact nameOf_byte h
theorem rdRest_byte {named : Bool} {l : List Int} {e : Int} (h : isByte l) : isByte (rdRest named l e) := by
  cases named
  · exact h
  · exact restL_byte h
theorem rdRest_le (named : Bool) (l : List Int) (e : Int) : (rdRest named l e).length ≤ l.length := by
  cases named
  · exact Nat.le_refl _
  · exact restL_le _ _ _
theorem okE_rd {named : Bool} {l : List Int} {e : Int} (h : okE e) : okE (rdWrong named l e) := by
  cases named
  · exact h
  · exact okE_wrong h

theorem sizedGot_byte {l : List Int} {e : Int} (h : isByte l) : isByte (sizedGot l e) := by
  unfold sizedGot
  split
  · exact gotL_byte (restL_byte h)
  · exact isByte.nil
theorem sizedGot_le (l : List Int) (e : Int) : (sizedGot l e).length ≤ l.length := by
  unfold sizedGot
  split
  · exact Nat.le_trans (gotL_le _ _ _) (restL_le _ _ _)
  · exact Nat.zero_le _

def okC (c : Core) : Prop := c.name.length = 16 ∧ isByte c.name ∧ (0 ≤ c.id ∧ c.id ≤ 18446744073709551615) ∧ (0 ≤ c.gen ∧ c.gen ≤ 18446744073709551615) ∧ (0 ≤ c.client ∧ c.client ≤ 255) ∧ (0 ≤ c.kind ∧ c.kind ≤ 255)

theorem one_byte {l : List Int} {e : Int} (h : isByte l) : 0 ≤ numOf (gotL 1 l e) ∧ numOf (gotL 1 l e) ≤ 255 := by
  have c1 := num_lt (gotL_byte (n := 1) (e := e) h) 1 (gotL_length_le 1 _ _)
  have c0 := (numOf_bd _ _ rfl (gotL_byte (n := 1) (e := e) h)).1
  simp only [Int.pow_succ, Int.pow_zero] at c1
  omega

theorem rdLast_made {c : Core} {l : List Int} {e : Int} {n : Nat} (hc : okC c) (hl : isByte l) (hs : l.length ≤ 2 ^ 46) (he : okE e) (hn : n ≤ 65535) : wellMade (rdLast c l e n) := by
  have hno := namesOf_ok n l e hl he
  exact ⟨hc.1, hc.2.1, hc.2.2.1, hc.2.2.2.1, hno.1, sizedGot_byte hno.2.1, Nat.le_trans hno.2.2.2.1 hn, Nat.le_trans (sizedGot_le _ _) (Nat.le_trans hno.2.2.2.2 hs), hc.2.2.2.2.1, hc.2.2.2.2.2⟩

theorem rdCount_made {c : Core} {l : List Int} {e : Int} (hc : okC c) (hl : isByte l) (hs : l.length ≤ 2 ^ 46) (he : okE e) : wellMade (rdCount c l e) := by
  have c5 := num_lt (gotL_byte (n := 2) (e := e) hl) 2 (gotL_length_le 2 _ _)
  refine rdLast_made hc (restL_byte hl) (Nat.le_trans (restL_le _ _ _) hs) (okE_wrong he) ?_
  simp only [Int.pow_succ, Int.pow_zero] at c5
  omega

theorem rdNamed_made {named : Bool} {client kind id : Int} {l : List Int} {e : Int} (h1 : 0 ≤ client ∧ client ≤ 255) (h2 : 0 ≤ kind ∧ kind ≤ 255) (h3 : 0 ≤ id ∧ id ≤ 18446744073709551615) (hl : isByte l) (hs : l.length ≤ 2 ^ 46) (he : okE e) :
    wellMade (rdNamed named client kind id l e) :=
  rdCount_made ⟨rdName_length named l e, rdName_byte hl, h3, num_of_got (k := 8) (rdRest_byte hl) (by decide), h1, h2⟩ (restL_byte (rdRest_byte hl)) (Nat.le_trans (restL_le _ _ _) (Nat.le_trans (rdRest_le _ _ _) hs)) (okE_wrong (okE_rd he))

theorem readOfL_made (named : Bool) {b : List Int} (hb : isByte b) (hl : b.length ≤ 2 ^ 46) : wellMade (readOfL named b) :=
  rdNamed_made (one_byte hb) (one_byte (restL_byte (restL_byte hb))) (num_of_got (k := 8) (restL_byte hb) (by decide)) (restL_byte (restL_byte (restL_byte hb)))
    (Nat.le_trans (restL_le _ _ _) (Nat.le_trans (restL_le _ _ _) (Nat.le_trans (restL_le _ _ _) hl))) (okE_wrong (okE_wrong (okE_wrong (.inl rfl))))
end Go.Proofs.Ytpacfijkhhjfeaa
