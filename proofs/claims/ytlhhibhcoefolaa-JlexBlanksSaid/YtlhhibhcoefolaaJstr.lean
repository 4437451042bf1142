/- What the package jstring writes, in plain Lean: no program stands here. -/
import Derived.Test.YtlhhibhcoefolaaUtf
namespace Go.Proofs.Ytlhhibhcoefolaa.Jstr
open Go.RowKit Go.Proofs.YtlhhibhcoefolaaW.PrintWords Go.Proofs.Ytlhhibhcoefolaa.Base Go.Proofs.Ytlhhibhcoefolaa.Utf

/-- All are units. -/
def right (l : List Int) : Prop := ∀ x ∈ l, 0 ≤ x ∧ x ≤ 65535
instance (l : List Int) : Decidable (right l) := inferInstanceAs (Decidable (∀ x ∈ l, 0 ≤ x ∧ x ≤ 65535))
theorem right_cons {x : Int} {l : List Int} : right (x :: l) ↔ (0 ≤ x ∧ x ≤ 65535) ∧ right l := by simp [right]
theorem right_nil : right [] := fun _ h => by simp at h
/-- A digit of base 16. -/
def hexd (n : Int) : Int := if n < 10 then 48 + n else 87 + n
/-- The digits of base 16 of a unit. -/
def four (r : Int) : List Int := [hexd (r / 4096), hexd (r / 256 % 16), hexd (r / 16 % 16), hexd (r % 16)]
/-- The letter behind a backslash. -/
def short (r : Int) : Option Int := if r = 34 then some 34 else if r = 92 then some 92 else if r = 8 then some 98 else if r = 12 then some 102 else if r = 10 then some 110 else if r = 13 then some 114 else if r = 9 then some 116 else none
/-- How a code point, or a single surrogate, is written. -/
def spell (r : Int) : List Int :=
  match short r with
  | some c => [92, c]
  | none => if r < 32 ∨ (55296 ≤ r ∧ r < 57344) then 92 :: 117 :: four r else put r
/-- Pairs of surrogates are one; others stand as they are. -/
def pairs : List Int → List Int
  | [] => []
  | [n] => [n]
  | n :: m :: t => if (55296 ≤ n ∧ n < 56320) ∧ (56320 ≤ m ∧ m < 57344) then (65536 + (n - 55296) * 1024 + m - 56320) :: pairs t else n :: pairs (m :: t)
/-- A whole text. -/
def body (l : List Int) : List Int := (pairs l).flatMap spell
def spelled (l : List Int) : List Int := 34 :: (body l ++ [34])

theorem pairs_len : ∀ l : List Int, (pairs l).length ≤ l.length
  | [] => by simp [pairs]
  | [n] => by simp [pairs]
  | n :: m :: t => by
    rw [pairs]
    split
    · have := pairs_len t
      simp only [List.length_cons]
      omega
    · have := pairs_len (m :: t)
      simp only [List.length_cons] at this ⊢
      omega
/-- What pairs make, and single units, lie where code points and surrogates lie. -/
theorem pairs_range : ∀ {l : List Int}, right l → ∀ x ∈ pairs l, 0 ≤ x ∧ x ≤ 1114111
  | [], _ => by simp [pairs]
  | [n], h => by
    have := (right_cons.1 h).1
    intro x hx
    simp [pairs] at hx
    omega
  | n :: m :: t, h => by
    have h1 := (right_cons.1 h).1
    have h2 := right_cons.1 (right_cons.1 h).2
    intro x hx
    rw [pairs] at hx
    split at hx
    · rcases List.mem_cons.1 hx with e | hx
      · omega
      · exact pairs_range h2.2 x hx
    · rcases List.mem_cons.1 hx with e | hx
      · omega
      · exact pairs_range (right_cons.1 h).2 x hx
theorem spell_len (r : Int) : 1 ≤ (spell r).length ∧ (spell r).length ≤ 6 := by
  unfold spell
  have := put_length r
  split
  · simp
  · split
    · simp [four]
    · omega
theorem hexd_byte {n : Int} (h0 : 0 ≤ n) (h1 : n < 16) : 0 ≤ hexd n ∧ hexd n < 256 := by
  unfold hexd
  split <;> omega
theorem short_byte {r c : Int} (h : short r = some c) : 0 ≤ c ∧ c < 256 := by
  unfold short at h
  split at h
  · simp at h; omega
  split at h
  · simp at h; omega
  split at h
  · simp at h; omega
  split at h
  · simp at h; omega
  split at h
  · simp at h; omega
  split at h
  · simp at h; omega
  split at h
  · simp at h; omega
  · simp at h
theorem spell_bytes {r : Int} (h0 : 0 ≤ r) : Bytes (spell r) := by
  unfold spell
  split
  · rename_i c hc
    exact Bytes.cons (by omega) (Bytes.cons (short_byte hc) Bytes.nil)
  · split
    · rename_i h
      refine Bytes.cons (by omega) (Bytes.cons (by omega) ?_)
      unfold four
      exact Bytes.cons (hexd_byte (by omega) (by omega)) (Bytes.cons (hexd_byte (by omega) (by omega)) (Bytes.cons (hexd_byte (by omega) (by omega)) (Bytes.cons (hexd_byte (by omega) (by omega)) Bytes.nil)))
    · exact put_bytes r
theorem flat_len (l : List Int) : (l.flatMap spell).length ≤ 6 * l.length := by
  induction l with
  | nil => simp
  | cons a l ih =>
    have := spell_len a
    simp only [List.flatMap_cons, List.length_append, List.length_cons]
    omega
theorem flat_bytes {l : List Int} (h : ∀ x ∈ l, 0 ≤ x) : Bytes (l.flatMap spell) := by
  induction l with
  | nil => exact Bytes.nil
  | cons a l ih =>
    rw [List.flatMap_cons]
    exact Bytes.append (spell_bytes (h a (by simp))) (ih fun x hx => h x (by simp [hx]))
theorem body_len (l : List Int) : (body l).length ≤ 6 * l.length := by
  have h1 := flat_len (pairs l)
  have h2 := pairs_len l
  unfold body
  omega
theorem spelled_bytes {l : List Int} (h : right l) : Bytes (spelled l) :=
  Bytes.cons (by omega) (Bytes.append (flat_bytes fun x hx => (pairs_range h x hx).1) (Bytes.cons (by omega) Bytes.nil))
end Go.Proofs.Ytlhhibhcoefolaa.Jstr
