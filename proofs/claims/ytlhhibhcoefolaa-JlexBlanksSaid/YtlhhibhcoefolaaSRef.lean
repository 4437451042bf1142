/- The reference's reading of UTF-8, on the small machine. -/
import Derived.Test.YtlhhibhcoefolaaSUtf
namespace Go.Proofs.Ytlhhibhcoefolaa.Eng
open Go Go.Proofs.Ytlhhibhcoefolaa.Base
set_option maxRecDepth 100000
set_option linter.unusedSimpArgs false
def finR (low n x : Int) : Int × Int × Bool := if x < low ∨ x > 1114111 ∨ (55296 ≤ x ∧ x < 57344) then Utf.bad else (x, n, true)
theorem lgI (a b : Int) : a < b ∨ b ≤ a := by omega
/-- What is made of a first byte's bits and so many bytes behind, by the reference. -/
def runR (low n : Int) : Nat → Int → List Int → Int × Int × Bool
  | 0, x, _ => finR low n x
  | _ + 1, _, [] => Utf.bad
  | k + 1, x, d :: t => if Utf.cont d then runR low n k (x * 64 + (d - 128)) t else Utf.bad
theorem fin_R {low n x : Int} (h : (x < low ∨ x > 1114111 ∨ (55296 ≤ x ∧ x < 57344)) ↔ ¬ (Utf.isCp x ∧ Utf.size x = n)) : finR low n x = Utf.fin x n := by
  unfold finR Utf.fin
  by_cases hx : Utf.isCp x ∧ Utf.size x = n
  · rw [if_neg (fun q => h.mp q hx), if_pos hx]
  · rw [if_pos (h.mpr hx), if_neg hx]
theorem ref_dec {c : Int} {t : List Int} (hb : Bytes (c :: t)) : Utf.dec (c :: t) = if c < 128 then (c, 1, true) else if 192 ≤ c ∧ c < 224 then runR 128 2 1 (c - 192) t else if 224 ≤ c ∧ c < 240 then runR 2048 3 2 (c - 224) t else if 240 ≤ c ∧ c < 248 then runR 65536 4 3 (c - 240) t else Utf.bad := by
  have hc := hb.head
  simp only [Utf.dec]
  by_cases a1 : c < 128
  · rw [if_pos a1, if_pos a1]
  rw [if_neg a1, if_neg a1]
  by_cases a2 : 192 ≤ c ∧ c < 224
  · rw [if_pos a2]
    match t, hb with
    | [], _ =>
      simp only [runR]
      split
      · rfl
      · rw [if_neg (by omega), if_neg (by omega)]
    | d :: t, hb =>
      have hd := hb d (by simp)
      simp only [runR]
      by_cases k : Utf.cont d
      · rw [if_pos k]
        have k' := k
        unfold Utf.cont at k'
        by_cases a3 : 194 ≤ c ∧ c < 224
        · rw [if_pos a3, if_pos k, fin_R]
          unfold Utf.isCp Utf.size
          rw [if_neg (by omega), if_pos (by omega)]
          omega
        · rw [if_neg a3, if_neg (by omega), if_neg (by omega), finR]
          simp only [if_pos k, Utf.isCp, Utf.size]
          rw [if_pos (show (c - 192) * 64 + (d - 128) < 128 ∨ (c - 192) * 64 + (d - 128) > 1114111 ∨ (55296 ≤ (c - 192) * 64 + (d - 128) ∧ (c - 192) * 64 + (d - 128) < 57344) by omega)]
      · rw [if_neg k]
        split
        · first | rfl | rw [if_neg k]
        · rw [if_neg (by omega), if_neg (by omega)]
  rw [if_neg a2, if_neg (show ¬ (194 ≤ c ∧ c < 224) by omega)]
  by_cases a3 : 224 ≤ c ∧ c < 240
  · rw [if_pos a3, if_pos a3]
    match t, hb with
    | [], _ => rfl
    | [d], hb =>
      simp only [runR]
      split <;> rfl
    | d :: e :: t, hb =>
      have hd := hb d (by simp)
      have he := hb e (by simp)
      simp only [runR]
      by_cases k1 : Utf.cont d
      · by_cases k2 : Utf.cont e
        · rw [if_pos ⟨k1, k2⟩, if_pos k1, if_pos k2]
          unfold Utf.cont at k1 k2
          rw [show ((c - 224) * 64 + (d - 128)) * 64 + (e - 128) = (c - 224) * 4096 + (d - 128) * 64 + (e - 128) by omega, fin_R]
          unfold Utf.isCp Utf.size
          constructor
          · intro h q
            have q2 := q.2
            split at q2 <;> first | omega | (split at q2 <;> first | omega | (split at q2 <;> omega))
          · intro h
            by_cases z : (c - 224) * 4096 + (d - 128) * 64 + (e - 128) < 2048
            · exact .inl z
            · refine .inr (.inr ?_)
              rcases lgI ((c - 224) * 4096 + (d - 128) * 64 + (e - 128)) 55296 with y | y
              · exact absurd ⟨⟨by omega, by omega, by omega⟩, by rw [if_neg (by omega), if_neg (by omega), if_pos (by omega)]⟩ h
              · rcases lgI ((c - 224) * 4096 + (d - 128) * 64 + (e - 128)) 57344 with y2 | y2
                · exact ⟨y, y2⟩
                · exact absurd ⟨⟨by omega, by omega, by omega⟩, by rw [if_neg (by omega), if_neg (by omega), if_pos (by omega)]⟩ h
        · rw [if_neg (fun q => k2 q.2), if_pos k1, if_neg k2]
      · rw [if_neg (fun q => k1 q.1), if_neg k1]
  rw [if_neg a3, if_neg a3]
  by_cases a4 : 240 ≤ c ∧ c < 248
  · rw [if_pos a4]
    match t, hb with
    | [], _ => simp only [runR]; split <;> rfl
    | [d], hb => simp only [runR]; split <;> split <;> rfl
    | [d, e], hb => simp only [runR]; (repeat' split) <;> rfl
    | d :: e :: f :: t, hb =>
      have hd := hb d (by simp)
      have he := hb e (by simp)
      have hf := hb f (by simp)
      simp only [runR]
      by_cases k1 : Utf.cont d
      · by_cases k2 : Utf.cont e
        · by_cases k3 : Utf.cont f
          · rw [if_pos k1, if_pos k2, if_pos k3]
            have k1' := k1
            have k2' := k2
            have k3' := k3
            unfold Utf.cont at k1' k2' k3'
            rw [show (((c - 240) * 64 + (d - 128)) * 64 + (e - 128)) * 64 + (f - 128) = (c - 240) * 262144 + (d - 128) * 4096 + (e - 128) * 64 + (f - 128) by omega]
            by_cases a5 : 240 ≤ c ∧ c < 245
            · rw [if_pos a5, if_pos ⟨k1, k2, k3⟩, fin_R]
              unfold Utf.isCp Utf.size
              constructor
              · intro h q
                have q2 := q.2
                split at q2 <;> first | omega | (split at q2 <;> first | omega | (split at q2 <;> omega))
              · intro h
                rcases lgI ((c - 240) * 262144 + (d - 128) * 4096 + (e - 128) * 64 + (f - 128)) 65536 with y | y
                · exact .inl y
                · rcases lgI 1114111 ((c - 240) * 262144 + (d - 128) * 4096 + (e - 128) * 64 + (f - 128)) with y2 | y2
                  · exact .inr (.inl y2)
                  · exact absurd ⟨⟨by omega, by omega, by omega⟩, by rw [if_neg (by omega), if_neg (by omega), if_neg (by omega)]⟩ h
            · rw [if_neg a5, finR, if_pos (by omega)]
          · rw [if_pos k1, if_pos k2, if_neg k3]
            split
            · rw [if_neg (fun q => k3 q.2.2)]
            · rfl
        · rw [if_pos k1, if_neg k2]
          split
          · rw [if_neg (fun q => k2 q.2.1)]
          · rfl
      · rw [if_neg k1]
        split
        · rw [if_neg (fun q => k1 q.1)]
        · rfl
  · rw [if_neg a4, if_neg (by omega)]
end Go.Proofs.Ytlhhibhcoefolaa.Eng
