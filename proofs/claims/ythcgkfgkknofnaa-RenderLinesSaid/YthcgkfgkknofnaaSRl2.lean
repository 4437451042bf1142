/- RenderCat and RenderNest. -/
import Derived.Test.YthcgkfgkknofnaaSRl0
namespace Go.Proofs.Ythcgkfgkknofnaa.Eng
open Go Go.Proofs.Ythcgkfgkknofnaa.Base
set_option maxRecDepth 100000
set_option linter.unusedSimpArgs false
set_option linter.unusedVariables false
/- Flat rows: what comes is each document's own. -/
mutual
def fp : Doc → List Pc
  | .mk k f t l => if k = 1 then (if t.size = 0 then [] else [(t, f)]) else if k = 2 then [(⟨#[32]⟩, -1)] else if k = 3 ∨ k = 4 then [] else fps l
def fps : List Doc → List Pc
  | [] => []
  | d :: l => fp d ++ fps l
end
theorem fp_eq (d : Doc) : fp d = if d.k = 1 then (if d.t.size = 0 then [] else [(d.t, d.f)]) else if d.k = 2 then [(⟨#[32]⟩, -1)] else if d.k = 3 ∨ d.k = 4 then [] else fps d.kids := by cases d; rw [fp]; rfl
def fpR : List It → List Pc
  | [] => []
  | x :: r => fp x.d ++ fpR r
theorem fpR_app : ∀ a b, fpR (a ++ b) = fpR a ++ fpR b
  | [], b => rfl
  | x :: a, b => by simp only [List.cons_append, fpR, fpR_app a b, List.append_assoc]
theorem fpR_kids (lv : Int) (fl : Bool) : ∀ l : List Doc, fpR (l.map fun d => ⟨d, lv, fl⟩) = fps l
  | [] => rfl
  | d :: l => by simp only [List.map_cons, fpR, fps, fpR_kids lv fl l]
theorem inI_fl (w col : Int) (x : It) (r : List It) (h : x.fl = true) : (inI w col x r).fl = true := by
  unfold inI
  split
  · exact h
  · split
    · simp [h]
    · exact h
theorem layR_flat (w i : Int) : ∀ (n : Nat) (r : List It) (col : Int), szr r ≤ n → (∀ x ∈ r, x.fl = true) → layR w i r col = fpR r
  | 0, [], _, _, _ => rfl
  | 0, x :: r, _, h, _ => by have := dsz_eq x.d; simp only [szr] at h; omega
  | n + 1, [], _, _, _ => rfl
  | n + 1, x :: r, col, h, hf => by
    have h1 := step_sz w i x r col
    have hx := hf x List.mem_cons_self
    have ht : ∀ y ∈ r, y.fl = true := fun y hy => hf y (List.mem_cons_of_mem _ hy)
    rw [layR_cons, layR_flat w i n _ _ (by omega)]
    · rw [fpR, fp_eq]
      unfold stepR
      split
      · split
        · rfl
        · rfl
      · rename_i k1
        split
        · rename_i k2
          split
          · rename_i k3
            rfl
          · rename_i k3
            rw [if_pos (by omega)]
        · rename_i k2
          rw [if_neg (by omega), if_neg (by omega)]
          simp only [List.nil_append, fpR_app, kidsI, fpR_kids, inI_d]
    · intro y hy
      unfold stepR at hy
      split at hy
      · split at hy <;> exact ht y hy
      · split at hy
        · split at hy
          · first | exact ht y hy | (split at hy <;> exact ht y hy)
          · exact ht y hy
        · rcases List.mem_append.mp hy with hy | hy
          · obtain ⟨d, _, rfl⟩ := List.mem_map.mp hy
            exact inI_fl w col x r hx
          · exact ht y hy
theorem wholeP_app (a b : List Pc) : wholeP (a ++ b) = wholeP a ++ wholeP b := by simp [wholeP]
theorem bytes0 {t : ByteArray} (h : t.size = 0) : t.data.toList = [] := List.eq_nil_of_length_eq_zero (by rw [size_toList]; exact h)
mutual
theorem fp_text : ∀ d : Doc, (rfS d).2 = true → (wholeP (fp d)) = (rfS d).1
  | .mk k f t l => by
    intro h
    rw [rfS] at h ⊢
    rw [fp]
    by_cases k1 : k = 1
    · simp only [if_pos k1]
      by_cases c : t.size = 0
      · rw [if_pos c, bytes0 c]; rfl
      · rw [if_neg c]; simp [wholeP]
    by_cases k2 : k = 2
    · simp only [if_neg k1, if_pos k2]; rfl
    by_cases k3 : k = 3
    · simp only [if_neg k1, if_neg k2, if_pos k3, if_pos (show k = 3 ∨ k = 4 from .inl k3)]; rfl
    by_cases k4 : k = 4
    · simp only [if_neg k1, if_neg k2, if_neg k3, if_pos k4] at h; cases h
    simp only [if_neg k1, if_neg k2, if_neg k3, if_neg k4, if_neg (show ¬ (k = 3 ∨ k = 4) by omega)] at h ⊢
    exact fps_text l h
theorem fps_text : ∀ l : List Doc, (rfL l).2 = true → (wholeP (fps l)) = (rfL l).1
  | [], _ => rfl
  | d :: l, h => by
    rw [rfL] at h ⊢
    rw [fps, wholeP_app]
    split at h
    · rename_i c
      rw [if_pos c]
      have h2 : (rfL l).2 = true := by
        unfold rfJ at h
        split at h
        · assumption
        · cases h
      rw [fp_text d c, fps_text l h2, rfJ, if_pos h2]
    · cases h
end
/- What is held together, unflat, is its parts. -/
def exK : Doc → Bool
  | .mk k _ _ _ => k == 5
mutual
def exD (lv : Int) : Doc → List It
  | .mk k f t l => if k = 5 then exDs lv l else [⟨.mk k f t l, lv, false⟩]
def exDs (lv : Int) : List Doc → List It
  | [] => []
  | d :: l => exD lv d ++ exDs lv l
end
theorem exD_eq (lv : Int) (d : Doc) : exD lv d = if d.k = 5 then exDs lv d.kids else [⟨d, lv, false⟩] := by cases d; rw [exD]; rfl
def exI (x : It) : List It := if x.fl = true then [x] else exD x.lv x.d
def exR : List It → List It
  | [] => []
  | x :: r => exI x ++ exR r
theorem exR_app : ∀ a b, exR (a ++ b) = exR a ++ exR b
  | [], b => rfl
  | x :: a, b => by simp only [List.cons_append, exR, exR_app a b, List.append_assoc]
theorem exR_kids (lv : Int) : ∀ l : List Doc, exR (l.map fun d => ⟨d, lv, false⟩) = exDs lv l
  | [] => rfl
  | d :: l => by simp only [List.map_cons, exR, exDs, exR_kids lv l, exI, Bool.false_eq_true, if_false]
mutual
theorem exD_ex (lv : Int) : ∀ d, exR (exD lv d) = exD lv d
  | .mk k f t l => by
    rw [exD]
    split
    · exact exDs_ex lv l
    · rename_i h
      simp only [exR, exI, Bool.false_eq_true, if_false, exD, if_neg h, List.append_nil]
theorem exDs_ex (lv : Int) : ∀ l, exR (exDs lv l) = exDs lv l
  | [] => rfl
  | d :: l => by rw [exDs, exR_app, exD_ex lv d, exDs_ex lv l]
end
theorem exR_ex : ∀ r, exR (exR r) = exR r
  | [] => rfl
  | x :: r => by
    rw [exR, exR_app, exR_ex r]
    congr 1
    unfold exI
    split
    · rename_i h; simp only [exR, exI, h, if_true, List.append_nil]
    · exact exD_ex _ _
mutual
theorem exD_sz (lv : Int) : ∀ d, szr (exD lv d) ≤ dsz d
  | .mk k f t l => by
    rw [exD]
    split
    · have := exDs_sz lv l; rw [dsz]; omega
    · simp [szr]
theorem exDs_sz (lv : Int) : ∀ l, szr (exDs lv l) ≤ dszs l
  | [] => Nat.le_refl _
  | d :: l => by have := exD_sz lv d; have := exDs_sz lv l; rw [exDs, szr_app, dszs]; omega
end
theorem exR_sz : ∀ r, szr (exR r) ≤ szr r
  | [] => Nat.le_refl _
  | x :: r => by
    have h1 := exR_sz r
    rw [exR, szr_app, szr]
    unfold exI
    split
    · simp only [szr]; omega
    · have := exD_sz x.lv x.d; omega
mutual
theorem exD_sum (lv : Int) : ∀ (d : Doc) (r : List It), sumB (exD lv d ++ r) = if (bw d).2 = true then (bw d).1 else (bw d).1 + sumB r
  | .mk k f t l, r => by
    rw [exD]
    split
    · rename_i h
      have e : bw (.mk k f t l) = bws l := by rw [bw, if_neg (by omega), if_neg (by omega)]
      rw [exDs_sum lv l r, e]
    · simp only [List.cons_append, List.nil_append, sumB, Bool.false_eq_true, if_false]
theorem exDs_sum (lv : Int) : ∀ (l : List Doc) (r : List It), sumB (exDs lv l ++ r) = if (bws l).2 = true then (bws l).1 else (bws l).1 + sumB r
  | [], r => by simp [exDs, bws]
  | d :: l, r => by
    rw [exDs, List.append_assoc, exD_sum lv d, exDs_sum lv l, bws]
    cases (bw d).2 with
    | true => rfl
    | false =>
      simp only [Bool.false_eq_true, if_false]
      split
      · rfl
      · omega
end
theorem exR_sum : ∀ r, sumB (exR r) = sumB r
  | [] => rfl
  | x :: r => by
    rw [exR]
    unfold exI
    split
    · rename_i h; simp only [List.cons_append, List.nil_append, sumB, h, if_true, exR_sum r]
    · rename_i h; rw [exD_sum, sumB, if_neg h, exR_sum r]
theorem inI_ex (w col : Int) (x : It) (r : List It) : inI w col x (exR r) = inI w col x r := by
  unfold inI fitsR; rw [exR_sum]
theorem layR_ex (w i : Int) : ∀ (n : Nat) (r : List It) (col : Int), szr r ≤ n → layR w i r col = layR w i (exR r) col
  | 0, [], _, _ => rfl
  | 0, x :: r, _, h => by have := dsz_eq x.d; simp only [szr] at h; omega
  | n + 1, [], _, _ => rfl
  | n + 1, x :: r, col, h => by
    have h1 := step_sz w i x r col
    by_cases hc : x.fl = false ∧ x.d.k = 5
    · have e : stepR w i x r col = (kidsI x ++ r, col, []) := by
        unfold stepR inI
        rw [if_neg (by omega), if_neg (by omega), if_neg (by omega), if_neg (by omega)]
      rw [e] at h1
      rw [layR_cons, e, layR_ex w i n _ _ (by simp only [] at h1 ⊢; omega)]
      simp only [List.nil_append]
      rw [exR_app, exR, exI, if_neg (by rw [hc.1]; decide), exD_eq, if_pos hc.2, kidsI, hc.1, exR_kids]
    · have e : exR (x :: r) = x :: exR r := by
        rw [exR, exI]
        split
        · rfl
        · rename_i hf
          rw [exD_eq, if_neg (fun q => hc ⟨by simpa using hf, q⟩)]
          cases x with | mk d lv fl => simp only at hf ⊢; simp [hf]
      rw [e, layR_cons, layR_cons w i x (exR r)]
      have h2 := step_sz w i x (exR r) col
      have h3 := exR_sz r
      simp only [szr] at h h2
      have key : (stepR w i x (exR r) col).2 = (stepR w i x r col).2 ∧ exR (stepR w i x (exR r) col).1 = exR (stepR w i x r col).1 := by
        unfold stepR
        rw [inI_ex]
        split
        · split <;> exact ⟨rfl, exR_ex r⟩
        · split
          · split
            · split <;> exact ⟨rfl, exR_ex r⟩
            · exact ⟨rfl, exR_ex r⟩
          · exact ⟨rfl, by simp only [exR_app, exR_ex]⟩
      rw [layR_ex w i n (stepR w i x r col).1 _ (by simp only [szr] at h1; omega), layR_ex w i n (stepR w i x (exR r) col).1 _ (by omega), key.1, key.2]
end Go.Proofs.Ythcgkfgkknofnaa.Eng
