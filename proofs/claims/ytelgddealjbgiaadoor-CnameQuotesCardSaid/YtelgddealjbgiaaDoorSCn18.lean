/- CnameQuotes: what is in marks. -/
import Derived.Test.YtelgddealjbgiaaDoorSCn17
namespace Go.Proofs.YtelgddealjbgiaaDoor.Eng
open Go Go.Proofs.YtelgddealjbgiaaDoor.Base Go.Proofs.YtelgddealjbgiaaDoor.Cinput
set_option maxRecDepth 100000
set_option linter.unusedSimpArgs false
set_option linter.unusedVariables false
/-- Read between marks: is a backslash ahead, at the end; none: an end of a line, or a mark without a backslash. -/
def scanQ (g : Int) : Bool → List Int → Option Bool
  | b, [] => some b
  | b, x :: m => if ((x = 10 ∨ x = 12) ∨ x = 13) ∨ (x = g ∧ b = false) then none else scanQ g (decide (x = 92) && !b) m
theorem scan_plain (g : Int) : ∀ (a m : List Int), (∀ x ∈ a, x ≠ 10 ∧ x ≠ 12 ∧ x ≠ 13 ∧ x ≠ g ∧ x ≠ 92) → scanQ g false (a ++ m) = scanQ g false m
  | [], m, _ => rfl
  | x :: a, m, h => by
    have hx := h x (List.mem_cons_self ..)
    rw [List.cons_append, scanQ, if_neg (by omega), show (decide (x = 92) && !false) = false by simp [hx.2.2.2.2]]
    exact scan_plain g a m fun y hy => h y (List.mem_cons_of_mem _ hy)
theorem scan_back {g x : Int} (hx : x ≠ 10 ∧ x ≠ 12 ∧ x ≠ 13) (hg : g ≠ 92) (m : List Int) : scanQ g false (92 :: x :: m) = scanQ g false m := by
  rw [scanQ, if_neg (by omega)]
  show scanQ g true (x :: m) = _
  rw [scanQ, if_neg (by simp; omega)]
  simp
theorem put_low {r : Int} (h0 : 0 ≤ r) (h : r < 128) : Utf.put r = [r] := by
  have hc : Utf.isCp r := by unfold Utf.isCp; omega
  rw [Utf.put, Utf.fix_of hc, Utf.enc, if_pos h]
theorem put_high {r : Int} (h : 128 ≤ r) : ∀ x ∈ Utf.put r, 128 ≤ x := by
  have hf : 128 ≤ Utf.fix r ∧ Utf.fix r ≤ 1114111 := by
    unfold Utf.fix
    split
    · rename_i h; unfold Utf.isCp at h; omega
    · omega
  unfold Utf.put Utf.enc
  intro x hx
  rw [if_neg (by omega)] at hx
  split at hx
  · simp at hx; omega
  · split at hx
    · simp at hx; omega
    · simp at hx; omega
theorem scan_quo (g : Int) (hg : g = 34 ∨ g = 39) : ∀ l : List Int, (∀ x ∈ l, 0 ≤ x) → scanQ g false (quoL g l) = some false
  | [], _ => rfl
  | r :: l, h => by
    have h0 := h r (List.mem_cons_self ..)
    have ih := scan_quo g hg l fun y hy => h y (List.mem_cons_of_mem _ hy)
    rw [quoL]
    unfold quo1
    by_cases c1 : r = g ∨ r = 92
    · rw [if_pos c1, put_low h0 (by omega)]
      show scanQ g false (92 :: r :: quoL g l) = _
      rw [scan_back (by omega) (by omega), ih]
    rw [if_neg c1]
    by_cases c2 : r = 10 ∨ r = 12 ∨ r = 13
    · rw [if_pos c2]
      have hn : ∃ d, numL r = [92, d] ∧ (d = 97 ∨ d = 99 ∨ d = 100) := by
        rcases c2 with rfl | rfl | rfl
        · exact ⟨97, rfl, .inl rfl⟩
        · exact ⟨99, rfl, .inr (.inl rfl)⟩
        · exact ⟨100, rfl, .inr (.inr rfl)⟩
      obtain ⟨d, hd, hd2⟩ := hn
      rw [hd]
      rw [List.append_assoc]
      show scanQ g false (92 :: d :: (_ ++ quoL g l)) = _
      rw [scan_back (by omega) (by omega), scan_plain g _ _ (fun x hx => ?_), ih]
      split at hx
      · rcases List.mem_singleton.mp hx with rfl; omega
      · cases hx
    rw [if_neg c2]
    by_cases c3 : r = 0
    · rw [if_pos c3, scan_plain g _ _ (fun x hx => ?_), ih]
      have := put_high (r := 65533) (by decide) x hx
      omega
    rw [if_neg c3, scan_plain g _ _ (fun x hx => ?_), ih]
    by_cases c4 : r < 128
    · rw [put_low h0 c4] at hx
      rcases List.mem_singleton.mp hx with rfl; omega
    · have := put_high (r := r) (by omega) x hx
      omega
/- How long both are. -/
def cnt (x : Int) : List Int → Int
  | [] => 0
  | y :: l => (if y = x then 1 else 0) + cnt x l
theorem cnt_app (x : Int) : ∀ a b : List Int, cnt x (a ++ b) = cnt x a + cnt x b
  | [], b => by simp [cnt]
  | y :: a, b => by simp only [List.cons_append, cnt, cnt_app x a b]; omega
theorem cnt_high (x : Int) (hx : x < 128) : ∀ a : List Int, (∀ y ∈ a, 128 ≤ y) → cnt x a = 0
  | [], _ => rfl
  | y :: a, h => by
    have := h y (List.mem_cons_self ..)
    rw [cnt, if_neg (by omega), cnt_high x hx a fun z hz => h z (List.mem_cons_of_mem _ hz)]; rfl
theorem cnt_le (x : Int) : ∀ a : List Int, 0 ≤ cnt x a ∧ cnt x a ≤ a.length
  | [] => by simp [cnt]
  | y :: a => by
    have := cnt_le x a
    simp only [cnt, List.length_cons]
    split <;> omega
theorem cnt_alls (x : Int) (hx : x < 128) : ∀ (n : Nat) (l : List Int), Bytes l → l.length ≤ n → cnt x (alls n l) = cnt x l
  | 0, l, _, h => by rw [List.eq_nil_of_length_eq_zero (Nat.le_zero.mp h)]; rfl
  | n + 1, l, hb, h => by
    unfold alls
    by_cases hl : l = []
    · rw [if_pos hl, hl]
    rw [if_neg hl]
    have hd := Utf.dec_len hb hl
    have hbd : Bytes (l.drop (Utf.dec l).2.1.toNat) := fun y hy => hb y (List.mem_of_mem_drop hy)
    rw [cnt, cnt_alls x hx n _ hbd (by rw [List.length_drop]; omega)]
    have key : cnt x (l.take (Utf.dec l).2.1.toNat) = if (Utf.dec l).1 = x then 1 else 0 := by
      rcases l with _ | ⟨c, t⟩
      · exact absurd rfl hl
      by_cases c1 : c < 128
      · rw [dec_low c1]; simp [cnt]
      · have h1 := dec_high hb c1
        rw [if_neg (by omega)]
        rcases hd' : Utf.dec (c :: t) with ⟨r, k, ok⟩
        rw [hd'] at h1
        cases ok with
        | true =>
          obtain ⟨hr, hk, u, hu⟩ := Utf.enc_dec hb hd'
          have hke : k.toNat = (Utf.enc r).length := by
            have := @Utf.enc_size r; omega
          refine cnt_high x hx _ fun y hy => ?_
          simp only [hke, hu, List.take_left'] at hy
          exact put_high h1 y (by rw [Utf.put, Utf.fix_of hr]; exact hy)
        | false =>
          have hb2 := Utf.dec_false (l := c :: t) hl (by rw [hd'])
          rw [hd'] at hb2
          simp only [Utf.bad, Prod.mk.injEq] at hb2
          obtain ⟨-, rfl, -⟩ := hb2
          refine cnt_high x hx _ fun y hy => ?_
          have : y = c := by simpa using hy
          omega
    rw [← key, ← cnt_app, List.take_append_drop]
theorem quo_len : ∀ l : List Int, (∀ x ∈ l, 0 ≤ x) → ((quoL 34 l).length : Int) - cnt 34 l = (quoL 39 l).length - cnt 39 l
  | [], _ => rfl
  | r :: l, h => by
    have h0 := h r (List.mem_cons_self ..)
    have ih := quo_len l fun y hy => h y (List.mem_cons_of_mem _ hy)
    simp only [quoL, cnt, List.length_append]
    have e1 : quo1 34 34 l = [92, 34] := by unfold quo1; rw [if_pos (by decide)]; rfl
    have e2 : quo1 39 34 l = [34] := by unfold quo1; rw [if_neg (by decide), if_neg (by decide), if_neg (by decide)]; rfl
    have e3 : quo1 34 39 l = [39] := by unfold quo1; rw [if_neg (by decide), if_neg (by decide), if_neg (by decide)]; rfl
    have e4 : quo1 39 39 l = [92, 39] := by unfold quo1; rw [if_pos (by decide)]; rfl
    have key : ((quo1 34 r l).length : Int) - (if r = 34 then 1 else 0) = (quo1 39 r l).length - (if r = 39 then 1 else 0) := by
      by_cases c1 : r = 34
      · subst c1; rw [e1, e2]; decide
      by_cases c2 : r = 39
      · subst c2; rw [e3, e4]; decide
      rw [if_neg c1, if_neg c2]
      unfold quo1
      by_cases c3 : r = 92
      · rw [if_pos (.inr c3), if_pos (.inr c3)]
      · rw [if_neg (show ¬ (r = 34 ∨ r = 92) by omega), if_neg (show ¬ (r = 39 ∨ r = 92) by omega)]
    omega
theorem quo1_bytes (g r : Int) (hr : 0 ≤ r) (l : List Int) : Bytes (quo1 g r l) := by
  have hby : ∀ l : List Int, (l.all fun x => decide (0 ≤ x ∧ x < 256)) = true → Bytes l := fun l h x hx => of_decide_eq_true (List.all_eq_true.mp h x hx)
  unfold quo1
  split
  · intro x hx
    rcases List.mem_cons.mp hx with rfl | hx
    · decide
    · exact Utf.put_bytes r x hx
  · split
    · rename_i c2
      intro x hx
      rcases List.mem_append.mp hx with hx | hx
      · rcases c2 with rfl | rfl | rfl <;> exact hby _ (by decide) x hx
      · split at hx
        · exact hby [32] (by decide) x hx
        · cases hx
    · split
      · exact Utf.put_bytes _
      · exact Utf.put_bytes _
theorem quoL_bytes (g : Int) : ∀ l : List Int, (∀ x ∈ l, 0 ≤ x) → Bytes (quoL g l)
  | [], _ => fun x hx => by cases hx
  | r :: l, h => fun x hx => by
    rw [quoL] at hx
    rcases List.mem_append.mp hx with hx | hx
    · exact quo1_bytes g r (h r (List.mem_cons_self ..)) l x hx
    · exact quoL_bytes g l (fun y hy => h y (List.mem_cons_of_mem _ hy)) x hx
theorem quoL_len (g : Int) : ∀ l : List Int, (quoL g l).length ≤ 6 * l.length
  | [] => Nat.le_refl _
  | r :: l => by have := quo1_le g r l; have := quoL_len g l; simp only [quoL, List.length_append, List.length_cons]; omega
/-- What the marked text is. -/
theorem text_is {l : List Int} (hb : Bytes l) : ∃ (g : Int) (B : List Int), textL l = g :: (B ++ [g]) ∧ (g = 34 ∨ g = 39) ∧ Bytes B ∧ B.length ≤ 6 * l.length ∧ scanQ g false B = some false ∧ (g = 34 ↔ cnt 34 l ≤ cnt 39 l) := by
  have hr := fun x hx => (alls_range l.length l hb x hx).1
  have hq := quo_len _ hr
  rw [cnt_alls 34 (by decide) _ _ hb (Nat.le_refl _), cnt_alls 39 (by decide) _ _ hb (Nat.le_refl _)] at hq
  have hal := alls_len l.length l
  unfold textL quoted
  simp only [List.length_append, List.length_cons, List.length_nil, List.cons_append]
  by_cases c : (quoL 39 (alls l.length l)).length + 1 + (0 + 1) < (quoL 34 (alls l.length l)).length + 1 + (0 + 1)
  · refine ⟨39, quoL 39 (alls l.length l), by rw [if_pos (by omega)], .inr rfl, quoL_bytes _ _ hr, ?_, scan_quo 39 (.inr rfl) _ hr, by omega⟩
    have := quoL_len 39 (alls l.length l); omega
  · refine ⟨34, quoL 34 (alls l.length l), by rw [if_neg (by omega)], .inl rfl, quoL_bytes _ _ hr, ?_, scan_quo 34 (.inl rfl) _ hr, by omega⟩
    have := quoL_len 34 (alls l.length l); omega
end Go.Proofs.YtelgddealjbgiaaDoor.Eng
