/- Names of CSS, written: both ways are one. -/
import Derived.Test.YtelgddealjbgiaaDoorSCn11
namespace Go.Proofs.YtelgddealjbgiaaDoor.Eng
open Go Go.Proofs.YtelgddealjbgiaaDoor.Base
set_option maxRecDepth 100000
set_option linter.unusedSimpArgs false
set_option linter.unusedVariables false
def oneP (r : Int) : List Int := if r < 32 ∨ r = 127 then numL r ++ [32] else if inP r then Utf.put r else 92 :: Utf.put r
theorem oneL_z0 {r : Int} (h : 0 ≤ r) : oneL r = oneP (z0 r) := by
  unfold oneL z0
  by_cases c : r = 0
  · rw [if_pos c, if_pos c]; decide +kernel
  · rw [if_neg c, if_neg c]; rfl
theorem restL_P {l : List Int} (hb : Bytes l) : restL l = (ptsL l).flatMap oneP := by
  unfold restL ptsL
  have hr := alls_range l.length l hb
  generalize alls l.length l = a at hr
  induction a with
  | nil => rfl
  | cons x a ih =>
    rw [List.flatMap_cons, List.map_cons, List.flatMap_cons, oneL_z0 (hr x (List.mem_cons_self ..)).1, ih fun y hy => hr y (List.mem_cons_of_mem _ hy)]
theorem itemR_P {first : Bool} {ps : List Int} {i : Nat} {r : Int} (h1 : ¬ ((first = true ∧ digP r) ∧ (i = 0 ∨ (i = 1 ∧ ps.getD 0 0 = 45)))) (h2 : ¬ ((first = true ∧ r = 45) ∧ ps.length = 1)) : itemR first ps i r = oneP r := by
  unfold itemR oneP
  by_cases c : r < 32 ∨ r = 127
  · rw [if_pos (.inl c), if_pos c]
  · rw [if_neg (fun h => h.elim c h1), if_neg h2, if_neg c]
theorem spellK_from (first : Bool) (ps : List Int) (k : Nat) (h : ∀ (i : Nat) (r : Int), k ≤ i → ps[i]? = some r → itemR first ps i r = oneP r) : ∀ n, k + n ≤ ps.length → spellK first ps (k + n) = spellK first ps k ++ ((ps.drop k).take n).flatMap oneP
  | 0, _ => by simp
  | n + 1, hn => by
    have hx : ∃ x, ps[k + n]? = some x := ⟨_, List.getElem?_eq_getElem (by omega)⟩
    obtain ⟨x, hx⟩ := hx
    have hd : (ps.drop k)[n]? = some x := by rw [List.getElem?_drop]; exact hx
    rw [← Nat.add_assoc, spellK, spellK_from first ps k h n (by omega), take_at hd]
    have hg : ps.getD (k + n) 0 = x := by rw [List.getD_eq_getElem?_getD, hx]; rfl
    rw [hg, h _ _ (by omega) hx]
    simp
theorem spellK_all (first : Bool) (ps : List Int) (k : Nat) (hk : k ≤ ps.length) (h : ∀ (i : Nat) (r : Int), k ≤ i → ps[i]? = some r → itemR first ps i r = oneP r) : spellK first ps ps.length = spellK first ps k ++ (ps.drop k).flatMap oneP := by
  have := spellK_from first ps k h (ps.length - k) (by omega)
  rw [show k + (ps.length - k) = ps.length by omega, List.take_of_length_le (by rw [List.length_drop]; omega)] at this
  exact this
theorem spellR_rest {l : List Int} (hb : Bytes l) : spellR false l = restL l := by
  rw [restL_P hb]
  unfold spellR
  rw [spellK_all false _ 0 (Nat.zero_le _) fun i r _ _ => itemR_P (by simp) (by simp)]
  simp [spellK]
/- The first code point. -/
theorem dec_low {c : Int} (h : c < 128) (t : List Int) : Utf.dec (c :: t) = (c, 1, true) := by unfold Utf.dec; exact if_pos h
theorem dec_high {c : Int} {t : List Int} (hb : Bytes (c :: t)) (h : ¬ c < 128) : 128 ≤ (Utf.dec (c :: t)).1 := by
  rcases hd : Utf.dec (c :: t) with ⟨r, n, ok⟩
  cases ok with
  | true =>
    obtain ⟨hr, _, u, hu⟩ := Utf.enc_dec hb hd
    refine Decidable.byContradiction fun hc => ?_
    simp only [Int.not_le] at hc
    rw [Utf.enc, if_pos hc] at hu
    simp only [List.cons_append, List.nil_append, List.cons.injEq] at hu
    omega
  | false =>
    have := Utf.dec_false (l := c :: t) (by simp) (by rw [hd])
    rw [hd] at this
    simp only [Utf.bad, Prod.mk.injEq] at this
    simp only []; omega
theorem ptsL_low {c : Int} {t : List Int} (hb : Bytes (c :: t)) (h : c < 128) : ptsL (c :: t) = z0 c :: ptsL t := by
  unfold ptsL
  rw [List.length_cons, alls, if_neg (by simp), dec_low h]
  rfl
theorem ptsL_high {c : Int} {t : List Int} (hb : Bytes (c :: t)) (h : ¬ c < 128) : ∃ r m, ptsL (c :: t) = r :: m ∧ 128 ≤ r := by
  have := dec_high hb h
  refine ⟨(Utf.dec (c :: t)).1, (alls t.length ((c :: t).drop (Utf.dec (c :: t)).2.1.toNat)).map z0, ?_, this⟩
  unfold ptsL
  rw [List.length_cons, alls, if_neg (by simp), List.map_cons]
  congr 1
  unfold z0; rw [if_neg (by omega)]
theorem ptsL_nil : ptsL [] = [] := rfl
theorem nameL_n {l : List Int} (h : l ≠ [45]) (n : Nat) (hn : (if l.take 1 = [45] then 1 else 0) = n) : nameL l = if n < l.length ∧ digP (l.getD n 0) then l.take n ++ numL (l.getD n 0) ++ [32] ++ restL (l.drop (n + 1)) else restL l := by
  subst hn; unfold nameL; rw [if_neg h]
theorem name_eq {l : List Int} (hb : Bytes l) : spellR true l = nameL l := by
  unfold spellR
  rcases l with _ | ⟨c, t⟩
  · rfl
  have hbt : Bytes t := fun x hx => hb x (List.mem_cons_of_mem _ hx)
  have hc := hb c (List.mem_cons_self ..)
  have hall : ∀ ps : List Int, 2 ≤ ps.length → spellK true ps ps.length = spellK true ps 2 ++ (ps.drop 2).flatMap oneP := fun ps h2 =>
    spellK_all true ps 2 h2 fun i r hi _ => itemR_P (by omega) (by omega)
  have hput45 : oneP 45 = [45] := by decide +kernel
  have hp45 : Utf.put 45 = [45] := by decide +kernel
  have dP : ∀ d, digP d → oneP d = Utf.put d ∧ d < 128 ∧ z0 d = d := fun d h => by
    have h' := h
    unfold digP at h'
    refine ⟨?_, by omega, by unfold z0; rw [if_neg (by omega)]⟩
    unfold oneP
    rw [if_neg (by omega), if_pos (.inr (.inl h))]
  by_cases c1 : c < 128
  rotate_left
  · obtain ⟨r, m, hp, hr⟩ := ptsL_high hb c1
    rw [nameL_n (by simp; omega) 0 (if_neg (by simp; omega)), if_neg (by intro h; have := h.2; unfold digP at this; simp at this; omega), restL_P hb, hp]
    rw [spellK_all true (r :: m) 0 (Nat.zero_le _) fun i x _ hx => itemR_P (fun h => ?_) (fun h => ?_)]
    · simp [spellK]
    · have hd := h.1.2
      rcases h.2 with h | ⟨h, h4⟩
      · subst h
        simp only [List.getElem?_cons_zero, Option.some.injEq] at hx
        unfold digP at hd; omega
      · simp only [List.getD_cons_zero] at h4; omega
    · have h45 := h.1.2
      have hl := h.2
      cases i with
      | zero => simp only [List.getElem?_cons_zero, Option.some.injEq] at hx; omega
      | succ i => simp only [List.length_cons] at hl; have := (List.getElem?_eq_some_iff.mp hx).1; simp only [List.length_cons] at this; omega
  rw [ptsL_low hb c1]
  by_cases c45 : c = 45
  · subst c45
    rcases t with _ | ⟨d, u⟩
    · decide +kernel
    rw [nameL_n (by simp) 1 (if_pos (by simp))]
    have hbu : Bytes u := fun x hx => hbt x (List.mem_cons_of_mem _ hx)
    by_cases hd : digP d
    · obtain ⟨d1, d2, d3⟩ := dP d hd
      rw [if_pos ⟨by simp, by simpa using hd⟩, ptsL_low hbt d2, d3]
      rw [hall _ (by simp)]
      have e2 : spellK true (z0 45 :: d :: ptsL u) 2 = [45] ++ (numL d ++ [32]) := by
        show ([] ++ itemR true _ 0 (z0 45)) ++ itemR true _ 1 d = _
        rw [itemR_P (first := true) (i := 0) (r := z0 45) (fun h => absurd h.1.2 (by decide)) (by simp), show itemR true (z0 45 :: d :: ptsL u) 1 d = numL d ++ [32] by
          unfold itemR
          rw [if_pos (.inr ⟨⟨rfl, hd⟩, .inr ⟨rfl, rfl⟩⟩)]]
        rw [show z0 45 = 45 by decide, hput45]; rfl
      rw [e2, List.drop_succ_cons, List.drop_succ_cons, List.drop_zero, ← restL_P hbu]
      simp
    · rw [if_neg (by intro h; exact hd (by simpa using h.2)), restL_P hb, ptsL_low hb c1]
      have hx : ∃ e v, ptsL (d :: u) = e :: v ∧ ¬ digP e := by
        by_cases cd : d < 128
        · refine ⟨z0 d, ptsL u, ptsL_low hbt cd, ?_⟩
          unfold z0
          split
          · decide
          · exact hd
        · obtain ⟨r, m, hp, hr⟩ := ptsL_high hbt cd
          exact ⟨r, m, hp, by unfold digP; omega⟩
      obtain ⟨e, v, hp, he⟩ := hx
      rw [hp, show z0 45 = 45 by decide]
      rw [spellK_all true _ 0 (Nat.zero_le _) fun i x _ hx => itemR_P (fun h => ?_) (fun h => ?_)]
      · simp [spellK]
      · have hdx := h.1.2
        rcases h.2 with h | ⟨h, -⟩
        · subst h
          simp only [List.getElem?_cons_zero, Option.some.injEq] at hx
          subst hx; revert hdx; decide
        · subst h
          simp only [List.getElem?_cons_succ, List.getElem?_cons_zero, Option.some.injEq] at hx
          subst hx; exact he hdx
      · have := h.2; simp at this
  · rw [nameL_n (by simp; omega) 0 (if_neg (by simp; omega))]
    by_cases hd : digP c
    · obtain ⟨d1, d2, d3⟩ := dP c hd
      rw [if_pos ⟨by simp, by simpa using hd⟩, d3]
      rw [spellK_all true _ 1 (by simp) fun i x hi hx => itemR_P (fun h => ?_) (fun h => ?_)]
      · have e1 : spellK true (c :: ptsL t) 1 = numL c ++ [32] := by
          show [] ++ itemR true _ 0 c = _
          unfold itemR
          rw [if_pos (.inr ⟨⟨rfl, hd⟩, .inl rfl⟩)]; rfl
        rw [e1, List.drop_succ_cons, List.drop_zero, ← restL_P hbt]
        simp
      · rcases h.2 with h | ⟨h, h4⟩
        · omega
        · simp only [List.getD_cons_zero] at h4; omega
      · have hl := h.2
        have := (List.getElem?_eq_some_iff.mp hx).1
        omega
    · rw [if_neg (by intro h; exact hd (by simpa using h.2)), restL_P hb, ptsL_low hb c1]
      rw [spellK_all true _ 0 (Nat.zero_le _) fun i x _ hx => itemR_P (fun h => ?_) (fun h => ?_)]
      · simp [spellK]
      · have hdx := h.1.2
        have hz : z0 c ≠ 45 ∧ ¬ digP (z0 c) := by
          unfold z0
          split
          · exact ⟨by decide, by decide⟩
          · exact ⟨c45, hd⟩
        rcases h.2 with h | ⟨h, h4⟩
        · subst h
          simp only [List.getElem?_cons_zero, Option.some.injEq] at hx
          subst hx; exact hz.2 hdx
        · simp only [List.getD_cons_zero] at h4; exact hz.1 h4
      · have hl := h.2
        have h45 := h.1.2
        cases i with
        | zero =>
          simp only [List.getElem?_cons_zero, Option.some.injEq] at hx
          subst hx
          unfold z0 at h45
          split at h45 <;> omega
        | succ i => have := (List.getElem?_eq_some_iff.mp hx).1; omega
/- Texts in marks. -/
theorem aheadQ_z0 : ∀ (l : List Int), aheadQ (l.map z0) ↔ aheadQ l
  | [] => Iff.rfl
  | x :: l => by
    show (hexP (z0 x) ∨ blankC (z0 x) ∨ z0 x = 12 ∨ z0 x = 13) ↔ (hexP x ∨ blankC x ∨ x = 12 ∨ x = 13)
    unfold z0
    by_cases c : x = 0
    · rw [if_pos c, c]; decide
    · rw [if_neg c]
theorem quo1_z0 (g r : Int) (hg : g = 34 ∨ g = 39) (l : List Int) : quo1 g (z0 r) (l.map z0) = quo1 g r l := by
  unfold quo1
  by_cases c : r = 0
  · subst c
    rw [show z0 0 = 65533 by decide, if_neg (by omega), if_neg (by omega), if_neg (by omega), if_neg (by omega), if_neg (by omega), if_pos rfl]
  · have e : z0 r = r := by unfold z0; rw [if_neg c]
    rw [e]
    by_cases c2 : aheadQ l
    · rw [if_pos ((aheadQ_z0 l).mpr c2), if_pos c2]
    · rw [if_neg (fun h => c2 ((aheadQ_z0 l).mp h)), if_neg c2]
theorem quoL_z0 (g : Int) (hg : g = 34 ∨ g = 39) : ∀ l : List Int, quoL g (l.map z0) = quoL g l
  | [] => rfl
  | r :: l => by rw [List.map_cons, quoL, quoL, quo1_z0 g r hg l, quoL_z0 g hg l]
theorem quoted_eq (g : Int) (hg : g = 34 ∨ g = 39) (l : List Int) : quotedR g l = quoted g l := by
  unfold quotedR quoted ptsL
  rw [quoL_z0 g hg]
theorem text_eq (l : List Int) : textR l = textL l := by
  unfold textR textL
  rw [quoted_eq 39 (.inr rfl), quoted_eq 34 (.inl rfl)]
end Go.Proofs.YtelgddealjbgiaaDoor.Eng
