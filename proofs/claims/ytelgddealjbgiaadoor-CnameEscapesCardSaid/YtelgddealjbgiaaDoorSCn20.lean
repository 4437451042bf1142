/- Names of CSS, read as they were written: the plain law. -/
import Derived.Test.YtelgddealjbgiaaDoorSCn17
namespace Go.Proofs.YtelgddealjbgiaaDoor.Eng
open Go Go.Proofs.YtelgddealjbgiaaDoor.Base Go.Proofs.YtelgddealjbgiaaDoor.Cinput
set_option maxRecDepth 100000
set_option linter.unusedSimpArgs false
set_option linter.unusedVariables false
/- Whole code points. -/
theorem whole_alls : ∀ (n : Nat) (l : List Int), Bytes l → l.length ≤ n → (∀ x ∈ alls n l, z0 x ≠ 65533) → l = Utf.encAll (alls n l) ∧ ∀ x ∈ alls n l, Utf.isCp x ∧ x ≠ 0
  | 0, l, _, h, _ => by rw [List.eq_nil_of_length_eq_zero (Nat.le_zero.mp h)]; exact ⟨rfl, fun x hx => by cases hx⟩
  | n + 1, l, hb, h, hz => by
    unfold alls at hz ⊢
    by_cases hl : l = []
    · rw [if_pos hl, hl]; exact ⟨rfl, fun x hx => by cases hx⟩
    rw [if_neg hl] at hz ⊢
    have hd := Utf.dec_len hb hl
    have hz1 := hz _ (List.mem_cons_self ..)
    rcases hd' : Utf.dec l with ⟨r, k, ok⟩
    rw [hd'] at hz hz1 hd
    simp only [] at hz hz1 hd ⊢
    cases ok with
    | false =>
      have := Utf.dec_false hl (by rw [hd'])
      rw [hd'] at this
      simp only [Utf.bad, Prod.mk.injEq] at this
      obtain ⟨rfl, -⟩ := this
      exact absurd rfl hz1
    | true =>
      obtain ⟨hr, hk, u, hu⟩ := Utf.enc_dec hb hd'
      have hke : k.toNat = (Utf.enc r).length := by
        have := @Utf.enc_size r; omega
      have hdr : l.drop k.toNat = u := by rw [hu, hke, List.drop_left']; rfl
      rw [hdr] at hz ⊢
      have hbu : Bytes u := fun x hx => hb x (by rw [hu]; exact List.mem_append.mpr (.inr hx))
      have hul : u.length ≤ n := by rw [hu, List.length_append] at h; have := @Utf.enc_size r; have := Utf.size_range r; omega
      obtain ⟨i1, i2⟩ := whole_alls n u hbu hul fun x hx => hz x (List.mem_cons_of_mem _ hx)
      refine ⟨?_, fun x hx => ?_⟩
      · rw [Utf.encAll_cons, ← i1]; exact hu
      · rcases List.mem_cons.mp hx with rfl | hx
        · refine ⟨hr, fun h0 => hz1 ?_⟩
          rw [h0]; rfl
        · exact i2 x hx
theorem clean_is {l : List Int} (hb : Bytes l) (h : cleanB l = true) : l = Utf.encAll (ptsL l) ∧ ∀ x ∈ ptsL l, Utf.isCp x ∧ x ≠ 0 := by
  unfold cleanB at h
  rw [Bool.and_eq_true, List.all_eq_true] at h
  have hz : ∀ x ∈ alls l.length l, z0 x ≠ 65533 := fun x hx => of_decide_eq_true (h.1 (z0 x) (List.mem_map.mpr ⟨x, hx, rfl⟩))
  obtain ⟨h1, h2⟩ := whole_alls l.length l hb (Nat.le_refl _) hz
  have hm : ptsL l = alls l.length l := by
    unfold ptsL
    refine (List.map_congr_left fun x hx => ?_).trans (List.map_id _)
    unfold z0; rw [if_neg (h2 x hx).2]; rfl
  rw [hm]
  exact ⟨h1, h2⟩
/- Code points of a text that is whole. -/
theorem runes_enc : ∀ (cs : List Int) (n : Nat) (i : Int), (∀ c ∈ cs, Utf.isCp c ∧ c ≠ 0 ∧ c ≠ 12 ∧ c ≠ 13) → (Utf.encAll cs).length ≤ n → (runes n (Utf.encAll cs) i).map Prod.fst = cs
  | [], n, i, _, _ => by rw [Utf.encAll_nil, runes_nil]; rfl
  | c :: cs, 0, i, _, h => by
    rw [Utf.encAll_cons, List.length_append] at h
    have := @Utf.enc_size c; have := Utf.size_range c; omega
  | c :: cs, n + 1, i, hc, h => by
    obtain ⟨h1, h2, h3, h4⟩ := hc c (List.mem_cons_self ..)
    have hs := @Utf.enc_size c
    have hsr := Utf.size_range c
    have hd := Utf.dec_enc h1 (Utf.encAll cs)
    have hne : Utf.encAll (c :: cs) ≠ [] := fun e => by
      have := congrArg List.length e
      rw [Utf.encAll_cons, List.length_append] at this
      simp only [List.length_nil] at this
      omega
    rw [runes_one hne (by rw [Utf.encAll_cons, hd]; intro h; exact h4 h.1)]
    rw [Utf.encAll_cons, hd]
    have e : (Utf.enc c ++ Utf.encAll cs).drop (Utf.size c).toNat = Utf.encAll cs := by
      rw [show (Utf.size c).toNat = (Utf.enc c).length by omega, List.drop_left']; rfl
    rw [List.map_cons]
    congr 1
    · show cr c = c
      unfold cr; rw [if_neg h2, if_neg h3, if_neg h4]
    · show (runes n ((Utf.enc c ++ Utf.encAll cs).drop (Utf.size c).toNat) (i + Utf.size c)).map Prod.fst = cs
      rw [e]
      exact runes_enc cs n _ (fun x hx => hc x (List.mem_cons_of_mem _ hx)) (by rw [Utf.encAll_cons, List.length_append] at h; omega)
/- Places. -/
theorem at_nat (l : List (Int × Int)) (a k : Nat) : atR l ((a + k : Nat) : Int) = (((l.map Prod.fst).drop a)[k]?).getD (-1) := by
  rw [List.getElem?_drop, List.getElem?_map]
  unfold atR
  by_cases c : a + k < l.length
  · rw [if_neg (by omega), Int.toNat_natCast, List.getD_eq_getElem?_getD, List.getElem?_eq_getElem c]; rfl
  · rw [if_pos (by omega), List.getElem?_eq_none (by omega)]; rfl
def Item (r : Int) (it : List Int) : Prop := (it = [r] ∧ inP r) ∨ (it = [92, r] ∧ ¬ hexP r ∧ r ≠ 10) ∨ (it = numL r ++ [32] ∧ 1 ≤ r ∧ r < 128)
theorem hexL_is : ∀ k : Fin 128, (∃ d, hexL k.val = [d] ∧ hexP d ∧ d ≠ 10 ∧ hexV d = k.val) ∨ ∃ d e, hexL k.val = [d, e] ∧ hexP d ∧ hexP e ∧ d ≠ 10 ∧ 16 * hexV d + hexV e = k.val := fun k => by
  have key : ∀ k : Fin 128, (k.val < 16 → hexP (digL k.val) ∧ digL k.val ≠ 10 ∧ hexV (digL k.val) = k.val) ∧ (¬ k.val < 16 → hexP (digL (k.val / 16)) ∧ hexP (digL (k.val % 16)) ∧ digL (k.val / 16) ≠ 10 ∧ 16 * hexV (digL (k.val / 16)) + hexV (digL (k.val % 16)) = k.val) := by decide +kernel
  unfold hexL
  by_cases c : k.val < 16
  · rw [if_pos c]; exact .inl ⟨_, rfl, ((key k).1 c)⟩
  · rw [if_neg c]; exact .inr ⟨_, _, rfl, ((key k).2 c)⟩
theorem esc_item {l : List (Int × Int)} {a : Nat} {r : Int} {it rest : List Int} (h : (l.map Prod.fst).drop a = it ++ rest) (hit : Item r it) (hn : ¬ (it = [r] ∧ inP r)) (hr0 : 0 ≤ r) : escP l a ∧ ¬ inP (atR l a) ∧ escV l a = (r, ((a + it.length : Nat) : Int)) := by
  have hlen : a + it.length + rest.length = l.length ∨ it.length + rest.length = 0 := by
    have := congrArg List.length h
    rw [List.length_drop, List.length_map, List.length_append] at this
    omega
  have hat : ∀ k, atR l ((a + k : Nat) : Int) = ((it ++ rest)[k]?).getD (-1) := fun k => by rw [at_nat, h]
  have h0 := hat 0
  have h1 := hat 1
  have h2 := hat 2
  have h3 := hat 3
  rw [show ((a + 0 : Nat) : Int) = (a : Int) by omega] at h0
  rw [show ((a + 1 : Nat) : Int) = (a : Int) + 1 by omega] at h1
  rw [show ((a + 2 : Nat) : Int) = (a : Int) + 1 + 1 by omega] at h2
  rw [show ((a + 3 : Nat) : Int) = (a : Int) + 1 + 1 + 1 by omega] at h3
  have no32 : ¬ hexP 32 := by decide
  have bl : blankC 32 := by decide
  have n92 : ¬ inP 92 := by decide
  rcases hit with hit | ⟨rfl, hx, h10⟩ | ⟨rfl, hr1, hr2⟩
  · exact absurd hit hn
  · simp only [List.cons_append, List.nil_append, List.getElem?_cons_zero, List.getElem?_cons_succ, Option.getD_some] at h0 h1
    refine ⟨⟨h0, by rw [h1]; exact h10⟩, by rw [h0]; exact n92, ?_⟩
    rw [escV_eq (by simp only [List.length_cons, List.length_nil] at hlen; omega) (n := 0) (e := (a : Int) + 1) (hexN_stop (.inr (by rw [h1]; exact hx))), if_pos rfl, h1]
    simp only [List.length_cons, List.length_nil]
    congr 1
    try omega
  · obtain ⟨k, rfl⟩ := Int.eq_ofNat_of_zero_le hr0
    have hfix : fixN (k : Int) = k := by unfold fixN; rw [if_neg (by omega)]
    rcases hexL_is ⟨k, by omega⟩ with ⟨d, e1, e2, e3, e4⟩ | ⟨d, e, e1, e2, e3, e4, e5⟩
    · have en : numL (k : Int) ++ [32] = [92, d, 32] := by rw [numL, Int.toNat_natCast, e1]; rfl
      rw [en] at h0 h1 h2 hlen ⊢
      simp only [List.cons_append, List.nil_append, List.getElem?_cons_zero, List.getElem?_cons_succ, Option.getD_some] at h0 h1 h2
      refine ⟨⟨h0, by rw [h1]; exact e3⟩, by rw [h0]; exact n92, ?_⟩
      have hN : hexN l 6 0 ((a : Int) + 1) = ((k : Int), (a : Int) + 1 + 1) := by
        rw [show (6 : Nat) = 5 + 1 from rfl, hexN, h1, if_pos e2, hexN_stop (.inr (by rw [h2]; exact no32)), e4]
        simp
      rw [escV_eq (by simp only [List.length_cons, List.length_nil] at hlen; omega) hN, if_neg (by omega), h2, if_pos bl, hfix]
      simp only [List.length_cons, List.length_nil]
      congr 1
      try omega
    · have en : numL (k : Int) ++ [32] = [92, d, e, 32] := by rw [numL, Int.toNat_natCast, e1]; rfl
      rw [en] at h0 h1 h2 h3 hlen ⊢
      simp only [List.cons_append, List.nil_append, List.getElem?_cons_zero, List.getElem?_cons_succ, Option.getD_some] at h0 h1 h2 h3
      refine ⟨⟨h0, by rw [h1]; exact e4⟩, by rw [h0]; exact n92, ?_⟩
      have hN : hexN l 6 0 ((a : Int) + 1) = ((k : Int), (a : Int) + 1 + 1 + 1) := by
        rw [show (6 : Nat) = 4 + 1 + 1 from rfl, hexN, h1, if_pos e2, hexN, h2, if_pos e3, hexN_stop (.inr (by rw [h3]; exact no32))]
        congr 1
        rw [← e5]; omega
      rw [escV_eq (by simp only [List.length_cons, List.length_nil] at hlen; omega) hN, if_neg (by omega), h3, if_pos bl, hfix]
      simp only [List.length_cons, List.length_nil]
      congr 1
      try omega
theorem item_len {r : Int} {it : List Int} (h : Item r it) : 1 ≤ it.length := by
  rcases h with ⟨rfl, _⟩ | ⟨rfl, _⟩ | ⟨rfl, _⟩ <;> simp
/-- Items, then what is no part of a name. -/
theorem take_items {l : List (Int × Int)} : ∀ (rs : List Int) (its : List (List Int)) (rest : List Int) (f a : Nat), (∀ (i : Nat) (r : Int) (it : List Int), rs[i]? = some r → its[i]? = some it → Item r it ∧ 0 ≤ r) → rs.length = its.length →
    (l.map Prod.fst).drop a = its.flatten ++ rest → a ≤ l.length → (rest = [] ∨ ∃ x m, rest = x :: m ∧ ¬ inP x ∧ x ≠ 92) → l.length - a ≤ f → takeN l f a = (rs, ((a + its.flatten.length : Nat) : Int))
  | [], [], rest, f, a, _, _, hd, hal, hst, hf => by
    simp only [List.flatten_nil, List.nil_append, List.length_nil] at hd ⊢
    cases f with
    | zero => rfl
    | succ f =>
      rw [takeN]
      rcases hst with rfl | ⟨x, m, rfl, h1, h2⟩
      · have : l.length ≤ a := by have := congrArg List.length hd; rw [List.length_drop, List.length_map] at this; simp at this; omega
        rw [if_pos (by omega)]; rfl
      · have hat := at_nat l a 0
        rw [hd] at hat
        simp only [Nat.add_zero, List.getElem?_cons_zero, Option.getD_some] at hat
        have : a < l.length := by have := congrArg List.length hd; rw [List.length_drop, List.length_map] at this; simp at this; omega
        rw [if_neg (by omega), hat, if_neg h1, if_neg (fun h => h2 (by rw [← hat]; exact h.1))]; rfl
  | [], _ :: _, _, _, _, _, h, _, _, _, _ => by simp at h
  | _ :: _, [], _, _, _, _, h, _, _, _, _ => by simp at h
  | r :: rs, it :: its, rest, f, a, hI, hlen, hd, hal, hst, hf => by
    obtain ⟨hi, hr0⟩ := hI 0 r it rfl rfl
    have hil := item_len hi
    rw [List.flatten_cons, List.append_assoc] at hd
    have hla : a + it.length ≤ l.length := by have := congrArg List.length hd; rw [List.length_drop, List.length_map, List.length_append] at this; omega
    have hd2 : (l.map Prod.fst).drop (a + it.length) = its.flatten ++ rest := by rw [← List.drop_drop, hd, List.drop_left']; rfl
    obtain ⟨g, rfl⟩ : ∃ g, f = g + 1 := ⟨f - 1, by omega⟩
    have ih := take_items rs its rest g (a + it.length) (fun i r it h1 h2 => hI (i + 1) r it (by simpa using h1) (by simpa using h2)) (by simpa using hlen) hd2 hla hst (by omega)
    have hsum : ((a + it.length + its.flatten.length : Nat) : Int) = ((a + (it :: its).flatten.length : Nat) : Int) := by
      rw [List.flatten_cons, List.length_append]; omega
    rw [takeN, if_neg (by omega)]
    by_cases hc : it = [r] ∧ inP r
    · obtain ⟨rfl, hp⟩ := hc
      have hat := at_nat l a 0
      rw [hd] at hat
      simp only [Nat.add_zero, List.cons_append, List.nil_append, List.getElem?_cons_zero, Option.getD_some] at hat
      rw [hat, if_pos hp, show (a : Int) + 1 = ((a + [r].length : Nat) : Int) by simp, ih]
      rw [hsum]
    · obtain ⟨e1, e2, e3⟩ := esc_item hd hi hc hr0
      rw [if_neg e2, if_pos e1, e3, ih]
      rw [hsum]
end Go.Proofs.YtelgddealjbgiaaDoor.Eng
