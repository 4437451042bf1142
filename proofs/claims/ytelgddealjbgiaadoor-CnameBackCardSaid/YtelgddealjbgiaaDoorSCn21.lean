/- CnameBack: the plain law. -/
import Derived.Test.YtelgddealjbgiaaDoorSCn20
import Derived.Test.YtelgddealjbgiaaDoorSCn12
namespace Go.Proofs.YtelgddealjbgiaaDoor.Eng
open Go Go.Proofs.YtelgddealjbgiaaDoor.Base Go.Proofs.YtelgddealjbgiaaDoor.Cinput
set_option maxRecDepth 100000
set_option linter.unusedSimpArgs false
set_option linter.unusedVariables false
def itemC (first : Bool) (ps : List Int) (i : Nat) (r : Int) : List Int :=
  if (r < 32 ∨ r = 127) ∨ ((first = true ∧ digP r) ∧ (i = 0 ∨ (i = 1 ∧ ps.getD 0 0 = 45))) then numL r ++ [32]
  else if (first = true ∧ r = 45) ∧ ps.length = 1 then [92, 45] else if inP r then [r] else [92, r]
def itsC (first : Bool) (ps : List Int) (j : Nat) : List (List Int) := (List.range j).map fun i => itemC first ps i (ps.getD i 0)
theorem enc_low {x : Int} (h : x < 128) : Utf.enc x = [x] := by rw [Utf.enc, if_pos h]
theorem encAll_low : ∀ l : List Int, (∀ x ∈ l, x < 128) → Utf.encAll l = l
  | [], _ => rfl
  | x :: l, h => by rw [Utf.encAll_cons, enc_low (h x (List.mem_cons_self ..)), encAll_low l fun y hy => h y (List.mem_cons_of_mem _ hy)]; rfl
theorem digL_range : ∀ k : Fin 16, 48 ≤ digL k.val ∧ digL k.val ≤ 102 := by decide +kernel
theorem numL_range {r : Int} (h0 : 0 ≤ r) (h : r < 128) : ∀ x ∈ numL r ++ [32], 32 ≤ x ∧ x ≤ 102 := fun x hx => by
  obtain ⟨k, rfl⟩ := Int.eq_ofNat_of_zero_le h0
  rcases List.mem_append.mp hx with hx | hx
  · rw [numL, Int.toNat_natCast] at hx
    rcases List.mem_cons.mp hx with rfl | hx
    · decide
    · unfold hexL at hx
      split at hx
      · rename_i c
        rcases List.mem_singleton.mp hx with rfl
        have := digL_range ⟨k, c⟩; simp only [] at this; omega
      · have h1 := digL_range ⟨k / 16, by omega⟩
        have h2 := digL_range ⟨k % 16, by omega⟩
        simp only [List.mem_cons, List.not_mem_nil, or_false] at hx
        simp only [] at h1 h2
        rcases hx with rfl | rfl <;> omega
  · rcases List.mem_singleton.mp hx with rfl; decide
/-- What each item is. -/
theorem item_all {first : Bool} {ps : List Int} {i : Nat} {r : Int} (hr : Utf.isCp r ∧ r ≠ 0) : Item r (itemC first ps i r) ∧ itemR first ps i r = Utf.encAll (itemC first ps i r) ∧ ∀ c ∈ itemC first ps i r, Utf.isCp c ∧ c ≠ 0 ∧ c ≠ 12 ∧ c ≠ 13 := by
  obtain ⟨hc, h0⟩ := hr
  have hc' := hc
  unfold Utf.isCp at hc'
  have low : ∀ l : List Int, (∀ x ∈ l, 32 ≤ x ∧ x ≤ 102) → Utf.encAll l = l ∧ ∀ c ∈ l, Utf.isCp c ∧ c ≠ 0 ∧ c ≠ 12 ∧ c ≠ 13 := fun l hl => by
    refine ⟨encAll_low l fun x hx => by have := hl x hx; omega, fun c hc => ?_⟩
    have := hl c hc
    unfold Utf.isCp; omega
  unfold itemC itemR
  by_cases c1 : (r < 32 ∨ r = 127) ∨ ((first = true ∧ digP r) ∧ (i = 0 ∨ (i = 1 ∧ ps.getD 0 0 = 45)))
  · rw [if_pos c1, if_pos c1]
    have hlt : r < 128 := by
      rcases c1 with c1 | c1
      · omega
      · have := c1.1.2; unfold digP at this; omega
    obtain ⟨l1, l2⟩ := low _ (numL_range (by omega) hlt)
    exact ⟨.inr (.inr ⟨rfl, by omega, hlt⟩), l1.symm, l2⟩
  rw [if_neg c1, if_neg c1]
  by_cases c2 : (first = true ∧ r = 45) ∧ ps.length = 1
  · rw [if_pos c2, if_pos c2]
    obtain ⟨l1, l2⟩ := low [92, 45] (by decide)
    refine ⟨.inr (.inl ⟨by rw [c2.1.2], by rw [c2.1.2]; decide, by omega⟩), l1.symm, l2⟩
  rw [if_neg c2, if_neg c2]
  have hp : Utf.put r = Utf.enc r := by rw [Utf.put, Utf.fix_of hc]
  by_cases c3 : inP r
  · rw [if_pos c3, if_pos c3, hp]
    refine ⟨.inl ⟨rfl, c3⟩, by simp [Utf.encAll], fun c h => ?_⟩
    rcases List.mem_singleton.mp h with rfl
    unfold inP startP digP at c3
    exact ⟨hc, by omega, by omega, by omega⟩
  · rw [if_neg c3, if_neg c3, hp]
    refine ⟨.inr (.inl ⟨rfl, fun h => c3 ?_, by omega⟩), by rw [Utf.encAll_cons, enc_low (x := 92) (by decide)]; simp [Utf.encAll], fun c h => ?_⟩
    · unfold hexP digP at h
      unfold inP startP digP
      omega
    · simp only [List.mem_cons, List.not_mem_nil, or_false] at h
      rcases h with rfl | rfl
      · decide
      · exact ⟨hc, by omega, by omega, by omega⟩
theorem spellK_C (first : Bool) (ps : List Int) (hp : ∀ x ∈ ps, Utf.isCp x ∧ x ≠ 0) : ∀ j, j ≤ ps.length → spellK first ps j = Utf.encAll (itsC first ps j).flatten ∧ ∀ c ∈ (itsC first ps j).flatten, Utf.isCp c ∧ c ≠ 0 ∧ c ≠ 12 ∧ c ≠ 13
  | 0, _ => ⟨rfl, fun c h => by cases h⟩
  | j + 1, hj => by
    obtain ⟨i1, i2⟩ := spellK_C first ps hp j (by omega)
    obtain ⟨x, hx⟩ : ∃ x, ps[j]? = some x := ⟨_, List.getElem?_eq_getElem (by omega)⟩
    have hg : ps.getD j 0 = x := by rw [List.getD_eq_getElem?_getD, hx]; rfl
    obtain ⟨k1, k2, k3⟩ := item_all (first := first) (ps := ps) (i := j) (hp x (List.mem_of_getElem? hx))
    have e : (itsC first ps (j + 1)).flatten = (itsC first ps j).flatten ++ itemC first ps j x := by
      unfold itsC
      rw [List.range_succ, List.map_append, List.flatten_append, List.map_cons, List.map_nil, hg]
      simp
    refine ⟨by rw [spellK, i1, hg, k2, e, Utf.encAll_append], fun c h => ?_⟩
    rw [e] at h
    rcases List.mem_append.mp h with h | h
    · exact i2 c h
    · exact k3 c h
theorem its_get (first : Bool) (ps : List Int) (i : Nat) (r : Int) (it : List Int) (h1 : ps[i]? = some r) (h2 : (itsC first ps ps.length)[i]? = some it) : it = itemC first ps i r := by
  unfold itsC at h2
  rw [List.getElem?_map] at h2
  have hi := (List.getElem?_eq_some_iff.mp h1).1
  rw [List.getElem?_range hi] at h2
  cases h2
  show itemC first ps i (ps.getD i 0) = _
  rw [List.getD_eq_getElem?_getD, h1]; rfl
/-- A name is taken as it was written. -/
theorem take_back (first : Bool) {ps rest : List Int} {l : List (Int × Int)} (hp : ∀ x ∈ ps, Utf.isCp x ∧ x ≠ 0) (h : l.map Prod.fst = (itsC first ps ps.length).flatten ++ rest) (hst : rest = [] ∨ ∃ x m, rest = x :: m ∧ ¬ inP x ∧ x ≠ 92) :
    takeV l 0 = (ps, (((itsC first ps ps.length).flatten.length : Nat) : Int)) := by
  unfold takeV
  have hc : clampR l 0 = ((0 : Nat) : Int) := by unfold clampR; rw [if_neg (by omega)]; split <;> omega
  rw [hc, take_items ps (itsC first ps ps.length) rest l.length 0 (fun i r it h1 h2 => ?_) (by simp [itsC]) (by rw [List.drop_zero, h]) (Nat.zero_le _) hst (by omega), Nat.zero_add]
  have hpr := hp r (List.mem_of_getElem? h1)
  rw [its_get first ps i r it h1 h2]
  exact ⟨(item_all hpr).1, by have := hpr.1; unfold Utf.isCp at this; omega⟩
/-- A name begins where it was written. -/
theorem begins_back {ps rest : List Int} {l : List (Int × Int)} (hp : ∀ x ∈ ps, Utf.isCp x ∧ x ≠ 0) (hne : ps ≠ []) (h : l.map Prod.fst = (itsC true ps ps.length).flatten ++ rest) : begP l 0 := by
  rcases ps with _ | ⟨p, ps⟩
  · exact absurd rfl hne
  have hp0 := hp p (List.mem_cons_self ..)
  have hp0' := hp0.1
  unfold Utf.isCp at hp0'
  obtain ⟨i1, -, -⟩ := item_all (first := true) (ps := p :: ps) (i := 0) hp0
  have hfl : ∃ r1, (itsC true (p :: ps) (p :: ps).length).flatten = itemC true (p :: ps) 0 p ++ r1 := by
    refine ⟨(((List.range ps.length).map Nat.succ).map fun i => itemC true (p :: ps) i ((p :: ps).getD i 0)).flatten, ?_⟩
    unfold itsC
    rw [List.length_cons, List.range_succ_eq_map, List.map_cons, List.flatten_cons]
    rfl
  obtain ⟨r1, hfl⟩ := hfl
  have h1 : (l.map Prod.fst).drop 0 = itemC true (p :: ps) 0 p ++ (r1 ++ rest) := by rw [List.drop_zero, h, hfl, List.append_assoc]
  have hil := item_len i1
  have hlen : 0 < l.length := by have := congrArg List.length h1; rw [List.drop_zero, List.length_map, List.length_append] at this; omega
  refine ⟨by omega, ?_⟩
  by_cases hc : itemC true (p :: ps) 0 p = [p] ∧ inP p
  rotate_left
  · obtain ⟨e1, -, -⟩ := esc_item h1 i1 hc (by omega)
    have e1' : escP l 0 := e1
    rw [if_neg (fun h => by have := e1'.1; omega)]
    exact .inr e1'
  obtain ⟨hit, hin⟩ := hc
  have hat : atR l 0 = p := by
    have := at_nat l 0 0
    rw [h1, hit] at this
    simpa using this
  rw [hat]
  by_cases h45 : p = 45
  rotate_left
  · rw [if_neg h45]
    refine .inl ?_
    rcases hin with hin | hin | hin
    · exact hin
    · exfalso
      unfold itemC at hit
      rw [if_pos (.inr ⟨⟨rfl, hin⟩, .inl rfl⟩)] at hit
      have := congrArg List.length hit
      simp [numL] at this
    · exact absurd hin h45
  rw [if_pos h45]
  subst h45
  rcases ps with _ | ⟨q, ps⟩
  · exfalso
    unfold itemC at hit
    rw [if_neg (by simp [digP]), if_pos (by simp)] at hit
    simp at hit
  have hq := hp q (List.mem_cons_of_mem _ (List.mem_cons_self ..))
  have hq' := hq.1
  unfold Utf.isCp at hq'
  obtain ⟨j1, -, -⟩ := item_all (first := true) (ps := 45 :: q :: ps) (i := 1) hq
  have hfl2 : ∃ r2, (itsC true (45 :: q :: ps) (45 :: q :: ps).length).flatten = [45] ++ (itemC true (45 :: q :: ps) 1 q ++ r2) := by
    refine ⟨((((List.range ps.length).map Nat.succ).map Nat.succ).map fun i => itemC true (45 :: q :: ps) i ((45 :: q :: ps).getD i 0)).flatten, ?_⟩
    unfold itsC
    rw [List.length_cons, List.length_cons, List.range_succ_eq_map, List.map_cons, List.flatten_cons, List.range_succ_eq_map, List.map_cons, List.map_cons, List.flatten_cons, ← hit]
    rfl
  obtain ⟨r2, hfl2⟩ := hfl2
  have h2 : (l.map Prod.fst).drop 1 = itemC true (45 :: q :: ps) 1 q ++ (r2 ++ rest) := by rw [h, hfl2]; simp
  by_cases hc : itemC true (45 :: q :: ps) 1 q = [q] ∧ inP q
  rotate_left
  · obtain ⟨e1, -, -⟩ := esc_item h2 j1 hc (by omega)
    exact .inr (.inr e1)
  obtain ⟨hit2, hin2⟩ := hc
  have hat2 : atR l (0 + 1) = q := by
    have := at_nat l 1 0
    rw [h2, hit2] at this
    simpa using this
  rw [hat2]
  rcases hin2 with hin2 | hin2 | hin2
  · exact .inl hin2
  · exfalso
    unfold itemC at hit2
    rw [if_pos (.inr ⟨⟨rfl, hin2⟩, .inr ⟨rfl, rfl⟩⟩)] at hit2
    have := congrArg List.length hit2
    simp [numL] at this
  · exact .inr (.inl hin2)
end Go.Proofs.YtelgddealjbgiaaDoor.Eng
