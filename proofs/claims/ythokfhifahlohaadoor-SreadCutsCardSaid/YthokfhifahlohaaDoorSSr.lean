/- Segments, written by the reference, on the small machine. -/
import Derived.Test.YthokfhifahlohaaDoorSSm
namespace Go.Proofs.YthokfhifahlohaaDoor.Eng
open Go Go.Proofs.YthokfhifahlohaaDoor.Base
set_option maxRecDepth 100000
set_option linter.unusedSimpArgs false
set_option linter.unusedVariables false
def F_within : List AV → Option (Prop × AV)
  | [.d (.v (.int .i64 n))] => some (True, vBool (decide (0 ≤ n ∧ n ≤ 1073741824)))
  | _ => none
theorem within_body (n : Int) : Body Tryd.prog Gam.none (DRun Tryd.prog Gam.none) 10 [vInt .i64 n] (vBool (decide (0 ≤ n ∧ n ≤ 1073741824))) := by
  refine Body.of Tryd.func10 Tryd.ntmps10 (by kernel_rfl) rfl rfl rfl ?_
  simp only [goTG_val, goTG_new, goTG_up, goTG_none, goG_none, goG_new, goG_up, ne_eq, evK, evH, retHF, DRun_mk, runT_nil, runT_none, runT_guard, goT_val, goT_new, goT_store, goTH_true, goTH_false, evO, keys, Option.toList_some, Option.toList_none, nzL_nil, nzL_cons, nz_k, nz_sl, nz_nil, nz_agg, startL, evC, evV, goE_val, goE_new, goE_store, goH_true, goH_false, goG_val, lk_cons, lk_nil, lk_func, lk_int, lk_bool, lk_string, lk_slice, lk_agg, look_mk, St.effOf, eff, effCall, effBin, effUn, effConv, effPick, effNil, effFold, fold1, effLoad, effStore, effFieldAddr, effField, fieldOf, sliceOf, effIndexAddr, effIndex, effLen, effExtract, effSlice, bnd, effBuild, placesOf, effBuildSlice, effMakeSlice, effAppend, srcOf, fillA, chunk, seg, toD, toDs, put, eqAV, fieldsEq, leafEq, strip, unw, allB, selP_or, selP_and, tis, TyD.agg, AV.cells, AV.cell, allCell, vInt, vBool, vStr, subL_nil, subL_cons, upIds, AV.ids, AV.ids.idsL, AObj.ids, drops, Hp.get_cons, get_nil, retF, resL, one, fz, fz.fzL, List.map_cons, List.map_nil, List.nil_append, List.append_nil, List.cons_append, List.all_cons, List.all_nil, List.length_cons, List.length_nil, List.getElem?_cons_zero, List.getElem?_cons_succ, List.getD_cons_zero, List.getD_cons_succ, List.take_succ_cons, List.take_zero, List.drop_succ_cons, List.drop_zero, List.take_nil, List.drop_nil, List.contains_cons, List.contains_nil, Option.getD_some, Option.getD_none, Option.map_some, Option.map_none, if_true, if_false, true_and, and_true, and_self, or_self, or_false, false_or, false_and, and_false, reduceCtorEq, sel_and, sel_or, decide_eq_true_eq, Bool.and_eq_true, Bool.or_eq_true, Bool.and_true, Bool.true_and, Bool.or_false, Bool.false_or, Bool.true_or, Bool.or_true, Bool.not_true, Bool.not_false, Bool.false_eq_true, implies_true, not_false_eq_true, Nat.reduceLT, Nat.reduceEqDiff, Nat.reduceAdd, Nat.reduceMul, Nat.reduceMod, Nat.reduceLeDiff, Nat.reduceBEq, Nat.zero_add, Nat.add_zero, reduceIte, ↓reduceIte, List.not_mem_nil]
  refine Sub.eq ?_
  congr 3
  by_cases h : n ≥ 0 <;> simp [h] <;> omega
theorem within_calm : ∀ args sc res, F_within args = some (sc, res) → sc → Calm Tryd.prog 10 args res := by
  intro args sc res h _
  unfold F_within at h
  split at h <;> cases h
  exact (Known.none _).calm mixed rfl rfl (within_body _)
noncomputable def G_rmap : Gam := (Gam.none.add 10 fun a => F_within (NT.nz.nzL [] a)).add 11 fun a => F_vput (NT.nz.nzL [] a)
theorem known_rmap : Known Tryd.prog G_rmap := ((Known.none _).addC _ within_calm).addC _ rvput_calm
theorem G_rmap_at : (∀ h d a, G_rmap 10 h d a = calmE (fun a => F_within (NT.nz.nzL [] a)) h a) ∧ (∀ h d a, G_rmap 11 h d a = calmE (fun a => F_vput (NT.nz.nzL [] a)) h a) := ⟨fun _ _ _ => rfl, fun _ _ _ => rfl⟩
/-- How far one is behind the first place of all. -/
def far (s : Sg) : Int := s.a * 1073741825 + s.b
theorem far_up {l : List Sg} : ∀ {j : Nat}, okS l j → ∀ {i : Nat} {s : Sg}, i < j → l[i]? = some s → (i : Int) ≤ far s := fun {j} hok {i} => by
  induction i with
  | zero =>
    intro s hj hs
    obtain ⟨⟨k1, k2, k3, k4⟩, _⟩ := hok 0 hj s hs
    unfold far
    omega
  | succ i ih =>
    intro s hj hs
    have hlt := (List.getElem?_eq_some_iff.mp hs).1
    obtain ⟨p, hp⟩ : ∃ p, l[i]? = some p := ⟨_, List.getElem?_eq_getElem (by omega)⟩
    have h1 := ih (by omega) hp
    obtain ⟨⟨k1, k2, k3, k4⟩, hu⟩ := hok (i + 1) hj s hs
    obtain ⟨⟨m1, m2, m3, m4⟩, _⟩ := hok i (by omega) p hp
    have := hu p (by omega) hp
    unfold upS at this
    unfold far at h1 ⊢
    rcases this with h | ⟨h, h2⟩
    · omega
    · omega
theorem okS_le {l : List Sg} {j : Nat} (h : okS l j) (hj : j ≤ l.length) : j ≤ 107400000000000 := by
  rcases Nat.eq_zero_or_pos j with h0 | h0
  · omega
  · obtain ⟨s, hs⟩ : ∃ s, l[j - 1]? = some s := ⟨_, List.getElem?_eq_getElem (by omega)⟩
    have := far_up h (i := j - 1) (by omega) hs
    obtain ⟨⟨k1, k2, k3, k4⟩, _⟩ := h (j - 1) (by omega) s hs
    unfold far at this
    omega
/-- Ahead of a segment: new lines. -/
def R_in (l : List Sg) (j : Nat) (p : Sg) (col : Int) (s : Sg) (t0 : List UInt8) (q : Nat) : St :=
  ⟨110, [10], [(0, .d (sgsD l)), (4, vStr ⟨(t0 ++ List.replicate q 59).toArray⟩), (5, vInt .i64 (p.a + q)), (6, vInt .i64 col), (7, vInt .i64 p.c), (8, vInt .i64 p.d), (9, vInt .i64 j), (10, .ptr 10 0)], [(10, some (.cells 35 ((sgD s).map .d)))]⟩
theorem okS_snoc {l : List Sg} {j : Nat} {s : Sg} (hok : okS l j) (hs : l[j]? = some s) (h : inS s) (hu : 0 < j → upS (lastS (l.take j)) s) : okS l (j + 1) := by
  intro i hi t ht
  by_cases hij : i = j
  · subst hij
    rw [hs] at ht
    cases ht
    exact ⟨h, fun p h0 hp => by have := hu h0; rw [last_at h0 hp] at this; exact this⟩
  · exact hok i (by omega) t ht
theorem seg_len (i : Nat) (p s : Sg) (h : p.a ≤ s.a) : ((segB i p s).length : Int) ≤ 37 + (s.a - p.a) := by
  have h1 := flat_take_len p s 4
  rw [List.take_of_length_le (by simp [numsB])] at h1
  unfold segB aheadB
  rw [List.length_append]
  by_cases c : s.a > p.a
  · rw [if_pos c, List.length_replicate]; omega
  · rw [if_neg c]
    by_cases c2 : i > 0
    · rw [if_pos c2, List.length_singleton]; omega
    · rw [if_neg c2, List.length_nil]; omega
theorem seg_app {A : List UInt8} {p s : Sg} {a c d : Int} (eN : numsB p s = [a, 0, c, d]) : (⟨A.toArray⟩ : ByteArray) ++ vq a ++ vq 0 ++ vq c ++ vq d = ⟨(A ++ (numsB p s).flatMap fun n => (vq n).data.toList).toArray⟩ := by
  rw [eN]
  simp only [List.flatMap_cons, List.flatMap_nil, List.append_nil]
  rw [← ba_app, ← ba_app, ← ba_app, ← ba_app, ba_self, ba_self, ba_self, ba_self]
  simp only [app_assoc]
theorem semi_app (A : List UInt8) (q : Nat) : (⟨(A ++ List.replicate q 59).toArray⟩ : ByteArray) ++ ⟨#[59]⟩ = ⟨(A ++ List.replicate (q + 1) 59).toArray⟩ := by
  rw [show (⟨#[59]⟩ : ByteArray) = ⟨[59].toArray⟩ from rfl, ba_app, List.append_assoc, ← List.replicate_succ']
theorem RMap_body (l : List Sg) (hl : l.length ≤ maxLen) : Body Tryd.prog G_rmap (DRun Tryd.prog G_rmap) 6 [.d (sgsD l)] (mapS l) := by
  refine Body.of Tryd.func6 Tryd.ntmps6 (by kernel_rfl) rfl rfl rfl ?_
  have hl : l.length ≤ 9223372036854775807 := hl
  simp only [sgsD, G_rmap_at, calmE, F_within, F_vput, AV.flat, AV.flat.flatL, List.length_map, goTG_val, goTG_new, goTG_up, goTG_none, goG_none, goG_new, goG_up, ne_eq, evK, evH, retHF, DRun_mk, runT_nil, runT_none, runT_guard, goT_val, goT_new, goT_store, goTH_true, goTH_false, evO, keys, Option.toList_some, Option.toList_none, nzL_nil, nzL_cons, nz_k, nz_sl, nz_nil, nz_agg, startL, evC, evV, goE_val, goE_new, goE_store, goH_true, goH_false, goG_val, lk_cons, lk_nil, lk_func, lk_int, lk_bool, lk_string, lk_slice, lk_agg, look_mk, St.effOf, eff, effCall, effBin, effUn, effConv, effPick, effNil, effFold, fold1, effLoad, effStore, effFieldAddr, effField, fieldOf, sliceOf, effIndexAddr, effIndex, effLen, effExtract, effSlice, bnd, effBuild, placesOf, effBuildSlice, effMakeSlice, effAppend, srcOf, fillA, chunk, seg, toD, toDs, put, eqAV, fieldsEq, leafEq, strip, unw, allB, selP_or, selP_and, tis, TyD.agg, AV.cells, AV.cell, allCell, vInt, vBool, vStr, subL_nil, subL_cons, upIds, AV.ids, AV.ids.idsL, AObj.ids, drops, Hp.get_cons, get_nil, retF, resL, one, fz, fz.fzL, List.map_cons, List.map_nil, List.nil_append, List.append_nil, List.cons_append, List.all_cons, List.all_nil, List.length_cons, List.length_nil, List.getElem?_cons_zero, List.getElem?_cons_succ, List.getD_cons_zero, List.getD_cons_succ, List.take_succ_cons, List.take_zero, List.drop_succ_cons, List.drop_zero, List.take_nil, List.drop_nil, List.contains_cons, List.contains_nil, Option.getD_some, Option.getD_none, Option.map_some, Option.map_none, if_true, if_false, true_and, and_true, and_self, or_self, or_false, false_or, false_and, and_false, reduceCtorEq, sel_and, sel_or, decide_eq_true_eq, Bool.and_eq_true, Bool.or_eq_true, Bool.and_true, Bool.true_and, Bool.or_false, Bool.false_or, Bool.true_or, Bool.or_true, Bool.not_true, Bool.not_false, Bool.false_eq_true, implies_true, not_false_eq_true, Nat.reduceLT, Nat.reduceEqDiff, Nat.reduceAdd, Nat.reduceMul, Nat.reduceMod, Nat.reduceLeDiff, Nat.reduceBEq, Nat.zero_add, Nat.add_zero, reduceIte, ↓reduceIte, List.not_mem_nil]
  refine wpc_loop (fun q : Nat => ⟨110, [], [(0, .d (sgsD l)), (4, vStr ⟨(mapB l q).toArray⟩), (5, vInt .i64 (lastS (l.take q)).a), (6, vInt .i64 (lastS (l.take q)).b), (7, vInt .i64 (lastS (l.take q)).c), (8, vInt .i64 (lastS (l.take q)).d), (9, vInt .i64 q)], []⟩)
    (fun q => q ≤ l.length ∧ okS l q ∧ (mapB l q).length ≤ 37 * (q : Int) + (lastS (l.take q)).a) (fun q => l.length - q) 0 ⟨Nat.zero_le _, fun i hi => absurd hi (Nat.not_lt_zero i), by simp [mapB, lastS]⟩ ?_ ?_
  · refine Le.of id [] ?_
    simp only [sgsD, mapB, lastS, List.take_zero, List.getLastD_nil, Mt_tup, Mt_agg, Mt_fn, forall_eq, forall_eq_or_imp, ne_eq, List.all_cons, List.all_nil, pr, Nat.reduceLeDiff, slR_nil, slR_cons, hpR_nil, hpR_cells, hpR_row, idsR_nil, idsR_cons, mtE_v, mtE_sl, mtE_nil, mtE_refl, mtE_row, mtE_born, mtE_ptr, mtE_rp, mtE_agg, mtE_tup, mtE_fn, mtE_ep, MtL_nil, MtL_cons, Mt_v, Mt_sl, Mt_nil, Mt_refl, Mt_row, Mt_born, Mt_ptr, MtO_cells, MtO_row, liveIds, distinct, Dat.v.injEq, Dat.sl.injEq, Value.int.injEq, Value.bool.injEq, Value.string.injEq, lk_cons, lk_nil, subL_nil, subL_cons, upIds, AV.ids, AV.ids.idsL, AObj.ids, Hp.get_cons, get_nil, allCell, AV.cell, vInt, vBool, vStr, id, true_and, and_true, and_self, List.append_nil, List.nil_append, List.not_mem_nil, List.mem_cons, or_false, false_or, or_self, not_true_eq_false, not_false_eq_true, false_imp_iff, false_implies, List.map_nil, not_false_eq_true, List.contains_cons, List.contains_nil, Bool.or_false, Bool.false_or, Bool.true_or, Bool.or_true, Bool.and_true, Bool.true_and, implies_true, if_true, if_false, reduceCtorEq, Nat.reduceEqDiff, Nat.reduceBEq, Nat.reduceAdd, reduceIte, ↓reduceIte]
    rfl
  · rintro j ⟨hj, hok, hlen⟩
    by_cases hj2 : (j : Int) < l.length
    · obtain ⟨s, hs⟩ : ∃ s, l[j]? = some s := ⟨_, List.getElem?_eq_getElem (by omega)⟩
      have hg : ∀ z, (l.map sgD).getD (j : Int).toNat z = sgD s := getD_map hs
      have hjl := okS_le hok hj
      have hmap : mapB l (j + 1) = mapB l j ++ segB j (lastS (l.take j)) s := by rw [mapB, hs]
      have hlast : lastS (l.take (j + 1)) = s := by rw [take_at hs, lastS]; simp
      have hp0 : j = 0 → lastS (l.take j) = ⟨0, 0, 0, 0⟩ := fun h => by subst h; rfl
      have hpr : 0 ≤ (lastS (l.take j)).a ∧ (lastS (l.take j)).a ≤ 100000 ∧ 0 ≤ (lastS (l.take j)).b ∧ (lastS (l.take j)).b ≤ 1073741824 ∧ 0 ≤ (lastS (l.take j)).c ∧ (lastS (l.take j)).c ≤ 1073741824 ∧ 0 ≤ (lastS (l.take j)).d ∧ (lastS (l.take j)).d ≤ 1073741824 := by
        by_cases h0 : 0 < j
        · obtain ⟨p, hp⟩ : ∃ p, l[j - 1]? = some p := ⟨_, List.getElem?_eq_getElem (by omega)⟩
          obtain ⟨⟨k1, k2, k3, k4⟩, _⟩ := hok (j - 1) (by omega) p hp
          rw [last_at h0 hp]; omega
        · rw [hp0 (by omega)]; simp only []; omega
      simp only [sgsD, hg, sgD, G_rmap_at, calmE, F_within, F_vput, AV.flat, AV.flat.flatL, List.length_map, goTG_val, goTG_new, goTG_up, goTG_none, goG_none, goG_new, goG_up, ne_eq, evK, evH, retHF, DRun_mk, runT_nil, runT_none, runT_guard, goT_val, goT_new, goT_store, goTH_true, goTH_false, evO, keys, Option.toList_some, Option.toList_none, nzL_nil, nzL_cons, nz_k, nz_sl, nz_nil, nz_agg, startL, evC, evV, goE_val, goE_new, goE_store, goH_true, goH_false, goG_val, lk_cons, lk_nil, lk_func, lk_int, lk_bool, lk_string, lk_slice, lk_agg, look_mk, St.effOf, eff, effCall, effBin, effUn, effConv, effPick, effNil, effFold, fold1, effLoad, effStore, effFieldAddr, effField, fieldOf, sliceOf, effIndexAddr, effIndex, effLen, effExtract, effSlice, bnd, effBuild, placesOf, effBuildSlice, effMakeSlice, effAppend, srcOf, fillA, chunk, seg, toD, toDs, put, eqAV, fieldsEq, leafEq, strip, unw, allB, selP_or, selP_and, tis, TyD.agg, AV.cells, AV.cell, allCell, vInt, vBool, vStr, subL_nil, subL_cons, upIds, AV.ids, AV.ids.idsL, AObj.ids, drops, Hp.get_cons, get_nil, retF, resL, one, fz, fz.fzL, List.map_cons, List.map_nil, List.nil_append, List.append_nil, List.cons_append, List.all_cons, List.all_nil, List.length_cons, List.length_nil, List.getElem?_cons_zero, List.getElem?_cons_succ, List.getD_cons_zero, List.getD_cons_succ, List.take_succ_cons, List.take_zero, List.drop_succ_cons, List.drop_zero, List.take_nil, List.drop_nil, List.contains_cons, List.contains_nil, Option.getD_some, Option.getD_none, Option.map_some, Option.map_none, if_true, if_false, true_and, and_true, and_self, or_self, or_false, false_or, false_and, and_false, reduceCtorEq, sel_and, sel_or, decide_eq_true_eq, Bool.and_eq_true, Bool.or_eq_true, Bool.and_true, Bool.true_and, Bool.or_false, Bool.false_or, Bool.true_or, Bool.or_true, Bool.not_true, Bool.not_false, Bool.false_eq_true, implies_true, not_false_eq_true, Nat.reduceLT, Nat.reduceEqDiff, Nat.reduceAdd, Nat.reduceMul, Nat.reduceMod, Nat.reduceLeDiff, Nat.reduceBEq, Nat.zero_add, Nat.add_zero, reduceIte, ↓reduceIte, List.not_mem_nil]
      rw [if_pos hj2]
      refine ⟨by omega, ?_⟩
      have hno : (¬ inS s ∨ (0 < j ∧ ¬ upS (lastS (l.take j)) s)) → mapS l = .tup [vStr ByteArray.empty, vBool false] := fun h => by
        rw [mapS, if_neg]
        intro hall
        obtain ⟨h1, h2⟩ := hall j (by omega) s hs
        rcases h with h | ⟨h0, h⟩
        · exact h h1
        · obtain ⟨p, hp⟩ : ∃ p, l[j - 1]? = some p := ⟨_, List.getElem?_eq_getElem (by omega)⟩
          rw [last_at h0 hp] at h
          exact h (h2 p h0 hp)
      have hseg := seg_len j (lastS (l.take j)) s
      have okS_snoc' : ∀ (_ : okS l j) (_ : l[j]? = some s) (_ : inS s) (_ : 0 < j → upS (lastS (l.take j)) s), okS l (j + 1) := okS_snoc
      generalize lastS (l.take j) = p at *
      by_cases c1 : (((s.a < 0 ∨ s.a > 100000) ∨ (!decide (0 ≤ s.b ∧ s.b ≤ 1073741824)) = true) ∨ (!decide (0 ≤ s.c ∧ s.c ≤ 1073741824)) = true) ∨ (!decide (0 ≤ s.d ∧ s.d ≤ 1073741824)) = true
      · rw [if_pos c1, hno (.inl fun h => by unfold inS at h; simp at c1; omega)]
        exact Sub.refl _
      rw [if_neg c1]
      have hin : inS s := by unfold inS; simp at c1; omega
      have hin2 := hin
      unfold inS at hin2
      by_cases c2 : (j : Int) > 0 ∧ (s.a < p.a ∨ (s.a == p.a) = true ∧ s.b ≤ p.b)
      · rw [if_pos c2, hno (.inr ⟨by omega, fun h => by unfold upS at h; simp only [beq_iff_eq] at c2; omega⟩)]
        exact Sub.refl _
      rw [if_neg c2]
      simp only [beq_iff_eq] at c2
      have hupS : 0 < j → upS p s := fun h => by unfold upS; omega
      have hpa : p.a ≤ s.a := by
        rcases Nat.eq_zero_or_pos j with h | h
        · rw [hp0 h]; exact hin2.1.1
        · have := hupS h; unfold upS at this; omega
      have hseg := hseg hpa
      have hml : (mapB l (j + 1)).length ≤ 37 * ((j + 1 : Nat) : Int) + s.a := by rw [hmap, List.length_append]; omega
      have hokn := hok
      by_cases c3 : (j : Int) > 0 ∧ (s.a == p.a) = true
      · rw [if_pos c3]
        simp only [beq_iff_eq] at c3
        refine ⟨by rw [ba_size]; show ((_ + 1 : Nat) : Int) ≤ _; omega, ?_⟩
        have eA : (mapB l j ++ [44]) ++ List.replicate (s.a - p.a).toNat 59 = mapB l j ++ aheadB j p s := by
          rw [aheadB, if_neg (by omega), if_pos (by omega), show (s.a - p.a).toNat = 0 by omega]; simp
        have eN : numsB p s = [s.b - p.b, 0, s.c - p.c, s.d - p.d] := by rw [numsB, if_neg (by omega)]
        refine wpc_loop (R_in l j p p.b s (mapB l j ++ [44])) (fun q : Nat => (q : Int) ≤ s.a - p.a) (fun q => (s.a - p.a).toNat - q) 0 (by show ((0 : Nat) : Int) ≤ _; omega) ?_ ?_
        · refine Le.of id [] ?_
          simp only [R_in, sgsD, sgD, List.replicate_zero, List.append_nil, ba_app, List.map_cons, List.map_nil, Mt_tup, Mt_agg, Mt_fn, forall_eq, forall_eq_or_imp, ne_eq, List.all_cons, List.all_nil, pr, Nat.reduceLeDiff, slR_nil, slR_cons, hpR_nil, hpR_cells, hpR_row, idsR_nil, idsR_cons, mtE_v, mtE_sl, mtE_nil, mtE_refl, mtE_row, mtE_born, mtE_ptr, mtE_rp, mtE_agg, mtE_tup, mtE_fn, mtE_ep, MtL_nil, MtL_cons, Mt_v, Mt_sl, Mt_nil, Mt_refl, Mt_row, Mt_born, Mt_ptr, MtO_cells, MtO_row, liveIds, distinct, Dat.v.injEq, Dat.sl.injEq, Value.int.injEq, Value.bool.injEq, Value.string.injEq, lk_cons, lk_nil, subL_nil, subL_cons, upIds, AV.ids, AV.ids.idsL, AObj.ids, Hp.get_cons, get_nil, allCell, AV.cell, vInt, vBool, vStr, id, true_and, and_true, and_self, List.append_nil, List.nil_append, List.not_mem_nil, List.mem_cons, or_false, false_or, or_self, not_true_eq_false, not_false_eq_true, false_imp_iff, false_implies, List.map_nil, not_false_eq_true, List.contains_cons, List.contains_nil, Bool.or_false, Bool.false_or, Bool.true_or, Bool.or_true, Bool.and_true, Bool.true_and, implies_true, if_true, if_false, reduceCtorEq, Nat.reduceEqDiff, Nat.reduceBEq, Nat.reduceAdd, reduceIte, ↓reduceIte]
          exact (Int.add_zero _).symm
        · intro q hq
          simp only [R_in, sgsD, sgD, G_rmap_at, calmE, F_within, F_vput, AV.flat, AV.flat.flatL, List.length_map, goTG_val, goTG_new, goTG_up, goTG_none, goG_none, goG_new, goG_up, ne_eq, evK, evH, retHF, DRun_mk, runT_nil, runT_none, runT_guard, goT_val, goT_new, goT_store, goTH_true, goTH_false, evO, keys, Option.toList_some, Option.toList_none, nzL_nil, nzL_cons, nz_k, nz_sl, nz_nil, nz_agg, startL, evC, evV, goE_val, goE_new, goE_store, goH_true, goH_false, goG_val, lk_cons, lk_nil, lk_func, lk_int, lk_bool, lk_string, lk_slice, lk_agg, look_mk, St.effOf, eff, effCall, effBin, effUn, effConv, effPick, effNil, effFold, fold1, effLoad, effStore, effFieldAddr, effField, fieldOf, sliceOf, effIndexAddr, effIndex, effLen, effExtract, effSlice, bnd, effBuild, placesOf, effBuildSlice, effMakeSlice, effAppend, srcOf, fillA, chunk, seg, toD, toDs, put, eqAV, fieldsEq, leafEq, strip, unw, allB, selP_or, selP_and, tis, TyD.agg, AV.cells, AV.cell, allCell, vInt, vBool, vStr, subL_nil, subL_cons, upIds, AV.ids, AV.ids.idsL, AObj.ids, drops, Hp.get_cons, get_nil, retF, resL, one, fz, fz.fzL, List.map_cons, List.map_nil, List.nil_append, List.append_nil, List.cons_append, List.all_cons, List.all_nil, List.length_cons, List.length_nil, List.getElem?_cons_zero, List.getElem?_cons_succ, List.getD_cons_zero, List.getD_cons_succ, List.take_succ_cons, List.take_zero, List.drop_succ_cons, List.drop_zero, List.take_nil, List.drop_nil, List.contains_cons, List.contains_nil, Option.getD_some, Option.getD_none, Option.map_some, Option.map_none, if_true, if_false, true_and, and_true, and_self, or_self, or_false, false_or, false_and, and_false, reduceCtorEq, sel_and, sel_or, decide_eq_true_eq, Bool.and_eq_true, Bool.or_eq_true, Bool.and_true, Bool.true_and, Bool.or_false, Bool.false_or, Bool.true_or, Bool.or_true, Bool.not_true, Bool.not_false, Bool.false_eq_true, implies_true, not_false_eq_true, Nat.reduceLT, Nat.reduceEqDiff, Nat.reduceAdd, Nat.reduceMul, Nat.reduceMod, Nat.reduceLeDiff, Nat.reduceBEq, Nat.zero_add, Nat.add_zero, reduceIte, ↓reduceIte, List.not_mem_nil]
          by_cases hq2 : p.a + (q : Int) < s.a
          · rw [if_pos hq2]
            refine ⟨by rw [ba_size, List.length_append, List.length_replicate]; show ((_ + 1 : Nat) : Int) ≤ _; omega, q + 1, by omega, by omega, Le.of id [] ?_⟩
            simp only [R_in, sgsD, sgD, List.map_cons, List.map_nil, Mt_tup, Mt_agg, Mt_fn, forall_eq, forall_eq_or_imp, ne_eq, List.all_cons, List.all_nil, pr, Nat.reduceLeDiff, slR_nil, slR_cons, hpR_nil, hpR_cells, hpR_row, idsR_nil, idsR_cons, mtE_v, mtE_sl, mtE_nil, mtE_refl, mtE_row, mtE_born, mtE_ptr, mtE_rp, mtE_agg, mtE_tup, mtE_fn, mtE_ep, MtL_nil, MtL_cons, Mt_v, Mt_sl, Mt_nil, Mt_refl, Mt_row, Mt_born, Mt_ptr, MtO_cells, MtO_row, liveIds, distinct, Dat.v.injEq, Dat.sl.injEq, Value.int.injEq, Value.bool.injEq, Value.string.injEq, lk_cons, lk_nil, subL_nil, subL_cons, upIds, AV.ids, AV.ids.idsL, AObj.ids, Hp.get_cons, get_nil, allCell, AV.cell, vInt, vBool, vStr, id, true_and, and_true, and_self, List.append_nil, List.nil_append, List.not_mem_nil, List.mem_cons, or_false, false_or, or_self, not_true_eq_false, not_false_eq_true, false_imp_iff, false_implies, List.map_nil, not_false_eq_true, List.contains_cons, List.contains_nil, Bool.or_false, Bool.false_or, Bool.true_or, Bool.or_true, Bool.and_true, Bool.true_and, implies_true, if_true, if_false, reduceCtorEq, Nat.reduceEqDiff, Nat.reduceBEq, Nat.reduceAdd, reduceIte, ↓reduceIte]
            exact ⟨semi_app _ _, by rw [w64 (by omega) (by omega)]; omega⟩
          · rw [if_neg hq2]
            have hqe : q = (s.a - p.a).toNat := by omega
            subst hqe
            have hA := congrArg List.length eA
            have v1 := vq_size (s.b - p.b)
            have v2 := vq_size 0
            have v3 := vq_size (s.c - p.c)
            have hm2 := hml
            rw [hmap, segB, ← List.append_assoc, ← eA, List.length_append] at hm2
            rw [w64 (n := s.b - p.b) (by omega) (by omega), w64 (n := s.c - p.c) (by omega) (by omega), w64 (n := s.d - p.d) (by omega) (by omega)]
            have b0 := ba_size ((mapB l j ++ [44]) ++ List.replicate (s.a - p.a).toNat 59)
            refine ⟨by omega, by rw [ByteArray.size_append]; omega, by rw [ByteArray.size_append, ByteArray.size_append]; omega, by rw [ByteArray.size_append, ByteArray.size_append, ByteArray.size_append]; omega, by kernel_rfl, j + 1, by omega, ⟨by omega, okS_snoc' hok hs hin hupS, by rw [hlast]; exact hml⟩, Le.of id [] ?_⟩
            rw [seg_app eN, eA, List.append_assoc, ← segB, ← hmap]
            simp only [sgsD, sgD, hlast, Mt_tup, Mt_agg, Mt_fn, forall_eq, forall_eq_or_imp, ne_eq, List.all_cons, List.all_nil, pr, Nat.reduceLeDiff, slR_nil, slR_cons, hpR_nil, hpR_cells, hpR_row, idsR_nil, idsR_cons, mtE_v, mtE_sl, mtE_nil, mtE_refl, mtE_row, mtE_born, mtE_ptr, mtE_rp, mtE_agg, mtE_tup, mtE_fn, mtE_ep, MtL_nil, MtL_cons, Mt_v, Mt_sl, Mt_nil, Mt_refl, Mt_row, Mt_born, Mt_ptr, MtO_cells, MtO_row, liveIds, distinct, Dat.v.injEq, Dat.sl.injEq, Value.int.injEq, Value.bool.injEq, Value.string.injEq, lk_cons, lk_nil, subL_nil, subL_cons, upIds, AV.ids, AV.ids.idsL, AObj.ids, Hp.get_cons, get_nil, allCell, AV.cell, vInt, vBool, vStr, id, true_and, and_true, and_self, List.append_nil, List.nil_append, List.not_mem_nil, List.mem_cons, or_false, false_or, or_self, not_true_eq_false, not_false_eq_true, false_imp_iff, false_implies, List.map_nil, not_false_eq_true, List.contains_cons, List.contains_nil, Bool.or_false, Bool.false_or, Bool.true_or, Bool.or_true, Bool.and_true, Bool.true_and, implies_true, if_true, if_false, reduceCtorEq, Nat.reduceEqDiff, Nat.reduceBEq, Nat.reduceAdd, reduceIte, ↓reduceIte]
            exact ⟨by omega, w64 (by omega) (by omega)⟩
      · rw [if_neg c3]
        simp only [beq_iff_eq] at c3
        have eA : mapB l j ++ List.replicate (s.a - p.a).toNat 59 = mapB l j ++ aheadB j p s := by
          by_cases h : s.a > p.a
          · rw [aheadB, if_pos h]
          · rw [aheadB, if_neg h, if_neg (by omega), show (s.a - p.a).toNat = 0 by omega]; simp
        have eN : numsB p s = [s.b - 0, 0, s.c - p.c, s.d - p.d] := by
          by_cases h : s.a > p.a
          · rw [numsB, if_pos h]
          · rw [numsB, if_neg h, hp0 (by omega)]
        refine wpc_loop (R_in l j p 0 s (mapB l j)) (fun q : Nat => (q : Int) ≤ s.a - p.a) (fun q => (s.a - p.a).toNat - q) 0 (by show ((0 : Nat) : Int) ≤ _; omega) ?_ ?_
        · refine Le.of id [] ?_
          simp only [R_in, sgsD, sgD, List.replicate_zero, List.append_nil, ba_app, List.map_cons, List.map_nil, Mt_tup, Mt_agg, Mt_fn, forall_eq, forall_eq_or_imp, ne_eq, List.all_cons, List.all_nil, pr, Nat.reduceLeDiff, slR_nil, slR_cons, hpR_nil, hpR_cells, hpR_row, idsR_nil, idsR_cons, mtE_v, mtE_sl, mtE_nil, mtE_refl, mtE_row, mtE_born, mtE_ptr, mtE_rp, mtE_agg, mtE_tup, mtE_fn, mtE_ep, MtL_nil, MtL_cons, Mt_v, Mt_sl, Mt_nil, Mt_refl, Mt_row, Mt_born, Mt_ptr, MtO_cells, MtO_row, liveIds, distinct, Dat.v.injEq, Dat.sl.injEq, Value.int.injEq, Value.bool.injEq, Value.string.injEq, lk_cons, lk_nil, subL_nil, subL_cons, upIds, AV.ids, AV.ids.idsL, AObj.ids, Hp.get_cons, get_nil, allCell, AV.cell, vInt, vBool, vStr, id, true_and, and_true, and_self, List.append_nil, List.nil_append, List.not_mem_nil, List.mem_cons, or_false, false_or, or_self, not_true_eq_false, not_false_eq_true, false_imp_iff, false_implies, List.map_nil, not_false_eq_true, List.contains_cons, List.contains_nil, Bool.or_false, Bool.false_or, Bool.true_or, Bool.or_true, Bool.and_true, Bool.true_and, implies_true, if_true, if_false, reduceCtorEq, Nat.reduceEqDiff, Nat.reduceBEq, Nat.reduceAdd, reduceIte, ↓reduceIte]
          exact (Int.add_zero _).symm
        · intro q hq
          simp only [R_in, sgsD, sgD, G_rmap_at, calmE, F_within, F_vput, AV.flat, AV.flat.flatL, List.length_map, goTG_val, goTG_new, goTG_up, goTG_none, goG_none, goG_new, goG_up, ne_eq, evK, evH, retHF, DRun_mk, runT_nil, runT_none, runT_guard, goT_val, goT_new, goT_store, goTH_true, goTH_false, evO, keys, Option.toList_some, Option.toList_none, nzL_nil, nzL_cons, nz_k, nz_sl, nz_nil, nz_agg, startL, evC, evV, goE_val, goE_new, goE_store, goH_true, goH_false, goG_val, lk_cons, lk_nil, lk_func, lk_int, lk_bool, lk_string, lk_slice, lk_agg, look_mk, St.effOf, eff, effCall, effBin, effUn, effConv, effPick, effNil, effFold, fold1, effLoad, effStore, effFieldAddr, effField, fieldOf, sliceOf, effIndexAddr, effIndex, effLen, effExtract, effSlice, bnd, effBuild, placesOf, effBuildSlice, effMakeSlice, effAppend, srcOf, fillA, chunk, seg, toD, toDs, put, eqAV, fieldsEq, leafEq, strip, unw, allB, selP_or, selP_and, tis, TyD.agg, AV.cells, AV.cell, allCell, vInt, vBool, vStr, subL_nil, subL_cons, upIds, AV.ids, AV.ids.idsL, AObj.ids, drops, Hp.get_cons, get_nil, retF, resL, one, fz, fz.fzL, List.map_cons, List.map_nil, List.nil_append, List.append_nil, List.cons_append, List.all_cons, List.all_nil, List.length_cons, List.length_nil, List.getElem?_cons_zero, List.getElem?_cons_succ, List.getD_cons_zero, List.getD_cons_succ, List.take_succ_cons, List.take_zero, List.drop_succ_cons, List.drop_zero, List.take_nil, List.drop_nil, List.contains_cons, List.contains_nil, Option.getD_some, Option.getD_none, Option.map_some, Option.map_none, if_true, if_false, true_and, and_true, and_self, or_self, or_false, false_or, false_and, and_false, reduceCtorEq, sel_and, sel_or, decide_eq_true_eq, Bool.and_eq_true, Bool.or_eq_true, Bool.and_true, Bool.true_and, Bool.or_false, Bool.false_or, Bool.true_or, Bool.or_true, Bool.not_true, Bool.not_false, Bool.false_eq_true, implies_true, not_false_eq_true, Nat.reduceLT, Nat.reduceEqDiff, Nat.reduceAdd, Nat.reduceMul, Nat.reduceMod, Nat.reduceLeDiff, Nat.reduceBEq, Nat.zero_add, Nat.add_zero, reduceIte, ↓reduceIte, List.not_mem_nil]
          by_cases hq2 : p.a + (q : Int) < s.a
          · rw [if_pos hq2]
            refine ⟨by rw [ba_size, List.length_append, List.length_replicate]; show ((_ + 1 : Nat) : Int) ≤ _; omega, q + 1, by omega, by omega, Le.of id [] ?_⟩
            simp only [R_in, sgsD, sgD, List.map_cons, List.map_nil, Mt_tup, Mt_agg, Mt_fn, forall_eq, forall_eq_or_imp, ne_eq, List.all_cons, List.all_nil, pr, Nat.reduceLeDiff, slR_nil, slR_cons, hpR_nil, hpR_cells, hpR_row, idsR_nil, idsR_cons, mtE_v, mtE_sl, mtE_nil, mtE_refl, mtE_row, mtE_born, mtE_ptr, mtE_rp, mtE_agg, mtE_tup, mtE_fn, mtE_ep, MtL_nil, MtL_cons, Mt_v, Mt_sl, Mt_nil, Mt_refl, Mt_row, Mt_born, Mt_ptr, MtO_cells, MtO_row, liveIds, distinct, Dat.v.injEq, Dat.sl.injEq, Value.int.injEq, Value.bool.injEq, Value.string.injEq, lk_cons, lk_nil, subL_nil, subL_cons, upIds, AV.ids, AV.ids.idsL, AObj.ids, Hp.get_cons, get_nil, allCell, AV.cell, vInt, vBool, vStr, id, true_and, and_true, and_self, List.append_nil, List.nil_append, List.not_mem_nil, List.mem_cons, or_false, false_or, or_self, not_true_eq_false, not_false_eq_true, false_imp_iff, false_implies, List.map_nil, not_false_eq_true, List.contains_cons, List.contains_nil, Bool.or_false, Bool.false_or, Bool.true_or, Bool.or_true, Bool.and_true, Bool.true_and, implies_true, if_true, if_false, reduceCtorEq, Nat.reduceEqDiff, Nat.reduceBEq, Nat.reduceAdd, reduceIte, ↓reduceIte]
            exact ⟨semi_app _ _, by rw [w64 (by omega) (by omega)]; omega⟩
          · rw [if_neg hq2]
            have hqe : q = (s.a - p.a).toNat := by omega
            subst hqe
            have hA := congrArg List.length eA
            have v1 := vq_size (s.b - 0)
            have v2 := vq_size 0
            have v3 := vq_size (s.c - p.c)
            have hm2 := hml
            rw [hmap, segB, ← List.append_assoc, ← eA, List.length_append] at hm2
            rw [w64 (n := s.b - 0) (by omega) (by omega), w64 (n := s.c - p.c) (by omega) (by omega), w64 (n := s.d - p.d) (by omega) (by omega)]
            have b0 := ba_size (mapB l j ++ List.replicate (s.a - p.a).toNat 59)
            refine ⟨by omega, by rw [ByteArray.size_append]; omega, by rw [ByteArray.size_append, ByteArray.size_append]; omega, by rw [ByteArray.size_append, ByteArray.size_append, ByteArray.size_append]; omega, by kernel_rfl, j + 1, by omega, ⟨by omega, okS_snoc' hok hs hin hupS, by rw [hlast]; exact hml⟩, Le.of id [] ?_⟩
            rw [seg_app eN, eA, List.append_assoc, ← segB, ← hmap]
            simp only [sgsD, sgD, hlast, Mt_tup, Mt_agg, Mt_fn, forall_eq, forall_eq_or_imp, ne_eq, List.all_cons, List.all_nil, pr, Nat.reduceLeDiff, slR_nil, slR_cons, hpR_nil, hpR_cells, hpR_row, idsR_nil, idsR_cons, mtE_v, mtE_sl, mtE_nil, mtE_refl, mtE_row, mtE_born, mtE_ptr, mtE_rp, mtE_agg, mtE_tup, mtE_fn, mtE_ep, MtL_nil, MtL_cons, Mt_v, Mt_sl, Mt_nil, Mt_refl, Mt_row, Mt_born, Mt_ptr, MtO_cells, MtO_row, liveIds, distinct, Dat.v.injEq, Dat.sl.injEq, Value.int.injEq, Value.bool.injEq, Value.string.injEq, lk_cons, lk_nil, subL_nil, subL_cons, upIds, AV.ids, AV.ids.idsL, AObj.ids, Hp.get_cons, get_nil, allCell, AV.cell, vInt, vBool, vStr, id, true_and, and_true, and_self, List.append_nil, List.nil_append, List.not_mem_nil, List.mem_cons, or_false, false_or, or_self, not_true_eq_false, not_false_eq_true, false_imp_iff, false_implies, List.map_nil, not_false_eq_true, List.contains_cons, List.contains_nil, Bool.or_false, Bool.false_or, Bool.true_or, Bool.or_true, Bool.and_true, Bool.true_and, implies_true, if_true, if_false, reduceCtorEq, Nat.reduceEqDiff, Nat.reduceBEq, Nat.reduceAdd, reduceIte, ↓reduceIte]
            exact ⟨by omega, w64 (by omega) (by omega)⟩
    · simp only [sgsD, G_rmap_at, calmE, F_within, F_vput, AV.flat, AV.flat.flatL, List.length_map, goTG_val, goTG_new, goTG_up, goTG_none, goG_none, goG_new, goG_up, ne_eq, evK, evH, retHF, DRun_mk, runT_nil, runT_none, runT_guard, goT_val, goT_new, goT_store, goTH_true, goTH_false, evO, keys, Option.toList_some, Option.toList_none, nzL_nil, nzL_cons, nz_k, nz_sl, nz_nil, nz_agg, startL, evC, evV, goE_val, goE_new, goE_store, goH_true, goH_false, goG_val, lk_cons, lk_nil, lk_func, lk_int, lk_bool, lk_string, lk_slice, lk_agg, look_mk, St.effOf, eff, effCall, effBin, effUn, effConv, effPick, effNil, effFold, fold1, effLoad, effStore, effFieldAddr, effField, fieldOf, sliceOf, effIndexAddr, effIndex, effLen, effExtract, effSlice, bnd, effBuild, placesOf, effBuildSlice, effMakeSlice, effAppend, srcOf, fillA, chunk, seg, toD, toDs, put, eqAV, fieldsEq, leafEq, strip, unw, allB, selP_or, selP_and, tis, TyD.agg, AV.cells, AV.cell, allCell, vInt, vBool, vStr, subL_nil, subL_cons, upIds, AV.ids, AV.ids.idsL, AObj.ids, drops, Hp.get_cons, get_nil, retF, resL, one, fz, fz.fzL, List.map_cons, List.map_nil, List.nil_append, List.append_nil, List.cons_append, List.all_cons, List.all_nil, List.length_cons, List.length_nil, List.getElem?_cons_zero, List.getElem?_cons_succ, List.getD_cons_zero, List.getD_cons_succ, List.take_succ_cons, List.take_zero, List.drop_succ_cons, List.drop_zero, List.take_nil, List.drop_nil, List.contains_cons, List.contains_nil, Option.getD_some, Option.getD_none, Option.map_some, Option.map_none, if_true, if_false, true_and, and_true, and_self, or_self, or_false, false_or, false_and, and_false, reduceCtorEq, sel_and, sel_or, decide_eq_true_eq, Bool.and_eq_true, Bool.or_eq_true, Bool.and_true, Bool.true_and, Bool.or_false, Bool.false_or, Bool.true_or, Bool.or_true, Bool.not_true, Bool.not_false, Bool.false_eq_true, implies_true, not_false_eq_true, Nat.reduceLT, Nat.reduceEqDiff, Nat.reduceAdd, Nat.reduceMul, Nat.reduceMod, Nat.reduceLeDiff, Nat.reduceBEq, Nat.zero_add, Nat.add_zero, reduceIte, ↓reduceIte, List.not_mem_nil]
      rw [if_neg hj2]
      obtain rfl : j = l.length := by omega
      rw [mapS, if_pos hok]
      exact Sub.refl _
noncomputable def F_rmap : List AV → Option (Prop × AV)
  | [.d (.sl 4 xs)] => some (xs = (xs.map sgOf).map sgD ∧ xs.length ≤ maxLen, mapS (xs.map sgOf))
  | _ => none
theorem rmap_calm : ∀ args sc res, F_rmap args = some (sc, res) → sc → Calm Tryd.prog 6 args res := by
  intro args sc res h hs
  unfold F_rmap at h
  split at h <;> cases h
  rename_i xs
  obtain ⟨h1, h2⟩ := hs
  have hb := RMap_body (xs.map sgOf) (by simpa using h2)
  rw [sgsD, ← h1] at hb
  exact known_rmap.calm mixed rfl (mapS_ids _) hb
end Go.Proofs.YthokfhifahlohaaDoor.Eng
