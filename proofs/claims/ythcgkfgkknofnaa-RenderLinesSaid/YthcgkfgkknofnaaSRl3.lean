/- RenderCat, RenderSame and RenderNest: their functions, and the laws. -/
import Derived.Test.YthcgkfgkknofnaaSRl2
namespace Go.Proofs.Ythcgkfgkknofnaa.Eng
open Go Go.Proofs.Ythcgkfgkknofnaa.Base
set_option maxRecDepth 100000
set_option linter.unusedSimpArgs false
set_option linter.unusedVariables false
def cat2 (A B : Doc) : Doc := .mk 5 0 ByteArray.empty [A, B]
theorem cat2_body (A B : Doc) : Body Try.prog Gam.none (DRun Try.prog Gam.none) 19 [.agg ((docD A).map .d), .agg ((docD B).map .d)] (.agg ((docD (cat2 A B)).map .d)) := by
  refine Body.of Try.func19 Try.ntmps19 (by kernel_rfl) rfl rfl rfl ?_
  simp only [cat2, docD_eq, Doc.k, Doc.f, Doc.t, Doc.kids, List.map_cons, List.map_nil, goTG_val, goTG_new, goTG_up, goTG_none, goG_none, goG_new, goG_up, ne_eq, evK, evH, retHF, DRun_mk, runT_nil, runT_none, runT_guard, goT_val, goT_new, goT_store, goTH_true, goTH_false, evO, keys, Option.toList_some, Option.toList_none, nzL_nil, nzL_cons, nz_k, nz_sl, nz_nil, nz_agg, startL, evC, evV, goE_val, goE_new, goE_store, goH_true, goH_false, goG_val, lk_cons, lk_nil, lk_func, lk_int, lk_bool, lk_string, lk_slice, lk_agg, look_mk, St.effOf, eff, effCall, effBin, effUn, effConv, effPick, effNil, effFold, fold1, effLoad, effStore, effFieldAddr, effField, fieldOf, sliceOf, effIndexAddr, effIndex, effLen, effExtract, effSlice, bnd, effBuild, placesOf, effBuildSlice, effMakeSlice, effAppend, srcOf, fillA, chunk, seg, toD, toDs, put, eqAV, fieldsEq, leafEq, strip, unw, allB, selP_or, selP_and, tis, TyD.agg, AV.cells, AV.cell, allCell, vInt, vBool, vStr, subL_nil, subL_cons, upIds, AV.ids, AV.ids.idsL, AObj.ids, drops, Hp.get_cons, get_nil, retF, resL, one, fz, fz.fzL, List.map_cons, List.map_nil, List.nil_append, List.append_nil, List.cons_append, List.all_cons, List.all_nil, List.length_cons, List.length_nil, List.getElem?_cons_zero, List.getElem?_cons_succ, List.getD_cons_zero, List.getD_cons_succ, List.take_succ_cons, List.take_zero, List.drop_succ_cons, List.drop_zero, List.take_nil, List.drop_nil, List.contains_cons, List.contains_nil, Option.getD_some, Option.getD_none, Option.map_some, Option.map_none, if_true, if_false, true_and, and_true, and_self, or_self, or_false, false_or, false_and, and_false, reduceCtorEq, sel_and, sel_or, decide_eq_true_eq, Bool.and_eq_true, Bool.or_eq_true, Bool.and_true, Bool.true_and, Bool.or_false, Bool.false_or, Bool.true_or, Bool.or_true, Bool.not_true, Bool.not_false, Bool.false_eq_true, implies_true, not_false_eq_true, Nat.reduceLT, Nat.reduceEqDiff, Nat.reduceAdd, Nat.reduceMul, Nat.reduceMod, Nat.reduceLeDiff, Nat.reduceBEq, Nat.zero_add, Nat.add_zero, reduceIte, ↓reduceIte, List.not_mem_nil]
  try exact Sub.refl _
noncomputable def F_cat2 : List AV → Option (Prop × AV)
  | [.agg [.d (.v (.int .i64 k)), .d (.v (.int .i64 f)), .d (.v (.string t)), .d (.sl 4 ks)], .agg [.d (.v (.int .i64 k')), .d (.v (.int .i64 f')), .d (.v (.string t')), .d (.sl 4 ks')]] => some (ks = (docsOf ks).map docD ∧ ks' = (docsOf ks').map docD, .agg ((docD (cat2 (.mk k f t (docsOf ks)) (.mk k' f' t' (docsOf ks')))).map .d))
  | _ => none
theorem cat2_calm : ∀ args sc res, F_cat2 args = some (sc, res) → sc → Calm Try.prog 19 args res := by
  intro args sc res h hs
  unfold F_cat2 at h
  split at h <;> cases h
  obtain ⟨q1, q2⟩ := hs
  rw [docD_args _ _ _ q1, docD_args _ _ _ q2]
  exact (Known.none _).calm mixed (by simp only [AV.ids.idsL, AV.ids, idsL_ds]; rfl) (by simp only [AV.ids, idsL_ds]) (cat2_body _ _)
/- The pieces that are no blanks. -/
def bl (c : UInt8) : Bool := c == 32 || c == 10
def blankP (p : Pc) : Bool := (p.2 == -1 && decide (p.1.size > 0)) && p.1.data.toList.all bl
def keepL (l : List Pc) : List Pc := l.filter fun p => !blankP p
theorem keepL_snoc (l : List Pc) (p : Pc) : keepL (l ++ [p]) = keepL l ++ (if blankP p = true then [] else [p]) := by
  unfold keepL
  rw [List.filter_append]
  congr 1
  cases h : blankP p <;> simp [h]
theorem keepL_len (l : List Pc) : (keepL l).length ≤ l.length := List.length_filter_le _ _
theorem texts_body (l : List Pc) (hl : l.length ≤ 1000000000) (ht : totP l ≤ 1000000000) : Body Try.prog Gam.none (DRun Try.prog Gam.none) 18 [.d (pcsD l)] (.d (pcsD (keepL l))) := by
  refine Body.of Try.func18 Try.ntmps18 (by kernel_rfl) rfl rfl rfl ?_
  simp only [pcsD, List.length_map, goTG_val, goTG_new, goTG_up, goTG_none, goG_none, goG_new, goG_up, ne_eq, evK, evH, retHF, DRun_mk, runT_nil, runT_none, runT_guard, goT_val, goT_new, goT_store, goTH_true, goTH_false, evO, keys, Option.toList_some, Option.toList_none, nzL_nil, nzL_cons, nz_k, nz_sl, nz_nil, nz_agg, startL, evC, evV, goE_val, goE_new, goE_store, goH_true, goH_false, goG_val, lk_cons, lk_nil, lk_func, lk_int, lk_bool, lk_string, lk_slice, lk_agg, look_mk, St.effOf, eff, effCall, effBin, effUn, effConv, effPick, effNil, effFold, fold1, effLoad, effStore, effFieldAddr, effField, fieldOf, sliceOf, effIndexAddr, effIndex, effLen, effExtract, effSlice, bnd, effBuild, placesOf, effBuildSlice, effMakeSlice, effAppend, srcOf, fillA, chunk, seg, toD, toDs, put, eqAV, fieldsEq, leafEq, strip, unw, allB, selP_or, selP_and, tis, TyD.agg, AV.cells, AV.cell, allCell, vInt, vBool, vStr, subL_nil, subL_cons, upIds, AV.ids, AV.ids.idsL, AObj.ids, drops, Hp.get_cons, get_nil, retF, resL, one, fz, fz.fzL, List.map_cons, List.map_nil, List.nil_append, List.append_nil, List.cons_append, List.all_cons, List.all_nil, List.length_cons, List.length_nil, List.getElem?_cons_zero, List.getElem?_cons_succ, List.getD_cons_zero, List.getD_cons_succ, List.take_succ_cons, List.take_zero, List.drop_succ_cons, List.drop_zero, List.take_nil, List.drop_nil, List.contains_cons, List.contains_nil, Option.getD_some, Option.getD_none, Option.map_some, Option.map_none, if_true, if_false, true_and, and_true, and_self, or_self, or_false, false_or, false_and, and_false, reduceCtorEq, sel_and, sel_or, decide_eq_true_eq, Bool.and_eq_true, Bool.or_eq_true, Bool.and_true, Bool.true_and, Bool.or_false, Bool.false_or, Bool.true_or, Bool.or_true, Bool.not_true, Bool.not_false, Bool.false_eq_true, implies_true, not_false_eq_true, Nat.reduceLT, Nat.reduceEqDiff, Nat.reduceAdd, Nat.reduceMul, Nat.reduceMod, Nat.reduceLeDiff, Nat.reduceBEq, Nat.zero_add, Nat.add_zero, reduceIte, ↓reduceIte, List.not_mem_nil]
  refine wpc_loop (fun j : Nat => ⟨59, [100], [(0, .d (pcsD l)), (3, .row 100 (keepL (l.take j)).length), (4, vInt .i64 j)], [(100, some (.row 34 2 ((keepL (l.take j)).map pcD)))]⟩) (fun j => j ≤ l.length) (fun j => l.length - j) 0 (Nat.zero_le _) ?_ ?_
  · refine Le.of id [100] ?_
    simp only [pcsD, List.take_zero, keepL, List.filter_nil, List.length_nil, List.map_nil, Mt_tup, Mt_agg, Mt_fn, forall_eq, forall_eq_or_imp, ne_eq, List.all_cons, List.all_nil, pr, Nat.reduceLeDiff, slR_nil, slR_cons, hpR_nil, hpR_cells, hpR_row, idsR_nil, idsR_cons, mtE_v, mtE_sl, mtE_nil, mtE_refl, mtE_row, mtE_born, mtE_ptr, mtE_rp, mtE_agg, mtE_tup, mtE_fn, mtE_ep, MtL_nil, MtL_cons, Mt_v, Mt_sl, Mt_nil, Mt_refl, Mt_row, Mt_born, Mt_ptr, MtO_cells, MtO_row, liveIds, distinct, Dat.v.injEq, Dat.sl.injEq, Value.int.injEq, Value.bool.injEq, Value.string.injEq, lk_cons, lk_nil, subL_nil, subL_cons, upIds, AV.ids, AV.ids.idsL, AObj.ids, Hp.get_cons, get_nil, allCell, AV.cell, vInt, vBool, vStr, id, true_and, and_true, and_self, List.append_nil, List.nil_append, List.not_mem_nil, List.mem_cons, or_false, false_or, or_self, not_true_eq_false, not_false_eq_true, false_imp_iff, false_implies, List.map_nil, not_false_eq_true, List.contains_cons, List.contains_nil, Bool.or_false, Bool.false_or, Bool.true_or, Bool.or_true, Bool.and_true, Bool.true_and, implies_true, if_true, if_false, reduceCtorEq, Nat.reduceEqDiff, Nat.reduceBEq, Nat.reduceAdd, reduceIte, ↓reduceIte]
    first | rfl | exact ⟨rfl, rfl⟩
  · intro j hj
    by_cases hj2 : (j : Int) < l.length
    · obtain ⟨p, hp⟩ : ∃ p, l[j]? = some p := ⟨_, List.getElem?_eq_getElem (by omega)⟩
      have hg : ∀ z, (l.map pcD).getD (j : Int).toNat z = pcD p := getD_map hp
      have h1 := totP_take l (j + 1)
      rw [take_at hp, totP_snoc] at h1
      have hk := keepL_len (l.take j)
      rw [List.length_take] at hk
      simp only [pcsD, hg, pcD, List.length_map, goTG_val, goTG_new, goTG_up, goTG_none, goG_none, goG_new, goG_up, ne_eq, evK, evH, retHF, DRun_mk, runT_nil, runT_none, runT_guard, goT_val, goT_new, goT_store, goTH_true, goTH_false, evO, keys, Option.toList_some, Option.toList_none, nzL_nil, nzL_cons, nz_k, nz_sl, nz_nil, nz_agg, startL, evC, evV, goE_val, goE_new, goE_store, goH_true, goH_false, goG_val, lk_cons, lk_nil, lk_func, lk_int, lk_bool, lk_string, lk_slice, lk_agg, look_mk, St.effOf, eff, effCall, effBin, effUn, effConv, effPick, effNil, effFold, fold1, effLoad, effStore, effFieldAddr, effField, fieldOf, sliceOf, effIndexAddr, effIndex, effLen, effExtract, effSlice, bnd, effBuild, placesOf, effBuildSlice, effMakeSlice, effAppend, srcOf, fillA, chunk, seg, toD, toDs, put, eqAV, fieldsEq, leafEq, strip, unw, allB, selP_or, selP_and, tis, TyD.agg, AV.cells, AV.cell, allCell, vInt, vBool, vStr, subL_nil, subL_cons, upIds, AV.ids, AV.ids.idsL, AObj.ids, drops, Hp.get_cons, get_nil, retF, resL, one, fz, fz.fzL, List.map_cons, List.map_nil, List.nil_append, List.append_nil, List.cons_append, List.all_cons, List.all_nil, List.length_cons, List.length_nil, List.getElem?_cons_zero, List.getElem?_cons_succ, List.getD_cons_zero, List.getD_cons_succ, List.take_succ_cons, List.take_zero, List.drop_succ_cons, List.drop_zero, List.take_nil, List.drop_nil, List.contains_cons, List.contains_nil, Option.getD_some, Option.getD_none, Option.map_some, Option.map_none, if_true, if_false, true_and, and_true, and_self, or_self, or_false, false_or, false_and, and_false, reduceCtorEq, sel_and, sel_or, decide_eq_true_eq, Bool.and_eq_true, Bool.or_eq_true, Bool.and_true, Bool.true_and, Bool.or_false, Bool.false_or, Bool.true_or, Bool.or_true, Bool.not_true, Bool.not_false, Bool.false_eq_true, implies_true, not_false_eq_true, Nat.reduceLT, Nat.reduceEqDiff, Nat.reduceAdd, Nat.reduceMul, Nat.reduceMod, Nat.reduceLeDiff, Nat.reduceBEq, Nat.zero_add, Nat.add_zero, reduceIte, ↓reduceIte, List.not_mem_nil]
      rw [if_pos hj2]
      refine ⟨by omega, by omega, wpc_loop (fun k : Nat => ⟨59, [100], [(0, .d (pcsD l)), (3, .row 100 (keepL (l.take j)).length), (4, vInt .i64 j), (5, vStr p.1), (6, vBool ((p.2 == -1 && decide (p.1.size > 0)) && (p.1.data.toList.take k).all bl)), (7, vInt .i64 k)], [(100, some (.row 34 2 ((keepL (l.take j)).map pcD)))]⟩) (fun k => k ≤ p.1.size) (fun k => p.1.size - k) 0 (Nat.zero_le _) ?_ ?_⟩
      · refine Le.of id [] ?_
        simp only [pcsD, List.take_zero, List.all_nil, Bool.and_true, Mt_tup, Mt_agg, Mt_fn, forall_eq, forall_eq_or_imp, ne_eq, List.all_cons, List.all_nil, pr, Nat.reduceLeDiff, slR_nil, slR_cons, hpR_nil, hpR_cells, hpR_row, idsR_nil, idsR_cons, mtE_v, mtE_sl, mtE_nil, mtE_refl, mtE_row, mtE_born, mtE_ptr, mtE_rp, mtE_agg, mtE_tup, mtE_fn, mtE_ep, MtL_nil, MtL_cons, Mt_v, Mt_sl, Mt_nil, Mt_refl, Mt_row, Mt_born, Mt_ptr, MtO_cells, MtO_row, liveIds, distinct, Dat.v.injEq, Dat.sl.injEq, Value.int.injEq, Value.bool.injEq, Value.string.injEq, lk_cons, lk_nil, subL_nil, subL_cons, upIds, AV.ids, AV.ids.idsL, AObj.ids, Hp.get_cons, get_nil, allCell, AV.cell, vInt, vBool, vStr, id, true_and, and_true, and_self, List.append_nil, List.nil_append, List.not_mem_nil, List.mem_cons, or_false, false_or, or_self, not_true_eq_false, not_false_eq_true, false_imp_iff, false_implies, List.map_nil, not_false_eq_true, List.contains_cons, List.contains_nil, Bool.or_false, Bool.false_or, Bool.true_or, Bool.or_true, Bool.and_true, Bool.true_and, implies_true, if_true, if_false, reduceCtorEq, Nat.reduceEqDiff, Nat.reduceBEq, Nat.reduceAdd, reduceIte, ↓reduceIte]
        exact ⟨by simp, rfl⟩
      · intro k hk
        by_cases hk2 : (k : Int) < p.1.size
        · simp only [pcsD, List.length_map, goTG_val, goTG_new, goTG_up, goTG_none, goG_none, goG_new, goG_up, ne_eq, evK, evH, retHF, DRun_mk, runT_nil, runT_none, runT_guard, goT_val, goT_new, goT_store, goTH_true, goTH_false, evO, keys, Option.toList_some, Option.toList_none, nzL_nil, nzL_cons, nz_k, nz_sl, nz_nil, nz_agg, startL, evC, evV, goE_val, goE_new, goE_store, goH_true, goH_false, goG_val, lk_cons, lk_nil, lk_func, lk_int, lk_bool, lk_string, lk_slice, lk_agg, look_mk, St.effOf, eff, effCall, effBin, effUn, effConv, effPick, effNil, effFold, fold1, effLoad, effStore, effFieldAddr, effField, fieldOf, sliceOf, effIndexAddr, effIndex, effLen, effExtract, effSlice, bnd, effBuild, placesOf, effBuildSlice, effMakeSlice, effAppend, srcOf, fillA, chunk, seg, toD, toDs, put, eqAV, fieldsEq, leafEq, strip, unw, allB, selP_or, selP_and, tis, TyD.agg, AV.cells, AV.cell, allCell, vInt, vBool, vStr, subL_nil, subL_cons, upIds, AV.ids, AV.ids.idsL, AObj.ids, drops, Hp.get_cons, get_nil, retF, resL, one, fz, fz.fzL, List.map_cons, List.map_nil, List.nil_append, List.append_nil, List.cons_append, List.all_cons, List.all_nil, List.length_cons, List.length_nil, List.getElem?_cons_zero, List.getElem?_cons_succ, List.getD_cons_zero, List.getD_cons_succ, List.take_succ_cons, List.take_zero, List.drop_succ_cons, List.drop_zero, List.take_nil, List.drop_nil, List.contains_cons, List.contains_nil, Option.getD_some, Option.getD_none, Option.map_some, Option.map_none, if_true, if_false, true_and, and_true, and_self, or_self, or_false, false_or, false_and, and_false, reduceCtorEq, sel_and, sel_or, decide_eq_true_eq, Bool.and_eq_true, Bool.or_eq_true, Bool.and_true, Bool.true_and, Bool.or_false, Bool.false_or, Bool.true_or, Bool.or_true, Bool.not_true, Bool.not_false, Bool.false_eq_true, implies_true, not_false_eq_true, Nat.reduceLT, Nat.reduceEqDiff, Nat.reduceAdd, Nat.reduceMul, Nat.reduceMod, Nat.reduceLeDiff, Nat.reduceBEq, Nat.zero_add, Nat.add_zero, reduceIte, ↓reduceIte, List.not_mem_nil]
          rw [if_pos hk2]
          obtain ⟨c, hc⟩ : ∃ c, p.1.data.toList[k]? = some c := ⟨_, List.getElem?_eq_getElem (by rw [size_toList]; omega)⟩
          have hbt : bt p.1 (k : Int) = (c.toNat : Int) := by
            rw [bt, Int.toNat_natCast, List.getD_eq_getElem?_getD, hc]; rfl
          refine ⟨fun _ => by omega, fun _ => by omega, k + 1, by omega, by omega, Le.of id [] ?_⟩
          rw [hbt, take_at hc, List.all_append]
          simp only [pcsD, List.all_cons, List.all_nil, Bool.and_true, Mt_tup, Mt_agg, Mt_fn, forall_eq, forall_eq_or_imp, ne_eq, List.all_cons, List.all_nil, pr, Nat.reduceLeDiff, slR_nil, slR_cons, hpR_nil, hpR_cells, hpR_row, idsR_nil, idsR_cons, mtE_v, mtE_sl, mtE_nil, mtE_refl, mtE_row, mtE_born, mtE_ptr, mtE_rp, mtE_agg, mtE_tup, mtE_fn, mtE_ep, MtL_nil, MtL_cons, Mt_v, Mt_sl, Mt_nil, Mt_refl, Mt_row, Mt_born, Mt_ptr, MtO_cells, MtO_row, liveIds, distinct, Dat.v.injEq, Dat.sl.injEq, Value.int.injEq, Value.bool.injEq, Value.string.injEq, lk_cons, lk_nil, subL_nil, subL_cons, upIds, AV.ids, AV.ids.idsL, AObj.ids, Hp.get_cons, get_nil, allCell, AV.cell, vInt, vBool, vStr, id, true_and, and_true, and_self, List.append_nil, List.nil_append, List.not_mem_nil, List.mem_cons, or_false, false_or, or_self, not_true_eq_false, not_false_eq_true, false_imp_iff, false_implies, List.map_nil, not_false_eq_true, List.contains_cons, List.contains_nil, Bool.or_false, Bool.false_or, Bool.true_or, Bool.or_true, Bool.and_true, Bool.true_and, implies_true, if_true, if_false, reduceCtorEq, Nat.reduceEqDiff, Nat.reduceBEq, Nat.reduceAdd, reduceIte, ↓reduceIte]
          have hbl : bl c = ((c.toNat : Int) == 32 || (c.toNat : Int) == 10) := by
            have e : ∀ n : UInt8, (c == n) = ((c.toNat : Int) == (n.toNat : Int)) := fun n => by
              rw [Bool.eq_iff_iff, beq_iff_eq, beq_iff_eq]
              exact ⟨fun h => by rw [h], fun h => UInt8.toNat_inj.mp (by omega)⟩
            rw [bl, e 32, e 10]; rfl
          refine ⟨?_, w64 (by omega) (by omega)⟩
          rw [hbl]
          generalize ((c.toNat : Int) == 32 || (c.toNat : Int) == 10) = E
          generalize (p.1.data.toList.take k).all bl = A
          generalize (p.2 == -1) = B
          cases A <;> cases B <;> cases E <;> by_cases hz : p.1.size > 0 <;> simp [hz]
        · simp only [pcsD, hg, pcD, List.length_map, goTG_val, goTG_new, goTG_up, goTG_none, goG_none, goG_new, goG_up, ne_eq, evK, evH, retHF, DRun_mk, runT_nil, runT_none, runT_guard, goT_val, goT_new, goT_store, goTH_true, goTH_false, evO, keys, Option.toList_some, Option.toList_none, nzL_nil, nzL_cons, nz_k, nz_sl, nz_nil, nz_agg, startL, evC, evV, goE_val, goE_new, goE_store, goH_true, goH_false, goG_val, lk_cons, lk_nil, lk_func, lk_int, lk_bool, lk_string, lk_slice, lk_agg, look_mk, St.effOf, eff, effCall, effBin, effUn, effConv, effPick, effNil, effFold, fold1, effLoad, effStore, effFieldAddr, effField, fieldOf, sliceOf, effIndexAddr, effIndex, effLen, effExtract, effSlice, bnd, effBuild, placesOf, effBuildSlice, effMakeSlice, effAppend, srcOf, fillA, chunk, seg, toD, toDs, put, eqAV, fieldsEq, leafEq, strip, unw, allB, selP_or, selP_and, tis, TyD.agg, AV.cells, AV.cell, allCell, vInt, vBool, vStr, subL_nil, subL_cons, upIds, AV.ids, AV.ids.idsL, AObj.ids, drops, Hp.get_cons, get_nil, retF, resL, one, fz, fz.fzL, List.map_cons, List.map_nil, List.nil_append, List.append_nil, List.cons_append, List.all_cons, List.all_nil, List.length_cons, List.length_nil, List.getElem?_cons_zero, List.getElem?_cons_succ, List.getD_cons_zero, List.getD_cons_succ, List.take_succ_cons, List.take_zero, List.drop_succ_cons, List.drop_zero, List.take_nil, List.drop_nil, List.contains_cons, List.contains_nil, Option.getD_some, Option.getD_none, Option.map_some, Option.map_none, if_true, if_false, true_and, and_true, and_self, or_self, or_false, false_or, false_and, and_false, reduceCtorEq, sel_and, sel_or, decide_eq_true_eq, Bool.and_eq_true, Bool.or_eq_true, Bool.and_true, Bool.true_and, Bool.or_false, Bool.false_or, Bool.true_or, Bool.or_true, Bool.not_true, Bool.not_false, Bool.false_eq_true, implies_true, not_false_eq_true, Nat.reduceLT, Nat.reduceEqDiff, Nat.reduceAdd, Nat.reduceMul, Nat.reduceMod, Nat.reduceLeDiff, Nat.reduceBEq, Nat.zero_add, Nat.add_zero, reduceIte, ↓reduceIte, List.not_mem_nil]
          rw [if_neg hk2]
          have hkk : p.1.data.toList.take k = p.1.data.toList := List.take_of_length_le (by rw [size_toList]; omega)
          have hks := keepL_snoc (l.take j) p
          rw [← take_at hp] at hks
          rw [hkk]
          by_cases hb : blankP p = true
          · rw [if_pos hb, List.append_nil] at hks
            rw [if_neg (by have h := hb; unfold blankP at h; rw [h]; decide)]
            refine ⟨j + 1, by omega, by omega, Le.of id [] ?_⟩
            rw [hks]
            simp only [pcsD, Mt_tup, Mt_agg, Mt_fn, forall_eq, forall_eq_or_imp, ne_eq, List.all_cons, List.all_nil, pr, Nat.reduceLeDiff, slR_nil, slR_cons, hpR_nil, hpR_cells, hpR_row, idsR_nil, idsR_cons, mtE_v, mtE_sl, mtE_nil, mtE_refl, mtE_row, mtE_born, mtE_ptr, mtE_rp, mtE_agg, mtE_tup, mtE_fn, mtE_ep, MtL_nil, MtL_cons, Mt_v, Mt_sl, Mt_nil, Mt_refl, Mt_row, Mt_born, Mt_ptr, MtO_cells, MtO_row, liveIds, distinct, Dat.v.injEq, Dat.sl.injEq, Value.int.injEq, Value.bool.injEq, Value.string.injEq, lk_cons, lk_nil, subL_nil, subL_cons, upIds, AV.ids, AV.ids.idsL, AObj.ids, Hp.get_cons, get_nil, allCell, AV.cell, vInt, vBool, vStr, id, true_and, and_true, and_self, List.append_nil, List.nil_append, List.not_mem_nil, List.mem_cons, or_false, false_or, or_self, not_true_eq_false, not_false_eq_true, false_imp_iff, false_implies, List.map_nil, not_false_eq_true, List.contains_cons, List.contains_nil, Bool.or_false, Bool.false_or, Bool.true_or, Bool.or_true, Bool.and_true, Bool.true_and, implies_true, if_true, if_false, reduceCtorEq, Nat.reduceEqDiff, Nat.reduceBEq, Nat.reduceAdd, reduceIte, ↓reduceIte]
            exact w64 (by omega) (by omega)
          · rw [if_neg hb] at hks
            rw [if_pos (by have h := hb; unfold blankP at h; rw [Bool.not_eq_true] at h; rw [h]; rfl)]
            refine ⟨by omega, by omega, j + 1, by omega, by omega, Le.of (fun _ => 57) [] ?_⟩
            rw [hks]
            simp only [pcsD, pcD, List.map_append, List.map_cons, List.map_nil, List.length_append, List.length_map, List.length_cons, List.length_nil, Mt_tup, Mt_agg, Mt_fn, forall_eq, forall_eq_or_imp, ne_eq, List.all_cons, List.all_nil, pr, Nat.reduceLeDiff, slR_nil, slR_cons, hpR_nil, hpR_cells, hpR_row, idsR_nil, idsR_cons, mtE_v, mtE_sl, mtE_nil, mtE_refl, mtE_row, mtE_born, mtE_ptr, mtE_rp, mtE_agg, mtE_tup, mtE_fn, mtE_ep, MtL_nil, MtL_cons, Mt_v, Mt_sl, Mt_nil, Mt_refl, Mt_row, Mt_born, Mt_ptr, MtO_cells, MtO_row, liveIds, distinct, Dat.v.injEq, Dat.sl.injEq, Value.int.injEq, Value.bool.injEq, Value.string.injEq, lk_cons, lk_nil, subL_nil, subL_cons, upIds, AV.ids, AV.ids.idsL, AObj.ids, Hp.get_cons, get_nil, allCell, AV.cell, vInt, vBool, vStr, id, true_and, and_true, and_self, List.append_nil, List.nil_append, List.not_mem_nil, List.mem_cons, or_false, false_or, or_self, not_true_eq_false, not_false_eq_true, false_imp_iff, false_implies, List.map_nil, not_false_eq_true, List.contains_cons, List.contains_nil, Bool.or_false, Bool.false_or, Bool.true_or, Bool.or_true, Bool.and_true, Bool.true_and, implies_true, if_true, if_false, reduceCtorEq, Nat.reduceEqDiff, Nat.reduceBEq, Nat.reduceAdd, reduceIte, ↓reduceIte]
            exact w64 (by omega) (by omega)
    · simp only [pcsD, List.length_map, goTG_val, goTG_new, goTG_up, goTG_none, goG_none, goG_new, goG_up, ne_eq, evK, evH, retHF, DRun_mk, runT_nil, runT_none, runT_guard, goT_val, goT_new, goT_store, goTH_true, goTH_false, evO, keys, Option.toList_some, Option.toList_none, nzL_nil, nzL_cons, nz_k, nz_sl, nz_nil, nz_agg, startL, evC, evV, goE_val, goE_new, goE_store, goH_true, goH_false, goG_val, lk_cons, lk_nil, lk_func, lk_int, lk_bool, lk_string, lk_slice, lk_agg, look_mk, St.effOf, eff, effCall, effBin, effUn, effConv, effPick, effNil, effFold, fold1, effLoad, effStore, effFieldAddr, effField, fieldOf, sliceOf, effIndexAddr, effIndex, effLen, effExtract, effSlice, bnd, effBuild, placesOf, effBuildSlice, effMakeSlice, effAppend, srcOf, fillA, chunk, seg, toD, toDs, put, eqAV, fieldsEq, leafEq, strip, unw, allB, selP_or, selP_and, tis, TyD.agg, AV.cells, AV.cell, allCell, vInt, vBool, vStr, subL_nil, subL_cons, upIds, AV.ids, AV.ids.idsL, AObj.ids, drops, Hp.get_cons, get_nil, retF, resL, one, fz, fz.fzL, List.map_cons, List.map_nil, List.nil_append, List.append_nil, List.cons_append, List.all_cons, List.all_nil, List.length_cons, List.length_nil, List.getElem?_cons_zero, List.getElem?_cons_succ, List.getD_cons_zero, List.getD_cons_succ, List.take_succ_cons, List.take_zero, List.drop_succ_cons, List.drop_zero, List.take_nil, List.drop_nil, List.contains_cons, List.contains_nil, Option.getD_some, Option.getD_none, Option.map_some, Option.map_none, if_true, if_false, true_and, and_true, and_self, or_self, or_false, false_or, false_and, and_false, reduceCtorEq, sel_and, sel_or, decide_eq_true_eq, Bool.and_eq_true, Bool.or_eq_true, Bool.and_true, Bool.true_and, Bool.or_false, Bool.false_or, Bool.true_or, Bool.or_true, Bool.not_true, Bool.not_false, Bool.false_eq_true, implies_true, not_false_eq_true, Nat.reduceLT, Nat.reduceEqDiff, Nat.reduceAdd, Nat.reduceMul, Nat.reduceMod, Nat.reduceLeDiff, Nat.reduceBEq, Nat.zero_add, Nat.add_zero, reduceIte, ↓reduceIte, List.not_mem_nil]
      rw [if_neg hj2, List.take_of_length_le (by omega)]
def F_texts : List AV → Option (Prop × AV)
  | [.d (.sl 2 xs)] => some (xs = (xs.map pcOf).map pcD ∧ xs.length ≤ 1000000000 ∧ totP (xs.map pcOf) ≤ 1000000000, .d (.sl 2 ((keepL (xs.map pcOf)).map pcD)))
  | _ => none
theorem texts_calm : ∀ args sc res, F_texts args = some (sc, res) → sc → Calm Try.prog 18 args res := by
  intro args sc res h hs
  unfold F_texts at h
  split at h <;> cases h
  rename_i xs
  obtain ⟨h1, h2, h3⟩ := hs
  have hb := texts_body (xs.map pcOf) (by simpa using h2) h3
  rw [pcsD, ← h1] at hb
  exact (Known.none _).calm mixed rfl rfl hb
/- Whatever the width: the same texts. -/
def tx (d : Doc) : List Pc := keepL (fp d)
theorem keepL_app (a b : List Pc) : keepL (a ++ b) = keepL a ++ keepL b := List.filter_append ..
theorem keepL_line (n : Int) : keepL [(lineT n, -1)] = [] := by
  have h1 : blankP (lineT n, -1) = true := by
    have e : (lineT n).data.toList = 10 :: List.replicate n.toNat 32 := by
      rw [lineT, blanksB, show (⟨#[10]⟩ : ByteArray) = ⟨[10].toArray⟩ from rfl, ba_app]; rfl
    have e2 : 0 < (lineT n).size := by rw [← size_toList, e]; simp
    simp only [blankP, e, List.all_cons, Bool.and_eq_true, decide_eq_true_eq, beq_self_eq_true, true_and]
    exact ⟨e2, rfl, List.all_eq_true.mpr fun x hx => by rw [List.eq_of_mem_replicate hx]; rfl⟩
  simp [keepL, h1]
theorem keepL_sp : keepL [(⟨#[32]⟩, -1)] = [] := rfl
theorem layR_keep (w i : Int) : ∀ (n : Nat) (r : List It) (col : Int), szr r ≤ n → keepL (layR w i r col) = keepL (fpR r)
  | 0, [], _, _ => rfl
  | 0, x :: r, _, h => by have := dsz_eq x.d; simp only [szr] at h; omega
  | n + 1, [], _, _ => rfl
  | n + 1, x :: r, col, h => by
    have h1 := step_sz w i x r col
    rw [layR_cons, keepL_app, layR_keep w i n _ _ (by omega), fpR, keepL_app, fp_eq]
    unfold stepR
    split
    · split <;> rfl
    · rename_i k1
      split
      · rename_i k2
        split
        · split
          · rename_i k3; rfl
          · rename_i k3
            rw [if_pos (by omega)]
        · rw [keepL_line]
          by_cases k3 : x.d.k = 2
          · rw [if_pos k3, keepL_sp]
          · rw [if_neg k3, if_pos (by omega)]; rfl
      · rename_i k2
        rw [if_neg (by omega), if_neg (by omega)]
        simp only [fpR_app, kidsI, fpR_kids, inI_d, keepL_app]; rfl
theorem rnd_keep (D : Doc) (w i w' i' : Int) : keepL (pcs D w i) = keepL (pcs D w' i') := by
  unfold pcs
  split
  · unfold rnd
    rw [layR_keep _ _ _ _ _ (Nat.le_refl _), layR_keep _ _ _ _ _ (Nat.le_refl _)]
  · rfl
/- RenderSame. -/
noncomputable def G11b : Gam := ((((Gam.none.add 10 fun a => F_alive11 (NT.nz.nzL [] a)).add 11 fun a => F_Few (NT.nz.nzL [.a [.k, .k, .k, .s 4]] a)).add 12 fun a => F_Pieces (NT.nz.nzL [.a [.k, .k, .k, .s 4], .k, .k] a)).add 18 fun a => F_texts (NT.nz.nzL [.s 2] a)).add 15 fun a => F_samePc (NT.nz.nzL [.s 2, .s 2] a)
theorem known11b : Known Try.prog G11b := (((((Known.none _).addC _ alive11_c).addC _ Few_calm).addC _ Pieces_calm).addC _ texts_calm).addC _ samePc_calm
theorem G11b_at : (∀ h d a, G11b 10 h d a = calmE (fun a => F_alive11 (NT.nz.nzL [] a)) h a) ∧ (∀ h d a, G11b 11 h d a = calmE (fun a => F_Few (NT.nz.nzL [.a [.k, .k, .k, .s 4]] a)) h a) ∧ (∀ h d a, G11b 12 h d a = calmE (fun a => F_Pieces (NT.nz.nzL [.a [.k, .k, .k, .s 4], .k, .k] a)) h a) ∧ (∀ h d a, G11b 18 h d a = calmE (fun a => F_texts (NT.nz.nzL [.s 2] a)) h a) ∧ (∀ h d a, G11b 15 h d a = calmE (fun a => F_samePc (NT.nz.nzL [.s 2, .s 2] a)) h a) := ⟨fun _ _ _ => rfl, fun _ _ _ => rfl, fun _ _ _ => rfl, fun _ _ _ => rfl, fun _ _ _ => rfl⟩
theorem few_of {D : Doc} (c : ¬ (!decide (sizeD 0 D ≤ 300)) = true) : sizeD 0 D ≤ 300 := by
  rcases Int.lt_or_le 300 (sizeD 0 D) with h | h
  · exact absurd (by simp; omega) c
  · exact h
theorem RenderSame_body (D : Doc) (a b i k : Int) (h1 : okD D) (_ : (Lit.int .i64 a).wf = true) (_ : (Lit.int .i64 b).wf = true) (_ : (Lit.int .i64 i).wf = true) (_ : (Lit.int .i64 k).wf = true) : Body Try.prog G11b (DRun Try.prog G11b) 5 [.agg ((docD D).map .d), .d (.v (.int .i64 a)), .d (.v (.int .i64 b)), .d (.v (.int .i64 i)), .d (.v (.int .i64 k))] (vBool true) := by
  refine Body.of Try.func5 Try.ntmps5 (by kernel_rfl) rfl rfl rfl ?_
  simp only [docD_eq, G11b_at, calmE, F_alive11, F_Few, F_Pieces, F_texts, F_samePc, docsOf_map, Doc.eta, pcs_map, pcOf_map, rnd_keep D a i b k, nz_s2, AV.flat, AV.flat.flatL, List.map_cons, List.map_nil, List.length_map, decide_true, beq_self_eq_true, forall_const, goTG_val, goTG_new, goTG_up, goTG_none, goG_none, goG_new, goG_up, ne_eq, evK, evH, retHF, DRun_mk, runT_nil, runT_none, runT_guard, goT_val, goT_new, goT_store, goTH_true, goTH_false, evO, keys, Option.toList_some, Option.toList_none, nzL_nil, nzL_cons, nz_k, nz_sl, nz_nil, nz_agg, startL, evC, evV, goE_val, goE_new, goE_store, goH_true, goH_false, goG_val, lk_cons, lk_nil, lk_func, lk_int, lk_bool, lk_string, lk_slice, lk_agg, look_mk, St.effOf, eff, effCall, effBin, effUn, effConv, effPick, effNil, effFold, fold1, effLoad, effStore, effFieldAddr, effField, fieldOf, sliceOf, effIndexAddr, effIndex, effLen, effExtract, effSlice, bnd, effBuild, placesOf, effBuildSlice, effMakeSlice, effAppend, srcOf, fillA, chunk, seg, toD, toDs, put, eqAV, fieldsEq, leafEq, strip, unw, allB, selP_or, selP_and, tis, TyD.agg, AV.cells, AV.cell, allCell, vInt, vBool, vStr, subL_nil, subL_cons, upIds, AV.ids, AV.ids.idsL, AObj.ids, drops, Hp.get_cons, get_nil, retF, resL, one, fz, fz.fzL, List.map_cons, List.map_nil, List.nil_append, List.append_nil, List.cons_append, List.all_cons, List.all_nil, List.length_cons, List.length_nil, List.getElem?_cons_zero, List.getElem?_cons_succ, List.getD_cons_zero, List.getD_cons_succ, List.take_succ_cons, List.take_zero, List.drop_succ_cons, List.drop_zero, List.take_nil, List.drop_nil, List.contains_cons, List.contains_nil, Option.getD_some, Option.getD_none, Option.map_some, Option.map_none, if_true, if_false, true_and, and_true, and_self, or_self, or_false, false_or, false_and, and_false, reduceCtorEq, sel_and, sel_or, decide_eq_true_eq, Bool.and_eq_true, Bool.or_eq_true, Bool.and_true, Bool.true_and, Bool.or_false, Bool.false_or, Bool.true_or, Bool.or_true, Bool.not_true, Bool.not_false, Bool.false_eq_true, implies_true, not_false_eq_true, Nat.reduceLT, Nat.reduceEqDiff, Nat.reduceAdd, Nat.reduceMul, Nat.reduceMod, Nat.reduceLeDiff, Nat.reduceBEq, Nat.zero_add, Nat.add_zero, reduceIte, ↓reduceIte, List.not_mem_nil]
  refine ⟨h1, ?_⟩
  by_cases c : (!decide (sizeD 0 D ≤ 300)) = true
  · rw [if_pos c]
    try exact Sub.refl _
  rw [if_neg c]
  have c1 := few_of c
  have b1 := pcs_le a i h1 300 30300 (few_dsz c1) (few_tot c1)
  have b2 := pcs_le b k h1 300 30300 (few_dsz c1) (few_tot c1)
  have b3 := keepL_len (pcs D b k)
  have ht := few_tot c1
  exact ⟨⟨h1, by omega⟩, ⟨by omega, by omega⟩, ⟨h1, by omega⟩, ⟨by omega, by omega⟩, by omega, Sub.refl _⟩
/- RenderCat. -/
theorem docs3 (A B C : Doc) : docsOf [[.v (.int .i64 A.k), .v (.int .i64 A.f), .v (.string A.t), .sl 4 (A.kids.map docD)], [.v (.int .i64 B.k), .v (.int .i64 B.f), .v (.string B.t), .sl 4 (B.kids.map docD)], [.v (.int .i64 C.k), .v (.int .i64 C.f), .v (.string C.t), .sl 4 (C.kids.map docD)]] = [A, B, C] := by
  have := docsOf_map [A, B, C]
  simpa only [List.map_cons, List.map_nil, docD_eq] using this
theorem rows3 (A B C : Doc) : [[.v (.int .i64 A.k), .v (.int .i64 A.f), .v (.string A.t), .sl 4 (A.kids.map docD)], [.v (.int .i64 B.k), .v (.int .i64 B.f), .v (.string B.t), .sl 4 (B.kids.map docD)], [.v (.int .i64 C.k), .v (.int .i64 C.f), .v (.string C.t), .sl 4 (C.kids.map docD)]] = [A, B, C].map docD := by
  simp only [List.map_cons, List.map_nil, docD_eq]
noncomputable def G11c : Gam := (((((Gam.none.add 10 fun a => F_alive11 (NT.nz.nzL [] a)).add 11 fun a => F_Few (NT.nz.nzL [.a [.k, .k, .k, .s 4]] a)).add 12 fun a => F_Pieces (NT.nz.nzL [.a [.k, .k, .k, .s 4], .k, .k] a)).add 19 fun a => F_cat2 (NT.nz.nzL [] a)).add 20 fun a => F_Right (NT.nz.nzL [.a [.k, .k, .k, .s 4]] a)).add 15 fun a => F_samePc (NT.nz.nzL [.s 2, .s 2] a)
theorem known11c : Known Try.prog G11c := ((((((Known.none _).addC _ alive11_c).addC _ Few_calm).addC _ Pieces_calm).addC _ cat2_calm).addC _ RD_calm).addC _ samePc_calm
theorem G11c_at : (∀ h d a, G11c 10 h d a = calmE (fun a => F_alive11 (NT.nz.nzL [] a)) h a) ∧ (∀ h d a, G11c 11 h d a = calmE (fun a => F_Few (NT.nz.nzL [.a [.k, .k, .k, .s 4]] a)) h a) ∧ (∀ h d a, G11c 12 h d a = calmE (fun a => F_Pieces (NT.nz.nzL [.a [.k, .k, .k, .s 4], .k, .k] a)) h a) ∧ (∀ h d a, G11c 19 h d a = calmE (fun a => F_cat2 (NT.nz.nzL [] a)) h a) ∧ (∀ h d a, G11c 20 h d a = calmE (fun a => F_Right (NT.nz.nzL [.a [.k, .k, .k, .s 4]] a)) h a) ∧ (∀ h d a, G11c 15 h d a = calmE (fun a => F_samePc (NT.nz.nzL [.s 2, .s 2] a)) h a) := ⟨fun _ _ _ => rfl, fun _ _ _ => rfl, fun _ _ _ => rfl, fun _ _ _ => rfl, fun _ _ _ => rfl, fun _ _ _ => rfl⟩
theorem rnd_ex (D : Doc) (w i : Int) : rnd D w i = layR (mx 1 (mn w 1000)) (mx 0 (mn i 16)) (exD 0 D) 0 := by
  unfold rnd
  rw [layR_ex _ _ _ _ _ (Nat.le_refl _), exR, exR, exI, if_neg (by simp), List.append_nil]
theorem cat_rnd (A B C : Doc) (w i : Int) : rnd (cat2 A (cat2 B C)) w i = rnd (cat2 (cat2 A B) C) w i ∧ rnd (cat2 A (cat2 B C)) w i = rnd (.mk 5 0 ByteArray.empty [A, B, C]) w i := by
  simp only [rnd_ex, cat2, exD, exDs, if_true, List.append_nil, List.append_assoc, and_self]
theorem cat2_ok {A B : Doc} (h1 : okD A) (h2 : okD B) : okD (cat2 A B) := ⟨Nat.zero_le _, by show 2 ≤ maxLen; decide, h1, h2, trivial⟩
theorem cat2_tot (A B : Doc) : tot (cat2 A B) = 1 + tot A + tot B := by
  have : ByteArray.empty.size = 0 := rfl
  simp only [cat2, tot, tots, this]; omega
theorem cat2_dsz (A B : Doc) : dsz (cat2 A B) = 1 + dsz A + dsz B := by
  simp only [cat2, dsz, dszs]; omega
theorem RenderCat_body (A B C : Doc) (w i : Int) (h1 : okD A) (h2 : okD B) (h3 : okD C) (_ : (Lit.int .i64 w).wf = true) (_ : (Lit.int .i64 i).wf = true) : Body Try.prog G11c (DRun Try.prog G11c) 8 [.agg ((docD A).map .d), .agg ((docD B).map .d), .agg ((docD C).map .d), .d (.v (.int .i64 w)), .d (.v (.int .i64 i))] (vBool true) := by
  refine Body.of Try.func8 Try.ntmps8 (by kernel_rfl) rfl rfl rfl ?_
  simp only [docD_eq, G11c_at, calmE, F_alive11, F_Few, F_Pieces, F_cat2, F_Right, F_samePc, docsOf_map, Doc.eta, docs3, pcs_map, pcOf_map, nz_s2, AV.flat, AV.flat.flatL, List.map_cons, List.map_nil, List.length_map, decide_true, beq_self_eq_true, forall_const, goTG_val, goTG_new, goTG_up, goTG_none, goG_none, goG_new, goG_up, ne_eq, evK, evH, retHF, DRun_mk, runT_nil, runT_none, runT_guard, goT_val, goT_new, goT_store, goTH_true, goTH_false, evO, keys, Option.toList_some, Option.toList_none, nzL_nil, nzL_cons, nz_k, nz_sl, nz_nil, nz_agg, startL, evC, evV, goE_val, goE_new, goE_store, goH_true, goH_false, goG_val, lk_cons, lk_nil, lk_func, lk_int, lk_bool, lk_string, lk_slice, lk_agg, look_mk, St.effOf, eff, effCall, effBin, effUn, effConv, effPick, effNil, effFold, fold1, effLoad, effStore, effFieldAddr, effField, fieldOf, sliceOf, effIndexAddr, effIndex, effLen, effExtract, effSlice, bnd, effBuild, placesOf, effBuildSlice, effMakeSlice, effAppend, srcOf, fillA, chunk, seg, toD, toDs, put, eqAV, fieldsEq, leafEq, strip, unw, allB, selP_or, selP_and, tis, TyD.agg, AV.cells, AV.cell, allCell, vInt, vBool, vStr, subL_nil, subL_cons, upIds, AV.ids, AV.ids.idsL, AObj.ids, drops, Hp.get_cons, get_nil, retF, resL, one, fz, fz.fzL, List.map_cons, List.map_nil, List.nil_append, List.append_nil, List.cons_append, List.all_cons, List.all_nil, List.length_cons, List.length_nil, List.getElem?_cons_zero, List.getElem?_cons_succ, List.getD_cons_zero, List.getD_cons_succ, List.take_succ_cons, List.take_zero, List.drop_succ_cons, List.drop_zero, List.take_nil, List.drop_nil, List.contains_cons, List.contains_nil, Option.getD_some, Option.getD_none, Option.map_some, Option.map_none, if_true, if_false, true_and, and_true, and_self, or_self, or_false, false_or, false_and, and_false, reduceCtorEq, sel_and, sel_or, decide_eq_true_eq, Bool.and_eq_true, Bool.or_eq_true, Bool.and_true, Bool.true_and, Bool.or_false, Bool.false_or, Bool.true_or, Bool.or_true, Bool.not_true, Bool.not_false, Bool.false_eq_true, implies_true, not_false_eq_true, Nat.reduceLT, Nat.reduceEqDiff, Nat.reduceAdd, Nat.reduceMul, Nat.reduceMod, Nat.reduceLeDiff, Nat.reduceBEq, Nat.zero_add, Nat.add_zero, reduceIte, ↓reduceIte, List.not_mem_nil]
  refine ⟨h1, fun _ => h2, fun _ => h3, ?_⟩
  by_cases c : ((!decide (sizeD 0 A ≤ 300)) = true ∨ (!decide (sizeD 0 B ≤ 300)) = true) ∨ (!decide (sizeD 0 C ≤ 300)) = true
  · rw [if_pos c]
    try exact Sub.refl _
  rw [if_neg c]
  have cA := few_of (fun h => c (.inl (.inl h)))
  have cB := few_of (fun h => c (.inl (.inr h)))
  have cC := few_of (fun h => c (.inr h))
  have tA := few_tot cA
  have tB := few_tot cB
  have tC := few_tot cC
  have dA := few_dsz cA
  have dB := few_dsz cB
  have dC := few_dsz cC
  have ox : okD (cat2 A (cat2 B C)) := cat2_ok h1 (cat2_ok h2 h3)
  have oy : okD (cat2 (cat2 A B) C) := cat2_ok (cat2_ok h1 h2) h3
  have oz : okD (.mk 5 0 ByteArray.empty [A, B, C]) := ⟨Nat.zero_le _, by show 3 ≤ maxLen; decide, h1, h2, h3, trivial⟩
  refine ⟨by kernel_rfl, by kernel_rfl, ox, fun _ => oy, fun _ => oz, ?_⟩
  by_cases r : ((!right 200 (cat2 A (cat2 B C))) = true ∨ (!right 200 (cat2 (cat2 A B) C)) = true) ∨ (!right 200 (Doc.mk 5 0 ByteArray.empty [A, B, C])) = true
  · rw [if_pos r]
    try exact Sub.refl _
  rw [if_neg r]
  have rx : right 200 (cat2 A (cat2 B C)) = true := by
    cases h : right 200 (cat2 A (cat2 B C)) with
    | true => rfl
    | false => exact absurd (.inl (.inl (by rw [h]; rfl))) r
  have ry : right 200 (cat2 (cat2 A B) C) = true := by
    cases h : right 200 (cat2 (cat2 A B) C) with
    | true => rfl
    | false => exact absurd (.inl (.inr (by rw [h]; rfl))) r
  have rz : right 200 (Doc.mk 5 0 ByteArray.empty [A, B, C]) = true := by
    cases h : right 200 (Doc.mk 5 0 ByteArray.empty [A, B, C]) with
    | true => rfl
    | false => exact absurd (.inr (by rw [h]; rfl)) r
  obtain ⟨e1, e2⟩ := cat_rnd A B C w i
  have px : pcs (cat2 A (cat2 B C)) w i = rnd (cat2 A (cat2 B C)) w i := if_pos rx
  have py : pcs (cat2 (cat2 A B) C) w i = rnd (cat2 A (cat2 B C)) w i := (if_pos ry).trans e1.symm
  have pz : pcs (Doc.mk 5 0 ByteArray.empty [A, B, C]) w i = rnd (cat2 A (cat2 B C)) w i := (if_pos rz).trans e2.symm
  have hl := rnd_len (cat2 A (cat2 B C)) w i
  have t1 := cat2_tot A (cat2 B C)
  have t2 := cat2_tot B C
  have t3 := cat2_tot (cat2 A B) C
  have t4 := cat2_tot A B
  have d1 := cat2_dsz A (cat2 B C)
  have d2 := cat2_dsz B C
  have tz : tot (.mk 5 0 ByteArray.empty [A, B, C]) = 1 + tot A + tot B + tot C := by
    have : ByteArray.empty.size = 0 := rfl
    simp only [tot, tots, this]; omega
  rw [px, py, pz, if_pos rfl]
  refine ⟨⟨ox, by omega⟩, ⟨oy, by omega⟩, ⟨by omega, by omega⟩, ⟨oz, by omega⟩, fun _ => ⟨by omega, by omega⟩, ?_⟩
  first | done | exact Sub.refl _ | (rw [if_pos rfl, decide_eq_true rfl]; try exact Sub.refl _)
/- RenderNest. -/
mutual
theorem tot_cells : ∀ d : Doc, tot d ≤ cellsB (docD d)
  | .mk k f t l => by
    have := tots_cells l
    rw [docD_eq, tot]
    simp only [Doc.k, Doc.f, Doc.t, Doc.kids, cellsB, datB]
    omega
theorem tots_cells : ∀ l : List Doc, tots l ≤ rowsB (l.map docD)
  | [] => Nat.le_refl _
  | d :: l => by
    have := tot_cells d
    have := tots_cells l
    simp only [tots, List.map_cons, rowsB]; omega
end
def grp (D : Doc) : Doc := .mk 6 0 ByteArray.empty [D]
def nst (D : Doc) : Doc := .mk 7 0 ByteArray.empty [D]
theorem em0 : (ByteArray.empty.toList == (⟨#[]⟩ : ByteArray).toList) = true := beq_self_eq_true _
theorem ok1 {k : Int} {D : Doc} (h : okD D) : okD (.mk k 0 ByteArray.empty [D]) := ⟨Nat.zero_le _, by show 1 ≤ maxLen; decide, h, trivial⟩
theorem tot1 (k : Int) (D : Doc) : tot (.mk k 0 ByteArray.empty [D]) = 1 + tot D := by
  have : ByteArray.empty.size = 0 := rfl
  simp only [tot, tots, this]; omega
theorem dsz1 (k : Int) (D : Doc) : dsz (.mk k 0 ByteArray.empty [D]) = 1 + dsz D := by
  simp only [dsz, dszs]; omega
theorem right_kid {k : Int} {D : Doc} {n : Int} (hk : 5 ≤ k ∧ k ≤ 7) (h : right n (.mk k 0 ByteArray.empty [D]) = true) : right n D = true := by
  obtain ⟨_, h2⟩ := right_kinds h
  obtain ⟨_, h3⟩ := h2 (by show k = 5 ∨ k = 6 ∨ k = 7; omega)
  exact right_mono D (by omega) (h3 D List.mem_cons_self)
theorem rf_grp (D : Doc) (h : (rfS D).2 = true) : rfS (grp D) = rfS D := by
  rw [grp, rfS, if_neg (by decide), if_neg (by decide), if_neg (by decide), if_neg (by decide), rfL, if_pos h, rfL, rfJ, if_pos rfl, List.append_nil]
  rw [← h]
theorem flat_rnd (D : Doc) (i lv : Int) (h : (rfS D).2 = true) (hw : wide (flatB D) ≤ 1000) : layR 1000 i [⟨grp D, lv, false⟩] 0 = fp D := by
  have e : stepR 1000 i ⟨grp D, lv, false⟩ [] 0 = ([⟨D, lv, true⟩], 0, []) := by
    have hf : fitsR 1000 0 (grp D) [] = true := by
      have e0 : wide (flatB (grp D)) ≤ 1000 := by rw [flatB, rf_grp D h]; exact hw
      show ((rfS (grp D)).2 && decide (0 + wide (flatB (grp D)) + 0 ≤ 1000)) = true
      rw [rf_grp D h, h, Bool.true_and, decide_eq_true_eq]
      omega
    unfold stepR inI
    simp only [grp, Doc.k, hf, show ¬ (6 : Int) = 1 by decide, show ¬ (6 : Int) = 2 by decide, show ¬ (6 : Int) = 3 by decide, show ¬ (6 : Int) = 4 by decide, show ¬ (6 : Int) = 7 by decide, if_false, if_true, or_self, kidsI, Doc.kids, List.map_cons, List.map_nil, List.append_nil, Bool.false_or]
    rw [show fitsR 1000 0 (.mk 6 0 ByteArray.empty [D]) [] = true from hf]
  rw [layR_cons, e, layR_flat 1000 i _ _ _ (Nat.le_refl _) (by intro x hx; rw [List.mem_singleton.mp hx])]
  simp only [fpR, List.nil_append, List.append_nil]
theorem nest_rnd (D : Doc) (i : Int) (h : (rfS D).2 = true) (hw : wide (flatB D) ≤ 1000) : rnd (grp D) 1000 i = fp D ∧ rnd (nst (grp D)) 1000 i = fp D := by
  have hm : mx 1 (mn 1000 1000) = 1000 := by decide
  refine ⟨by rw [rnd, hm, flat_rnd D _ 0 h hw], ?_⟩
  rw [rnd, hm, layR_cons]
  have e : stepR 1000 (mx 0 (mn i 16)) ⟨nst (grp D), 0, false⟩ [] 0 = ([⟨grp D, 1, false⟩], 0, []) := by
    unfold stepR inI
    simp only [nst, Doc.k, show ¬ (7 : Int) = 1 by decide, show ¬ (7 : Int) = 2 by decide, show ¬ (7 : Int) = 3 by decide, show ¬ (7 : Int) = 4 by decide, if_false, if_true, or_self, kidsI, Doc.kids, List.map_cons, List.map_nil, List.append_nil]
    rfl
  rw [e]
  simp only [List.nil_append]
  exact flat_rnd D _ 1 h hw
noncomputable def G11d : Gam := (((((((Gam.none.add 10 fun a => F_alive11 (NT.nz.nzL [] a)).add 11 fun a => F_Few (NT.nz.nzL [.a [.k, .k, .k, .s 4]] a)).add 12 fun a => F_Pieces (NT.nz.nzL [.a [.k, .k, .k, .s 4], .k, .k] a)).add 21 fun a => F_RFlat (NT.nz.nzL [.a [.k, .k, .k, .s 4]] a)).add 22 fun a => F_Wide (NT.nz.nzL [] a)).add 20 fun a => F_Right (NT.nz.nzL [.a [.k, .k, .k, .s 4]] a)).add 15 fun a => F_samePc (NT.nz.nzL [.s 2, .s 2] a)).add 17 fun a => F_PText (NT.nz.nzL [.s 2] a)
theorem known11d : Known Try.prog G11d := ((((((((Known.none _).addC _ alive11_c).addC _ Few_calm).addC _ Pieces_calm).addC _ RF_calm).addC _ RWide_calm).addC _ RD_calm).addC _ samePc_calm).addC _ RText_calm
theorem G11d_at : (∀ h d a, G11d 10 h d a = calmE (fun a => F_alive11 (NT.nz.nzL [] a)) h a) ∧ (∀ h d a, G11d 11 h d a = calmE (fun a => F_Few (NT.nz.nzL [.a [.k, .k, .k, .s 4]] a)) h a) ∧ (∀ h d a, G11d 12 h d a = calmE (fun a => F_Pieces (NT.nz.nzL [.a [.k, .k, .k, .s 4], .k, .k] a)) h a) ∧ (∀ h d a, G11d 21 h d a = calmE (fun a => F_RFlat (NT.nz.nzL [.a [.k, .k, .k, .s 4]] a)) h a) ∧ (∀ h d a, G11d 22 h d a = calmE (fun a => F_Wide (NT.nz.nzL [] a)) h a) ∧ (∀ h d a, G11d 20 h d a = calmE (fun a => F_Right (NT.nz.nzL [.a [.k, .k, .k, .s 4]] a)) h a) ∧ (∀ h d a, G11d 15 h d a = calmE (fun a => F_samePc (NT.nz.nzL [.s 2, .s 2] a)) h a) ∧ (∀ h d a, G11d 17 h d a = calmE (fun a => F_PText (NT.nz.nzL [.s 2] a)) h a) := ⟨fun _ _ _ => rfl, fun _ _ _ => rfl, fun _ _ _ => rfl, fun _ _ _ => rfl, fun _ _ _ => rfl, fun _ _ _ => rfl, fun _ _ _ => rfl, fun _ _ _ => rfl⟩
theorem docs1g (A : Doc) : docsOf [[.v (.int .i64 6), .v (.int .i64 0), .v (.string ByteArray.empty), .sl 4 [[.v (.int .i64 A.k), .v (.int .i64 A.f), .v (.string A.t), .sl 4 (A.kids.map docD)]]]] = [grp A] := by
  have := docsOf_map [grp A]
  simpa only [List.map_cons, List.map_nil, docD_eq, grp, Doc.k, Doc.f, Doc.t, Doc.kids] using this
theorem RenderNest_body (D : Doc) (i : Int) (h1 : okD D) (_ : (Lit.int .i64 i).wf = true) (hB : cellsB (docD D) + cellsB [.v (.int .i64 i)] ≤ 1048576) : Body Try.prog G11d (DRun Try.prog G11d) 9 [.agg ((docD D).map .d), .d (.v (.int .i64 i))] (vBool true) := by
  refine Body.of Try.func9 Try.ntmps9 (by kernel_rfl) rfl rfl rfl ?_
  have htot := tot_cells D
  simp only [docD_eq, G11d_at, calmE, F_alive11, F_Few, F_Pieces, F_RFlat, F_Wide, F_Right, F_samePc, F_PText, docsOf_map, Doc.eta, docs1, docs1g, pcs_map, pcOf_map, nz_s2, AV.flat, AV.flat.flatL, List.map_cons, List.map_nil, List.length_map, decide_true, beq_self_eq_true, forall_const, goTG_val, goTG_new, goTG_up, goTG_none, goG_none, goG_new, goG_up, ne_eq, evK, evH, retHF, DRun_mk, runT_nil, runT_none, runT_guard, goT_val, goT_new, goT_store, goTH_true, goTH_false, evO, keys, Option.toList_some, Option.toList_none, nzL_nil, nzL_cons, nz_k, nz_sl, nz_nil, nz_agg, startL, evC, evV, goE_val, goE_new, goE_store, goH_true, goH_false, goG_val, lk_cons, lk_nil, lk_func, lk_int, lk_bool, lk_string, lk_slice, lk_agg, look_mk, St.effOf, eff, effCall, effBin, effUn, effConv, effPick, effNil, effFold, fold1, effLoad, effStore, effFieldAddr, effField, fieldOf, sliceOf, effIndexAddr, effIndex, effLen, effExtract, effSlice, bnd, effBuild, placesOf, effBuildSlice, effMakeSlice, effAppend, srcOf, fillA, chunk, seg, toD, toDs, put, eqAV, fieldsEq, leafEq, strip, unw, allB, selP_or, selP_and, tis, TyD.agg, AV.cells, AV.cell, allCell, vInt, vBool, vStr, subL_nil, subL_cons, upIds, AV.ids, AV.ids.idsL, AObj.ids, drops, Hp.get_cons, get_nil, retF, resL, one, fz, fz.fzL, List.map_cons, List.map_nil, List.nil_append, List.append_nil, List.cons_append, List.all_cons, List.all_nil, List.length_cons, List.length_nil, List.getElem?_cons_zero, List.getElem?_cons_succ, List.getD_cons_zero, List.getD_cons_succ, List.take_succ_cons, List.take_zero, List.drop_succ_cons, List.drop_zero, List.take_nil, List.drop_nil, List.contains_cons, List.contains_nil, Option.getD_some, Option.getD_none, Option.map_some, Option.map_none, if_true, if_false, true_and, and_true, and_self, or_self, or_false, false_or, false_and, and_false, reduceCtorEq, sel_and, sel_or, decide_eq_true_eq, Bool.and_eq_true, Bool.or_eq_true, Bool.and_true, Bool.true_and, Bool.or_false, Bool.false_or, Bool.true_or, Bool.or_true, Bool.not_true, Bool.not_false, Bool.false_eq_true, implies_true, not_false_eq_true, Nat.reduceLT, Nat.reduceEqDiff, Nat.reduceAdd, Nat.reduceMul, Nat.reduceMod, Nat.reduceLeDiff, Nat.reduceBEq, Nat.zero_add, Nat.add_zero, reduceIte, ↓reduceIte, List.not_mem_nil]
  simp only [cellsB, datB] at hB
  have hft := flatS_tot D
  have g1 : (grp D).k = 6 := rfl
  have g2 : (grp D).f = 0 := rfl
  have g3 : (grp D).t = ByteArray.empty := rfl
  have g4 : (grp D).kids = [D] := rfl
  have hgr : ([[.v (.int .i64 6), .v (.int .i64 0), .v (.string ByteArray.empty), .sl 4 [[.v (.int .i64 D.k), .v (.int .i64 D.f), .v (.string D.t), .sl 4 (D.kids.map docD)]]]] : List (List Dat)) = [[.v (.int .i64 (grp D).k), .v (.int .i64 (grp D).f), .v (.string (grp D).t), .sl 4 ((grp D).kids.map docD)]] := by
    rw [g1, g2, g3, g4, List.map_cons, List.map_nil, docD_eq]
  refine ⟨⟨h1, by omega⟩, h1, ?_, ?_⟩
  · intro hc
    have hflat : (flatT D).1.length ≤ tot D := by
      unfold flatT
      split
      · exact hft
      · exact Nat.zero_le _
    rw [ba_size]; omega
  by_cases cA : (!decide (sizeD 0 D ≤ 300)) = true ∨ (!(flatT D).2) = true
  · have hQ : (!if (!decide (sizeD 0 D ≤ 300)) = true ∨ (!(flatT D).snd) = true then true else decide (wide { data := (flatT D).fst.toArray } > 1000)) = false := by rw [if_pos cA]; rfl
    rw [hQ, if_neg (by decide)]
    repeat (refine And.intro rfl ?_)
    refine ⟨?_, ?_⟩
    · rw [if_pos (.inl cA)]; rfl
    · rw [if_pos (.inl cA)]
      simp only [evV, if_true]
      try exact Sub.refl _
  by_cases cW : wide { data := (flatT D).fst.toArray } > 1000
  · have hQ : (!if (!decide (sizeD 0 D ≤ 300)) = true ∨ (!(flatT D).snd) = true then true else decide (wide { data := (flatT D).fst.toArray } > 1000)) = false := by rw [if_neg cA, decide_eq_true cW]; rfl
    rw [hQ, if_neg (by decide)]
    repeat (refine And.intro rfl ?_)
    refine ⟨?_, ?_⟩
    · rw [if_pos (.inr cW)]; rfl
    · rw [if_pos (.inr cW)]
      simp only [evV, if_true]
      try exact Sub.refl _
  have hQ : (!if (!decide (sizeD 0 D ≤ 300)) = true ∨ (!(flatT D).snd) = true then true else decide (wide { data := (flatT D).fst.toArray } > 1000)) = true := by rw [if_neg cA, decide_eq_false cW]; rfl
  rw [hQ, if_pos rfl, if_pos rfl]
  have c1 := few_of (fun h => cA (.inl h))
  have t1 := few_tot c1
  have d1 := few_dsz c1
  have e1 := tot1 6 D
  have e2 := tot1 7 (grp D)
  have e3 : tot (grp D) = 1 + tot D := e1
  have e4 := dsz1 6 D
  have e5 := dsz1 7 (grp D)
  have e6 : dsz (grp D) = 1 + dsz D := e4
  have o1 : okD (grp D) := ok1 h1
  have o2 : okD (.mk 7 0 ByteArray.empty [grp D]) := ok1 o1
  refine ⟨fun _ => ⟨hgr, o2⟩, ?_⟩
  by_cases cR : (((!decide (sizeD 0 D ≤ 300)) = true ∨ (!(flatT D).snd) = true) ∨ wide { data := (flatT D).fst.toArray } > 1000) ∨ (!right 200 (Doc.mk 7 0 ByteArray.empty [grp D])) = true
  · rw [if_pos cR]
    try exact Sub.refl _
  rw [if_neg cR]
  have r1 : right 200 (Doc.mk 7 0 ByteArray.empty [grp D]) = true := by
    cases h : right 200 (Doc.mk 7 0 ByteArray.empty [grp D]) with
    | true => rfl
    | false => exact absurd (.inr (by rw [h]; rfl)) cR
  have r2 : right 200 (grp D) = true := right_kid (by decide) r1
  have r3 : right 200 D = true := right_kid (k := 6) (by decide) r2
  have hfT := flatT_right r3
  have hok : (rfS D).2 = true := by
    cases h : (rfS D).2 with
    | true => rfl
    | false => exact absurd (.inr (by rw [hfT, h]; rfl)) cA
  have hwd : wide (flatB D) ≤ 1000 := by
    rw [hfT] at cW
    unfold flatB
    omega
  obtain ⟨n1, n2⟩ := nest_rnd D i hok hwd
  have p1 : pcs (Doc.mk 6 0 ByteArray.empty [D]) 1000 i = fp D := (if_pos r2).trans n1
  have p2 : pcs (Doc.mk 7 0 ByteArray.empty [grp D]) 1000 i = fp D := (if_pos r1).trans n2
  have b1 := pcs_le 1000 i o1 301 30301 (by omega) (by omega)
  rw [show pcs (grp D) 1000 i = fp D from p1] at b1
  rw [p1, p2, if_pos rfl]
  refine ⟨⟨o1, by omega⟩, ⟨hgr, o2, by omega⟩, ⟨by omega, by omega⟩, fun _ => ⟨by omega, by omega⟩, Sub.eq ?_⟩
  rw [fp_text D hok, hfT, beq_self_eq_true]
end Go.Proofs.Ythcgkfgkknofnaa.Eng
