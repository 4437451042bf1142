/- The reference's numbers and texts of JSON, on the small machine. -/
import Derived.Test.YtlhhibhcoefolaaSJx8
namespace Go.Proofs.Ytlhhibhcoefolaa.Eng
open Go Go.Proofs.Ytlhhibhcoefolaa.Base
set_option maxRecDepth 100000
set_option linter.unusedSimpArgs false
set_option linter.unusedVariables false
theorem wu8 {x : Int} (h0 : 0 ≤ x) (h1 : x < 256) : IntKind.u8.wrap x = x := by rw [IntKind.wrap_u8]; omega
theorem rblank_body (c : Int) : Body Try.prog Gam.none (DRun Try.prog Gam.none) 16 [.d (.v (.int .u8 c))] (vBool (blkB c)) := by
  refine Body.of Try.func16 Try.ntmps16 (by kernel_rfl) rfl rfl rfl ?_
  simp only [goTG_val, goTG_new, goTG_up, goTG_none, goG_none, goG_new, goG_up, ne_eq, evK, evH, retHF, DRun_mk, runT_nil, runT_none, runT_guard, goT_val, goT_new, goT_store, goTH_true, goTH_false, evO, keys, Option.toList_some, Option.toList_none, nzL_nil, nzL_cons, nz_k, nz_sl, nz_nil, nz_agg, startL, evC, evV, goE_val, goE_new, goE_store, goH_true, goH_false, goG_val, lk_cons, lk_nil, lk_func, lk_int, lk_bool, lk_string, lk_slice, lk_agg, look_mk, St.effOf, eff, effCall, effBinC, isConst, effBin, effUn, effConv, effPick, effNil, effFold, fold1, effLoad, effStore, effFieldAddr, effField, fieldOf, sliceOf, effIndexAddr, effIndex, effLen, effExtract, effSlice, dats, bnd, effBuild, placesOf, effBuildSlice, effMakeSlice, effAppend, srcOf, fillA, chunk, seg, toD, toDs, put, eqAV, fieldsEq, leafEq, strip, unw, allB, selP_or, selP_and, tis, TyD.agg, AV.cells, AV.cell, allCell, vInt, vBool, vStr, subL_nil, subL_cons, upIds, AV.ids, AV.ids.idsL, AObj.ids, drops, Hp.get_cons, get_nil, retF, resL, one, fz, fz.fzL, List.map_cons, List.map_nil, List.nil_append, List.append_nil, List.cons_append, List.all_cons, List.all_nil, List.length_cons, List.length_nil, List.getElem?_cons_zero, List.getElem?_cons_succ, List.getD_cons_zero, List.getD_cons_succ, List.take_succ_cons, List.take_zero, List.drop_succ_cons, List.drop_zero, List.take_nil, List.drop_nil, List.contains_cons, List.contains_nil, Option.getD_some, Option.getD_none, Option.map_some, Option.map_none, if_true, if_false, true_and, and_true, and_self, or_self, or_false, false_or, false_and, and_false, reduceCtorEq, sel_and, sel_or, decide_eq_true_eq, Bool.and_eq_true, Bool.or_eq_true, Bool.and_true, Bool.true_and, Bool.or_false, Bool.false_or, Bool.true_or, Bool.or_true, Bool.not_true, Bool.not_false, Bool.false_eq_true, implies_true, not_false_eq_true, Nat.reduceLT, Nat.reduceEqDiff, Nat.reduceAdd, Nat.reduceMul, Nat.reduceMod, Nat.reduceLeDiff, Nat.reduceBEq, Nat.zero_add, Nat.add_zero, reduceIte, ↓reduceIte, List.not_mem_nil]
  refine Sub.eq ?_
  congr 3
  rw [Bool.eq_iff_iff]
  unfold blkB
  rw [decide_eq_true_eq]
  repeat' split
  all_goals
    simp only [beq_iff_eq, decide_eq_true_eq, Bool.false_eq_true, true_iff, false_iff, Bool.or_eq_true, Bool.and_eq_true] at *
    try omega
theorem rblank_calm : ∀ args sc res, F_pr blkB args = some (sc, res) → sc → Calm Try.prog 16 args res := by
  intro args sc res h hs
  unfold F_pr at h
  split at h <;> cases h
  exact (Known.none _).calm mixed rfl rfl (rblank_body _)
def F_goes : List AV → Option (Prop × AV)
  | [.d (.sl 1 xs), .d (.v (.int .i64 a))] => some (xs = (xs.map numOf).map (iD .u8) ∧ Bytes (xs.map numOf) ∧ 0 ≤ a, vBool (Jlex.goes ((xs.map numOf).drop a.toNat)))
  | _ => none
theorem goes_body (l : List Int) (hb : Bytes l) (a : Nat) : Body Try.prog Gam.none (DRun Try.prog Gam.none) 17 [.d (bytesD l), vInt .i64 a] (vBool (Jlex.goes (l.drop a))) := by
  refine Body.of Try.func17 Try.ntmps17 (by kernel_rfl) rfl rfl rfl ?_
  simp only [bytesD, getD_iD, iD, num_iD, Int.toNat_natCast, List.length_map, Int.reduceLE, Int.reduceLT, Int.reduceGT, Int.reduceGE, Int.reduceBEq, Int.reduceBNe, Int.reduceEq, Int.reduceToNat, Int.reduceSub, Int.reduceAdd, Int.reduceMul, Int.reducePow, Int.reduceNeg, goTG_val, goTG_new, goTG_up, goTG_none, goG_none, goG_new, goG_up, ne_eq, evK, evH, retHF, DRun_mk, runT_nil, runT_none, runT_guard, goT_val, goT_new, goT_store, goTH_true, goTH_false, evO, keys, Option.toList_some, Option.toList_none, nzL_nil, nzL_cons, nz_k, nz_sl, nz_nil, nz_agg, startL, evC, evV, goE_val, goE_new, goE_store, goH_true, goH_false, goG_val, lk_cons, lk_nil, lk_func, lk_int, lk_bool, lk_string, lk_slice, lk_agg, look_mk, St.effOf, eff, effCall, effBinC, isConst, effBin, effUn, effConv, effPick, effNil, effFold, fold1, effLoad, effStore, effFieldAddr, effField, fieldOf, sliceOf, effIndexAddr, effIndex, effLen, effExtract, effSlice, dats, bnd, effBuild, placesOf, effBuildSlice, effMakeSlice, effAppend, srcOf, fillA, chunk, seg, toD, toDs, put, eqAV, fieldsEq, leafEq, strip, unw, allB, selP_or, selP_and, tis, TyD.agg, AV.cells, AV.cell, allCell, vInt, vBool, vStr, subL_nil, subL_cons, upIds, AV.ids, AV.ids.idsL, AObj.ids, drops, Hp.get_cons, get_nil, retF, resL, one, fz, fz.fzL, List.map_cons, List.map_nil, List.nil_append, List.append_nil, List.cons_append, List.all_cons, List.all_nil, List.length_cons, List.length_nil, List.getElem?_cons_zero, List.getElem?_cons_succ, List.getD_cons_zero, List.getD_cons_succ, List.take_succ_cons, List.take_zero, List.drop_succ_cons, List.drop_zero, List.take_nil, List.drop_nil, List.contains_cons, List.contains_nil, Option.getD_some, Option.getD_none, Option.map_some, Option.map_none, if_true, if_false, true_and, and_true, and_self, or_self, or_false, false_or, false_and, and_false, reduceCtorEq, sel_and, sel_or, decide_eq_true_eq, Bool.and_eq_true, Bool.or_eq_true, Bool.and_true, Bool.true_and, Bool.or_false, Bool.false_or, Bool.true_or, Bool.or_true, Bool.not_true, Bool.not_false, Bool.false_eq_true, implies_true, not_false_eq_true, Nat.reduceLT, Nat.reduceEqDiff, Nat.reduceAdd, Nat.reduceMul, Nat.reduceMod, Nat.reduceLeDiff, Nat.reduceBEq, Nat.zero_add, Nat.add_zero, reduceIte, ↓reduceIte, List.not_mem_nil]
  by_cases h1 : a < l.length
  · obtain ⟨c, t, h⟩ : ∃ c t, l.drop a = c :: t := by
      rcases h : l.drop a with _ | ⟨c, t⟩
      · have := List.drop_eq_nil_iff.1 h; omega
      · exact ⟨c, t, rfl⟩
    have hc : l.getD a 0 = c := by
      have h2 : l[a]? = some c := by have := congrArg List.head? h; rwa [List.head?_drop] at this
      rw [List.getD_eq_getElem?_getD, h2]; rfl
    rw [if_neg (by omega)]
    simp only [hc, h]
    refine ⟨by omega, ?_⟩
    refine Sub.eq ?_
    congr 3
    rw [Bool.eq_iff_iff]
    unfold Jlex.goes Jlex.go
    rw [decide_eq_true_eq]
    repeat' split
    all_goals
      simp only [beq_iff_eq, decide_eq_true_eq, Bool.false_eq_true, true_iff, false_iff, Bool.or_eq_true, Bool.and_eq_true] at *
      try omega
  · rw [if_pos (by omega), List.drop_eq_nil_of_le (by omega)]
    exact Sub.refl _
theorem goes_calm : ∀ args sc res, F_goes args = some (sc, res) → sc → Calm Try.prog 17 args res := by
  intro args sc res h hs
  unfold F_goes at h
  split at h <;> cases h
  rename_i xs a
  obtain ⟨h1, hb, h3⟩ := hs
  obtain ⟨k, rfl⟩ := Int.eq_ofNat_of_zero_le h3
  have hq := goes_body (xs.map numOf) hb k
  rw [bytesD, ← h1] at hq
  exact (Known.none _).calm mixed rfl rfl hq
theorem hexd_body (c : Int) (hc : 0 ≤ c ∧ c < 256) : Body Try.prog Gam.none (DRun Try.prog Gam.none) 27 [.d (.v (.int .u8 c))] (vInt .i64 (Jstr.hexv c)) := by
  refine Body.of Try.func27 Try.ntmps27 (by kernel_rfl) rfl rfl rfl ?_
  simp only [Int.reduceLE, Int.reduceLT, Int.reduceGT, Int.reduceGE, Int.reduceBEq, Int.reduceBNe, Int.reduceEq, Int.reduceToNat, Int.reduceSub, Int.reduceAdd, Int.reduceMul, Int.reducePow, Int.reduceNeg, goTG_val, goTG_new, goTG_up, goTG_none, goG_none, goG_new, goG_up, ne_eq, evK, evH, retHF, DRun_mk, runT_nil, runT_none, runT_guard, goT_val, goT_new, goT_store, goTH_true, goTH_false, evO, keys, Option.toList_some, Option.toList_none, nzL_nil, nzL_cons, nz_k, nz_sl, nz_nil, nz_agg, startL, evC, evV, goE_val, goE_new, goE_store, goH_true, goH_false, goG_val, lk_cons, lk_nil, lk_func, lk_int, lk_bool, lk_string, lk_slice, lk_agg, look_mk, St.effOf, eff, effCall, effBinC, isConst, effBin, effUn, effConv, effPick, effNil, effFold, fold1, effLoad, effStore, effFieldAddr, effField, fieldOf, sliceOf, effIndexAddr, effIndex, effLen, effExtract, effSlice, dats, bnd, effBuild, placesOf, effBuildSlice, effMakeSlice, effAppend, srcOf, fillA, chunk, seg, toD, toDs, put, eqAV, fieldsEq, leafEq, strip, unw, allB, selP_or, selP_and, tis, TyD.agg, AV.cells, AV.cell, allCell, vInt, vBool, vStr, subL_nil, subL_cons, upIds, AV.ids, AV.ids.idsL, AObj.ids, drops, Hp.get_cons, get_nil, retF, resL, one, fz, fz.fzL, List.map_cons, List.map_nil, List.nil_append, List.append_nil, List.cons_append, List.all_cons, List.all_nil, List.length_cons, List.length_nil, List.getElem?_cons_zero, List.getElem?_cons_succ, List.getD_cons_zero, List.getD_cons_succ, List.take_succ_cons, List.take_zero, List.drop_succ_cons, List.drop_zero, List.take_nil, List.drop_nil, List.contains_cons, List.contains_nil, Option.getD_some, Option.getD_none, Option.map_some, Option.map_none, if_true, if_false, true_and, and_true, and_self, or_self, or_false, false_or, false_and, and_false, reduceCtorEq, sel_and, sel_or, decide_eq_true_eq, Bool.and_eq_true, Bool.or_eq_true, Bool.and_true, Bool.true_and, Bool.or_false, Bool.false_or, Bool.true_or, Bool.or_true, Bool.not_true, Bool.not_false, Bool.false_eq_true, implies_true, not_false_eq_true, Nat.reduceLT, Nat.reduceEqDiff, Nat.reduceAdd, Nat.reduceMul, Nat.reduceMod, Nat.reduceLeDiff, Nat.reduceBEq, Nat.zero_add, Nat.add_zero, reduceIte, ↓reduceIte, List.not_mem_nil]
  unfold Jstr.hexv
  by_cases c1 : c ≥ 48 ∧ c ≤ 57
  · rw [if_pos c1, if_pos (by omega), wu8 (by omega) (by omega), w64 (by omega) (by omega)]
  rw [if_neg c1, if_neg (show ¬ (48 ≤ c ∧ c ≤ 57) by omega)]
  by_cases c2 : c ≥ 97 ∧ c ≤ 102
  · rw [if_pos c2, if_pos (by omega), wu8 (by omega) (by omega), w64 (n := c - 97) (by omega) (by omega), w64 (by omega) (by omega), show c - 97 + 10 = c - 87 by omega]
  rw [if_neg c2, if_neg (show ¬ (97 ≤ c ∧ c ≤ 102) by omega)]
  by_cases c3 : c ≥ 65 ∧ c ≤ 70
  · rw [if_pos c3, if_pos (by omega), wu8 (by omega) (by omega), w64 (n := c - 65) (by omega) (by omega), w64 (by omega) (by omega), show c - 65 + 10 = c - 55 by omega]
  rw [if_neg c3, if_neg (show ¬ (65 ≤ c ∧ c ≤ 70) by omega)]
def F_hexd : List AV → Option (Prop × AV)
  | [.d (.v (.int .u8 c))] => some (0 ≤ c ∧ c < 256, vInt .i64 (Jstr.hexv c))
  | _ => none
theorem hexd_calm : ∀ args sc res, F_hexd args = some (sc, res) → sc → Calm Try.prog 27 args res := by
  intro args sc res h hs
  unfold F_hexd at h
  split at h <;> cases h
  exact (Known.none _).calm mixed rfl rfl (hexd_body _ hs)
def F_rrun : List AV → Option (Prop × AV)
  | [.d (.v (.string s)), .d (.v (.int .i64 a))] => some (s.size ≤ 1000000000 ∧ 0 ≤ a ∧ a ≤ s.size, vInt .i64 (runN digB (sB s) a.toNat))
  | _ => none
theorem rrun_body (s : ByteArray) (a : Nat) (hl : s.size ≤ 1000000000) (ha : a ≤ s.size) : Body Try.prog Gam.none (DRun Try.prog Gam.none) 28 [vStr s, vInt .i64 a] (vInt .i64 (runN digB (sB s) a)) := by
  refine Body.of Try.func28 Try.ntmps28 (by kernel_rfl) rfl rfl rfl ?_
  have hn := sB_len s
  simp only [bt_sB, Int.reduceLE, Int.reduceLT, Int.reduceGT, Int.reduceGE, Int.reduceBEq, Int.reduceBNe, Int.reduceEq, Int.reduceToNat, Int.reduceSub, Int.reduceAdd, Int.reduceMul, Int.reducePow, Int.reduceNeg, goTG_val, goTG_new, goTG_up, goTG_none, goG_none, goG_new, goG_up, ne_eq, evK, evH, retHF, DRun_mk, runT_nil, runT_none, runT_guard, goT_val, goT_new, goT_store, goTH_true, goTH_false, evO, keys, Option.toList_some, Option.toList_none, nzL_nil, nzL_cons, nz_k, nz_sl, nz_nil, nz_agg, startL, evC, evV, goE_val, goE_new, goE_store, goH_true, goH_false, goG_val, lk_cons, lk_nil, lk_func, lk_int, lk_bool, lk_string, lk_slice, lk_agg, look_mk, St.effOf, eff, effCall, effBinC, isConst, effBin, effUn, effConv, effPick, effNil, effFold, fold1, effLoad, effStore, effFieldAddr, effField, fieldOf, sliceOf, effIndexAddr, effIndex, effLen, effExtract, effSlice, dats, bnd, effBuild, placesOf, effBuildSlice, effMakeSlice, effAppend, srcOf, fillA, chunk, seg, toD, toDs, put, eqAV, fieldsEq, leafEq, strip, unw, allB, selP_or, selP_and, tis, TyD.agg, AV.cells, AV.cell, allCell, vInt, vBool, vStr, subL_nil, subL_cons, upIds, AV.ids, AV.ids.idsL, AObj.ids, drops, Hp.get_cons, get_nil, retF, resL, one, fz, fz.fzL, List.map_cons, List.map_nil, List.nil_append, List.append_nil, List.cons_append, List.all_cons, List.all_nil, List.length_cons, List.length_nil, List.getElem?_cons_zero, List.getElem?_cons_succ, List.getD_cons_zero, List.getD_cons_succ, List.take_succ_cons, List.take_zero, List.drop_succ_cons, List.drop_zero, List.take_nil, List.drop_nil, List.contains_cons, List.contains_nil, Option.getD_some, Option.getD_none, Option.map_some, Option.map_none, if_true, if_false, true_and, and_true, and_self, or_self, or_false, false_or, false_and, and_false, reduceCtorEq, sel_and, sel_or, decide_eq_true_eq, Bool.and_eq_true, Bool.or_eq_true, Bool.and_true, Bool.true_and, Bool.or_false, Bool.false_or, Bool.true_or, Bool.or_true, Bool.not_true, Bool.not_false, Bool.false_eq_true, implies_true, not_false_eq_true, Nat.reduceLT, Nat.reduceEqDiff, Nat.reduceAdd, Nat.reduceMul, Nat.reduceMod, Nat.reduceLeDiff, Nat.reduceBEq, Nat.zero_add, Nat.add_zero, reduceIte, ↓reduceIte, List.not_mem_nil]
  refine wpc_loop (fun k : Nat => ⟨24, [], [(0, vStr s), (1, vInt .i64 k)], []⟩) (fun k => k ≤ s.size ∧ runN digB (sB s) k = runN digB (sB s) a) (fun k => s.size - k) a ⟨ha, rfl⟩ ?_ ?_
  · refine Le.of id [] ?_
    simp only [Mt_tup, Mt_agg, Mt_fn, forall_eq, forall_eq_or_imp, ne_eq, List.all_cons, List.all_nil, pr, Nat.reduceLeDiff, slR_nil, slR_cons, hpR_nil, hpR_cells, hpR_row, idsR_nil, idsR_cons, mtE_v, mtE_sl, mtE_nil, mtE_refl, mtE_row, mtE_born, mtE_ptr, mtE_rp, mtE_agg, mtE_tup, mtE_fn, mtE_ep, MtL_nil, MtL_cons, Mt_v, Mt_sl, Mt_nil, Mt_refl, Mt_row, Mt_born, Mt_ptr, MtO_cells, MtO_row, liveIds, distinct, Dat.v.injEq, Dat.sl.injEq, Value.int.injEq, Value.bool.injEq, Value.string.injEq, lk_cons, lk_nil, subL_nil, subL_cons, upIds, AV.ids, AV.ids.idsL, AObj.ids, Hp.get_cons, get_nil, allCell, AV.cell, vInt, vBool, vStr, id, true_and, and_true, and_self, List.append_nil, List.nil_append, List.not_mem_nil, List.mem_cons, or_false, false_or, or_self, not_true_eq_false, not_false_eq_true, false_imp_iff, false_implies, List.map_nil, not_false_eq_true, List.contains_cons, List.contains_nil, Bool.or_false, Bool.false_or, Bool.true_or, Bool.or_true, Bool.and_true, Bool.true_and, implies_true, if_true, if_false, reduceCtorEq, Nat.reduceEqDiff, Nat.reduceBEq, Nat.reduceAdd, reduceIte, ↓reduceIte]
    try exact ⟨rfl, rfl⟩
  · rintro k ⟨hk, hr⟩
    simp only [bt_sB, Int.toNat_natCast, Int.reduceLE, Int.reduceLT, Int.reduceGT, Int.reduceGE, Int.reduceBEq, Int.reduceBNe, Int.reduceEq, Int.reduceToNat, Int.reduceSub, Int.reduceAdd, Int.reduceMul, Int.reducePow, Int.reduceNeg, goTG_val, goTG_new, goTG_up, goTG_none, goG_none, goG_new, goG_up, ne_eq, evK, evH, retHF, DRun_mk, runT_nil, runT_none, runT_guard, goT_val, goT_new, goT_store, goTH_true, goTH_false, evO, keys, Option.toList_some, Option.toList_none, nzL_nil, nzL_cons, nz_k, nz_sl, nz_nil, nz_agg, startL, evC, evV, goE_val, goE_new, goE_store, goH_true, goH_false, goG_val, lk_cons, lk_nil, lk_func, lk_int, lk_bool, lk_string, lk_slice, lk_agg, look_mk, St.effOf, eff, effCall, effBinC, isConst, effBin, effUn, effConv, effPick, effNil, effFold, fold1, effLoad, effStore, effFieldAddr, effField, fieldOf, sliceOf, effIndexAddr, effIndex, effLen, effExtract, effSlice, dats, bnd, effBuild, placesOf, effBuildSlice, effMakeSlice, effAppend, srcOf, fillA, chunk, seg, toD, toDs, put, eqAV, fieldsEq, leafEq, strip, unw, allB, selP_or, selP_and, tis, TyD.agg, AV.cells, AV.cell, allCell, vInt, vBool, vStr, subL_nil, subL_cons, upIds, AV.ids, AV.ids.idsL, AObj.ids, drops, Hp.get_cons, get_nil, retF, resL, one, fz, fz.fzL, List.map_cons, List.map_nil, List.nil_append, List.append_nil, List.cons_append, List.all_cons, List.all_nil, List.length_cons, List.length_nil, List.getElem?_cons_zero, List.getElem?_cons_succ, List.getD_cons_zero, List.getD_cons_succ, List.take_succ_cons, List.take_zero, List.drop_succ_cons, List.drop_zero, List.take_nil, List.drop_nil, List.contains_cons, List.contains_nil, Option.getD_some, Option.getD_none, Option.map_some, Option.map_none, if_true, if_false, true_and, and_true, and_self, or_self, or_false, false_or, false_and, and_false, reduceCtorEq, sel_and, sel_or, decide_eq_true_eq, Bool.and_eq_true, Bool.or_eq_true, Bool.and_true, Bool.true_and, Bool.or_false, Bool.false_or, Bool.true_or, Bool.or_true, Bool.not_true, Bool.not_false, Bool.false_eq_true, implies_true, not_false_eq_true, Nat.reduceLT, Nat.reduceEqDiff, Nat.reduceAdd, Nat.reduceMul, Nat.reduceMod, Nat.reduceLeDiff, Nat.reduceBEq, Nat.zero_add, Nat.add_zero, reduceIte, ↓reduceIte, List.not_mem_nil]
    refine ⟨fun h => by omega, fun h => by omega, ?_⟩
    by_cases c1 : ((k : Int) < (s.size : Int) ∧ (sB s).getD k 0 ≥ 48) ∧ (sB s).getD k 0 ≤ 57
    · rw [if_pos c1]
      refine ⟨k + 1, by omega, ⟨by omega, ?_⟩, Le.of id [] ?_⟩
      · rw [← hr, runN_step (l := sB s) (k := k) (by omega), if_pos (by unfold digB; rw [decide_eq_true_eq]; omega)]
      · simp only [Mt_tup, Mt_agg, Mt_fn, forall_eq, forall_eq_or_imp, ne_eq, List.all_cons, List.all_nil, pr, Nat.reduceLeDiff, slR_nil, slR_cons, hpR_nil, hpR_cells, hpR_row, idsR_nil, idsR_cons, mtE_v, mtE_sl, mtE_nil, mtE_refl, mtE_row, mtE_born, mtE_ptr, mtE_rp, mtE_agg, mtE_tup, mtE_fn, mtE_ep, MtL_nil, MtL_cons, Mt_v, Mt_sl, Mt_nil, Mt_refl, Mt_row, Mt_born, Mt_ptr, MtO_cells, MtO_row, liveIds, distinct, Dat.v.injEq, Dat.sl.injEq, Value.int.injEq, Value.bool.injEq, Value.string.injEq, lk_cons, lk_nil, subL_nil, subL_cons, upIds, AV.ids, AV.ids.idsL, AObj.ids, Hp.get_cons, get_nil, allCell, AV.cell, vInt, vBool, vStr, id, true_and, and_true, and_self, List.append_nil, List.nil_append, List.not_mem_nil, List.mem_cons, or_false, false_or, or_self, not_true_eq_false, not_false_eq_true, false_imp_iff, false_implies, List.map_nil, not_false_eq_true, List.contains_cons, List.contains_nil, Bool.or_false, Bool.false_or, Bool.true_or, Bool.or_true, Bool.and_true, Bool.true_and, implies_true, if_true, if_false, reduceCtorEq, Nat.reduceEqDiff, Nat.reduceBEq, Nat.reduceAdd, reduceIte, ↓reduceIte]
        rw [w64 (by omega) (by omega)]; omega
    · rw [if_neg c1, ← hr]
      by_cases h1 : k < s.size
      · rw [runN_step (l := sB s) (k := k) (by omega), if_neg (by unfold digB; rw [decide_eq_true_eq]; omega)]
      · rw [runN_end (by omega)]
theorem rrun_calm : ∀ args sc res, F_rrun args = some (sc, res) → sc → Calm Try.prog 28 args res := by
  intro args sc res h hs
  unfold F_rrun at h
  split at h <;> cases h
  rename_i s a
  obtain ⟨h1, h2, h3⟩ := hs
  obtain ⟨k, rfl⟩ := Int.eq_ofNat_of_zero_le h2
  exact (Known.none _).calm mixed rfl rfl (rrun_body s k h1 (by omega))
end Go.Proofs.Ytlhhibhcoefolaa.Eng
