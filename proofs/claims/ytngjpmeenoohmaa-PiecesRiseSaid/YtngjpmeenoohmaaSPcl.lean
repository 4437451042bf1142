/- The laws on pieces, on the small machine. -/
import Derived.Test.YtngjpmeenoohmaaSPcg
import Derived.Test.YtngjpmeenoohmaaEngLaw
namespace Go.Proofs.Ytngjpmeenoohmaa.Eng
open Go Go.Proofs.Ytngjpmeenoohmaa.Base Go.Proofs.Ytngjpmeenoohmaa.Lines
set_option maxRecDepth 100000
set_option linter.unusedSimpArgs false
set_option linter.unusedVariables false
/-- Segments as data: rows of four numbers. -/
def segRow (r : List Dat) : Prop := ∃ a b c d : Int, r = [.v (.int .i64 a), .v (.int .i64 b), .v (.int .i64 c), .v (.int .i64 d)]
theorem segsP_rows (l : List Pc) (src : List Int) : ∀ r ∈ segsP l src, segRow r := fun r hr => by
  obtain ⟨q, _, rfl⟩ := List.mem_map.mp hr
  exact ⟨_, _, _, _, rfl⟩
theorem segsP_len (l : List Pc) (src : List Int) : (segsP l src).length ≤ l.length := by
  have := kept_len src.length l l.length
  rw [List.take_of_length_le (Nat.le_refl _)] at this
  rw [segsP, List.length_map]; exact this
theorem pe_seg : plainEq Try.prog 35 = true := by kernel_rfl
theorem Same_body (a : List (List Dat)) (ha : ∀ r ∈ a, segRow r) (hl : a.length ≤ 1000000000) : Body Try.prog Gam.none (DRun Try.prog Gam.none) 8 [.d (.sl 4 a), .d (.sl 4 a)] (vBool true) := by
  refine Body.of Try.func8 Try.ntmps8 (by kernel_rfl) rfl rfl rfl ?_
  simp only [List.length_map, goTG_val, goTG_new, goTG_up, goTG_none, goG_none, goG_new, goG_up, ne_eq, evK, evH, retHF, DRun_mk, runT_nil, runT_none, runT_guard, goT_val, goT_new, goT_store, goTH_true, goTH_false, evO, keys, Option.toList_some, Option.toList_none, nzL_nil, nzL_cons, nz_k, nz_sl, nz_nil, nz_agg, startL, evC, evV, goE_val, goE_new, goE_store, goH_true, goH_false, goG_val, lk_cons, lk_nil, lk_func, lk_int, lk_bool, lk_string, lk_slice, lk_agg, look_mk, St.effOf, eff, effCall, effBin, effUn, effConv, effPick, effNil, effFold, fold1, effLoad, effStore, effFieldAddr, effField, fieldOf, sliceOf, effIndexAddr, effIndex, effLen, effExtract, effSlice, bnd, effBuild, placesOf, effBuildSlice, effMakeSlice, effAppend, srcOf, fillA, chunk, seg, toD, toDs, put, eqAV, fieldsEq, leafEq, strip, unw, allB, selP_or, selP_and, tis, TyD.agg, AV.cells, AV.cell, allCell, vInt, vBool, vStr, subL_nil, subL_cons, upIds, AV.ids, AV.ids.idsL, AObj.ids, drops, Hp.get_cons, get_nil, retF, resL, one, fz, fz.fzL, List.map_cons, List.map_nil, List.nil_append, List.append_nil, List.cons_append, List.all_cons, List.all_nil, List.length_cons, List.length_nil, List.getElem?_cons_zero, List.getElem?_cons_succ, List.getD_cons_zero, List.getD_cons_succ, List.take_succ_cons, List.take_zero, List.drop_succ_cons, List.drop_zero, List.take_nil, List.drop_nil, List.contains_cons, List.contains_nil, Option.getD_some, Option.getD_none, Option.map_some, Option.map_none, if_true, if_false, true_and, and_true, and_self, or_self, or_false, false_or, false_and, and_false, reduceCtorEq, sel_and, sel_or, decide_eq_true_eq, Bool.and_eq_true, Bool.or_eq_true, Bool.and_true, Bool.true_and, Bool.or_false, Bool.false_or, Bool.true_or, Bool.or_true, Bool.not_true, Bool.not_false, Bool.false_eq_true, implies_true, not_false_eq_true, Nat.reduceLT, Nat.reduceEqDiff, Nat.reduceAdd, Nat.reduceMul, Nat.reduceMod, Nat.reduceLeDiff, Nat.reduceBEq, Nat.zero_add, Nat.add_zero, reduceIte, ↓reduceIte, List.not_mem_nil]
  rw [if_neg (by simp)]
  refine wpc_loop (fun j : Nat => ⟨26, [], [(0, .d (.sl 4 a)), (1, .d (.sl 4 a)), (5, vInt .i64 j)], []⟩) (fun j => j ≤ a.length) (fun j => a.length - j) 0 (Nat.zero_le _) ?_ ?_
  · refine Le.of id [] ?_
    simp only [Mt_tup, Mt_agg, Mt_fn, forall_eq, forall_eq_or_imp, ne_eq, List.all_cons, List.all_nil, pr, Nat.reduceLeDiff, slR_nil, slR_cons, hpR_nil, hpR_cells, hpR_row, idsR_nil, idsR_cons, mtE_v, mtE_sl, mtE_nil, mtE_refl, mtE_row, mtE_born, mtE_ptr, mtE_rp, mtE_agg, mtE_tup, mtE_fn, mtE_ep, MtL_nil, MtL_cons, Mt_v, Mt_sl, Mt_nil, Mt_refl, Mt_row, Mt_born, Mt_ptr, MtO_cells, MtO_row, liveIds, distinct, Dat.v.injEq, Dat.sl.injEq, Value.int.injEq, Value.bool.injEq, Value.string.injEq, lk_cons, lk_nil, subL_nil, subL_cons, upIds, AV.ids, AV.ids.idsL, AObj.ids, Hp.get_cons, get_nil, allCell, AV.cell, vInt, vBool, vStr, id, true_and, and_true, and_self, List.append_nil, List.nil_append, List.not_mem_nil, List.mem_cons, or_false, false_or, or_self, not_true_eq_false, not_false_eq_true, false_imp_iff, false_implies, List.map_nil, not_false_eq_true, List.contains_cons, List.contains_nil, Bool.or_false, Bool.false_or, Bool.true_or, Bool.or_true, Bool.and_true, Bool.true_and, implies_true, if_true, if_false, reduceCtorEq, Nat.reduceEqDiff, Nat.reduceBEq, Nat.reduceAdd, reduceIte, ↓reduceIte]
    rfl
  · intro j hj
    by_cases hj2 : (j : Int) < a.length
    · obtain ⟨r, hr⟩ : ∃ r, a[j]? = some r := ⟨_, List.getElem?_eq_getElem (by omega)⟩
      have hg : ∀ z, a.getD (j : Int).toNat z = r := fun z => by rw [Int.toNat_natCast, List.getD_eq_getElem?_getD, hr]; rfl
      obtain ⟨x, y, z, t, rfl⟩ := ha r (List.mem_of_getElem? hr)
      simp only [hg, pe_seg, List.length_map, goTG_val, goTG_new, goTG_up, goTG_none, goG_none, goG_new, goG_up, ne_eq, evK, evH, retHF, DRun_mk, runT_nil, runT_none, runT_guard, goT_val, goT_new, goT_store, goTH_true, goTH_false, evO, keys, Option.toList_some, Option.toList_none, nzL_nil, nzL_cons, nz_k, nz_sl, nz_nil, nz_agg, startL, evC, evV, goE_val, goE_new, goE_store, goH_true, goH_false, goG_val, lk_cons, lk_nil, lk_func, lk_int, lk_bool, lk_string, lk_slice, lk_agg, look_mk, St.effOf, eff, effCall, effBin, effUn, effConv, effPick, effNil, effFold, fold1, effLoad, effStore, effFieldAddr, effField, fieldOf, sliceOf, effIndexAddr, effIndex, effLen, effExtract, effSlice, bnd, effBuild, placesOf, effBuildSlice, effMakeSlice, effAppend, srcOf, fillA, chunk, seg, toD, toDs, put, eqAV, fieldsEq, leafEq, strip, unw, allB, selP_or, selP_and, tis, TyD.agg, AV.cells, AV.cell, allCell, vInt, vBool, vStr, subL_nil, subL_cons, upIds, AV.ids, AV.ids.idsL, AObj.ids, drops, Hp.get_cons, get_nil, retF, resL, one, fz, fz.fzL, List.map_cons, List.map_nil, List.nil_append, List.append_nil, List.cons_append, List.all_cons, List.all_nil, List.length_cons, List.length_nil, List.getElem?_cons_zero, List.getElem?_cons_succ, List.getD_cons_zero, List.getD_cons_succ, List.take_succ_cons, List.take_zero, List.drop_succ_cons, List.drop_zero, List.take_nil, List.drop_nil, List.contains_cons, List.contains_nil, Option.getD_some, Option.getD_none, Option.map_some, Option.map_none, if_true, if_false, true_and, and_true, and_self, or_self, or_false, false_or, false_and, and_false, reduceCtorEq, sel_and, sel_or, decide_eq_true_eq, Bool.and_eq_true, Bool.or_eq_true, Bool.and_true, Bool.true_and, Bool.or_false, Bool.false_or, Bool.true_or, Bool.or_true, Bool.not_true, Bool.not_false, Bool.false_eq_true, implies_true, not_false_eq_true, Nat.reduceLT, Nat.reduceEqDiff, Nat.reduceAdd, Nat.reduceMul, Nat.reduceMod, Nat.reduceLeDiff, Nat.reduceBEq, Nat.zero_add, Nat.add_zero, reduceIte, ↓reduceIte, List.not_mem_nil]
      rw [if_pos hj2]
      refine ⟨by omega, by omega, by kernel_rfl, ?_⟩
      rw [if_neg (by simp)]
      refine ⟨j + 1, by omega, by omega, Le.of id [] ?_⟩
      simp only [Mt_tup, Mt_agg, Mt_fn, forall_eq, forall_eq_or_imp, ne_eq, List.all_cons, List.all_nil, pr, Nat.reduceLeDiff, slR_nil, slR_cons, hpR_nil, hpR_cells, hpR_row, idsR_nil, idsR_cons, mtE_v, mtE_sl, mtE_nil, mtE_refl, mtE_row, mtE_born, mtE_ptr, mtE_rp, mtE_agg, mtE_tup, mtE_fn, mtE_ep, MtL_nil, MtL_cons, Mt_v, Mt_sl, Mt_nil, Mt_refl, Mt_row, Mt_born, Mt_ptr, MtO_cells, MtO_row, liveIds, distinct, Dat.v.injEq, Dat.sl.injEq, Value.int.injEq, Value.bool.injEq, Value.string.injEq, lk_cons, lk_nil, subL_nil, subL_cons, upIds, AV.ids, AV.ids.idsL, AObj.ids, Hp.get_cons, get_nil, allCell, AV.cell, vInt, vBool, vStr, id, true_and, and_true, and_self, List.append_nil, List.nil_append, List.not_mem_nil, List.mem_cons, or_false, false_or, or_self, not_true_eq_false, not_false_eq_true, false_imp_iff, false_implies, List.map_nil, not_false_eq_true, List.contains_cons, List.contains_nil, Bool.or_false, Bool.false_or, Bool.true_or, Bool.or_true, Bool.and_true, Bool.true_and, implies_true, if_true, if_false, reduceCtorEq, Nat.reduceEqDiff, Nat.reduceBEq, Nat.reduceAdd, reduceIte, ↓reduceIte]
      exact w64 (by omega) (by omega)
    · simp only [List.length_map, goTG_val, goTG_new, goTG_up, goTG_none, goG_none, goG_new, goG_up, ne_eq, evK, evH, retHF, DRun_mk, runT_nil, runT_none, runT_guard, goT_val, goT_new, goT_store, goTH_true, goTH_false, evO, keys, Option.toList_some, Option.toList_none, nzL_nil, nzL_cons, nz_k, nz_sl, nz_nil, nz_agg, startL, evC, evV, goE_val, goE_new, goE_store, goH_true, goH_false, goG_val, lk_cons, lk_nil, lk_func, lk_int, lk_bool, lk_string, lk_slice, lk_agg, look_mk, St.effOf, eff, effCall, effBin, effUn, effConv, effPick, effNil, effFold, fold1, effLoad, effStore, effFieldAddr, effField, fieldOf, sliceOf, effIndexAddr, effIndex, effLen, effExtract, effSlice, bnd, effBuild, placesOf, effBuildSlice, effMakeSlice, effAppend, srcOf, fillA, chunk, seg, toD, toDs, put, eqAV, fieldsEq, leafEq, strip, unw, allB, selP_or, selP_and, tis, TyD.agg, AV.cells, AV.cell, allCell, vInt, vBool, vStr, subL_nil, subL_cons, upIds, AV.ids, AV.ids.idsL, AObj.ids, drops, Hp.get_cons, get_nil, retF, resL, one, fz, fz.fzL, List.map_cons, List.map_nil, List.nil_append, List.append_nil, List.cons_append, List.all_cons, List.all_nil, List.length_cons, List.length_nil, List.getElem?_cons_zero, List.getElem?_cons_succ, List.getD_cons_zero, List.getD_cons_succ, List.take_succ_cons, List.take_zero, List.drop_succ_cons, List.drop_zero, List.take_nil, List.drop_nil, List.contains_cons, List.contains_nil, Option.getD_some, Option.getD_none, Option.map_some, Option.map_none, if_true, if_false, true_and, and_true, and_self, or_self, or_false, false_or, false_and, and_false, reduceCtorEq, sel_and, sel_or, decide_eq_true_eq, Bool.and_eq_true, Bool.or_eq_true, Bool.and_true, Bool.true_and, Bool.or_false, Bool.false_or, Bool.true_or, Bool.or_true, Bool.not_true, Bool.not_false, Bool.false_eq_true, implies_true, not_false_eq_true, Nat.reduceLT, Nat.reduceEqDiff, Nat.reduceAdd, Nat.reduceMul, Nat.reduceMod, Nat.reduceLeDiff, Nat.reduceBEq, Nat.zero_add, Nat.add_zero, reduceIte, ↓reduceIte, List.not_mem_nil]
      rw [if_neg hj2]
def F_same : List AV → Option (Prop × AV)
  | [.d (.sl 4 xs), .d (.sl 4 ys)] => some ((∀ r ∈ xs, segRow r) ∧ xs.length ≤ 1000000000 ∧ xs = ys, vBool true)
  | _ => none
theorem same_calm : ∀ args sc res, F_same args = some (sc, res) → sc → Calm Try.prog 8 args res := by
  intro args sc res h hs
  unfold F_same at h
  split at h <;> cases h
  obtain ⟨h1, h2, rfl⟩ := hs
  exact (Known.none _).calm mixed rfl rfl (Same_body _ h1 h2)
theorem Few_body (l : List Pc) (hl : l.length ≤ 1048576) (hs : totP l ≤ 1048576) : Body Try.prog Gam.none (DRun Try.prog Gam.none) 7 [.d (pcsD l)] (vBool (decide ((totP l + l.length : Nat) ≤ (400 : Int)))) := by
  refine Body.of Try.func7 Try.ntmps7 (by kernel_rfl) rfl rfl rfl ?_
  simp only [pcsD, List.length_map, goTG_val, goTG_new, goTG_up, goTG_none, goG_none, goG_new, goG_up, ne_eq, evK, evH, retHF, DRun_mk, runT_nil, runT_none, runT_guard, goT_val, goT_new, goT_store, goTH_true, goTH_false, evO, keys, Option.toList_some, Option.toList_none, nzL_nil, nzL_cons, nz_k, nz_sl, nz_nil, nz_agg, startL, evC, evV, goE_val, goE_new, goE_store, goH_true, goH_false, goG_val, lk_cons, lk_nil, lk_func, lk_int, lk_bool, lk_string, lk_slice, lk_agg, look_mk, St.effOf, eff, effCall, effBin, effUn, effConv, effPick, effNil, effFold, fold1, effLoad, effStore, effFieldAddr, effField, fieldOf, sliceOf, effIndexAddr, effIndex, effLen, effExtract, effSlice, bnd, effBuild, placesOf, effBuildSlice, effMakeSlice, effAppend, srcOf, fillA, chunk, seg, toD, toDs, put, eqAV, fieldsEq, leafEq, strip, unw, allB, selP_or, selP_and, tis, TyD.agg, AV.cells, AV.cell, allCell, vInt, vBool, vStr, subL_nil, subL_cons, upIds, AV.ids, AV.ids.idsL, AObj.ids, drops, Hp.get_cons, get_nil, retF, resL, one, fz, fz.fzL, List.map_cons, List.map_nil, List.nil_append, List.append_nil, List.cons_append, List.all_cons, List.all_nil, List.length_cons, List.length_nil, List.getElem?_cons_zero, List.getElem?_cons_succ, List.getD_cons_zero, List.getD_cons_succ, List.take_succ_cons, List.take_zero, List.drop_succ_cons, List.drop_zero, List.take_nil, List.drop_nil, List.contains_cons, List.contains_nil, Option.getD_some, Option.getD_none, Option.map_some, Option.map_none, if_true, if_false, true_and, and_true, and_self, or_self, or_false, false_or, false_and, and_false, reduceCtorEq, sel_and, sel_or, decide_eq_true_eq, Bool.and_eq_true, Bool.or_eq_true, Bool.and_true, Bool.true_and, Bool.or_false, Bool.false_or, Bool.true_or, Bool.or_true, Bool.not_true, Bool.not_false, Bool.false_eq_true, implies_true, not_false_eq_true, Nat.reduceLT, Nat.reduceEqDiff, Nat.reduceAdd, Nat.reduceMul, Nat.reduceMod, Nat.reduceLeDiff, Nat.reduceBEq, Nat.zero_add, Nat.add_zero, reduceIte, ↓reduceIte, List.not_mem_nil]
  refine wpc_loop (fun j : Nat => ⟨22, [], [(0, .d (pcsD l)), (3, vInt .i64 ((totP (l.take j) + j : Nat) : Int)), (4, vInt .i64 j)], []⟩) (fun j => j ≤ l.length) (fun j => l.length - j) 0 (Nat.zero_le _) ?_ ?_
  · refine Le.of id [] ?_
    simp only [pcsD, List.take_zero, totP, Mt_tup, Mt_agg, Mt_fn, forall_eq, forall_eq_or_imp, ne_eq, List.all_cons, List.all_nil, pr, Nat.reduceLeDiff, slR_nil, slR_cons, hpR_nil, hpR_cells, hpR_row, idsR_nil, idsR_cons, mtE_v, mtE_sl, mtE_nil, mtE_refl, mtE_row, mtE_born, mtE_ptr, mtE_rp, mtE_agg, mtE_tup, mtE_fn, mtE_ep, MtL_nil, MtL_cons, Mt_v, Mt_sl, Mt_nil, Mt_refl, Mt_row, Mt_born, Mt_ptr, MtO_cells, MtO_row, liveIds, distinct, Dat.v.injEq, Dat.sl.injEq, Value.int.injEq, Value.bool.injEq, Value.string.injEq, lk_cons, lk_nil, subL_nil, subL_cons, upIds, AV.ids, AV.ids.idsL, AObj.ids, Hp.get_cons, get_nil, allCell, AV.cell, vInt, vBool, vStr, id, true_and, and_true, and_self, List.append_nil, List.nil_append, List.not_mem_nil, List.mem_cons, or_false, false_or, or_self, not_true_eq_false, not_false_eq_true, false_imp_iff, false_implies, List.map_nil, not_false_eq_true, List.contains_cons, List.contains_nil, Bool.or_false, Bool.false_or, Bool.true_or, Bool.or_true, Bool.and_true, Bool.true_and, implies_true, if_true, if_false, reduceCtorEq, Nat.reduceEqDiff, Nat.reduceBEq, Nat.reduceAdd, reduceIte, ↓reduceIte]
    first | rfl | exact ⟨rfl, rfl⟩
  · intro j hj
    by_cases hj2 : (j : Int) < l.length
    · obtain ⟨p, hp⟩ : ∃ p, l[j]? = some p := ⟨_, List.getElem?_eq_getElem (by omega)⟩
      have hg : ∀ z, (l.map pcD).getD (j : Int).toNat z = pcD p := getD_map hp
      have h1 := totP_take l (j + 1)
      rw [take_at hp, totP_snoc] at h1
      simp only [pcsD, hg, pcD, List.length_map, goTG_val, goTG_new, goTG_up, goTG_none, goG_none, goG_new, goG_up, ne_eq, evK, evH, retHF, DRun_mk, runT_nil, runT_none, runT_guard, goT_val, goT_new, goT_store, goTH_true, goTH_false, evO, keys, Option.toList_some, Option.toList_none, nzL_nil, nzL_cons, nz_k, nz_sl, nz_nil, nz_agg, startL, evC, evV, goE_val, goE_new, goE_store, goH_true, goH_false, goG_val, lk_cons, lk_nil, lk_func, lk_int, lk_bool, lk_string, lk_slice, lk_agg, look_mk, St.effOf, eff, effCall, effBin, effUn, effConv, effPick, effNil, effFold, fold1, effLoad, effStore, effFieldAddr, effField, fieldOf, sliceOf, effIndexAddr, effIndex, effLen, effExtract, effSlice, bnd, effBuild, placesOf, effBuildSlice, effMakeSlice, effAppend, srcOf, fillA, chunk, seg, toD, toDs, put, eqAV, fieldsEq, leafEq, strip, unw, allB, selP_or, selP_and, tis, TyD.agg, AV.cells, AV.cell, allCell, vInt, vBool, vStr, subL_nil, subL_cons, upIds, AV.ids, AV.ids.idsL, AObj.ids, drops, Hp.get_cons, get_nil, retF, resL, one, fz, fz.fzL, List.map_cons, List.map_nil, List.nil_append, List.append_nil, List.cons_append, List.all_cons, List.all_nil, List.length_cons, List.length_nil, List.getElem?_cons_zero, List.getElem?_cons_succ, List.getD_cons_zero, List.getD_cons_succ, List.take_succ_cons, List.take_zero, List.drop_succ_cons, List.drop_zero, List.take_nil, List.drop_nil, List.contains_cons, List.contains_nil, Option.getD_some, Option.getD_none, Option.map_some, Option.map_none, if_true, if_false, true_and, and_true, and_self, or_self, or_false, false_or, false_and, and_false, reduceCtorEq, sel_and, sel_or, decide_eq_true_eq, Bool.and_eq_true, Bool.or_eq_true, Bool.and_true, Bool.true_and, Bool.or_false, Bool.false_or, Bool.true_or, Bool.or_true, Bool.not_true, Bool.not_false, Bool.false_eq_true, implies_true, not_false_eq_true, Nat.reduceLT, Nat.reduceEqDiff, Nat.reduceAdd, Nat.reduceMul, Nat.reduceMod, Nat.reduceLeDiff, Nat.reduceBEq, Nat.zero_add, Nat.add_zero, reduceIte, ↓reduceIte, List.not_mem_nil]
      rw [if_pos hj2]
      refine ⟨by omega, j + 1, by omega, by omega, Le.of id [] ?_⟩
      simp only [pcsD, take_at hp, totP_snoc, Mt_tup, Mt_agg, Mt_fn, forall_eq, forall_eq_or_imp, ne_eq, List.all_cons, List.all_nil, pr, Nat.reduceLeDiff, slR_nil, slR_cons, hpR_nil, hpR_cells, hpR_row, idsR_nil, idsR_cons, mtE_v, mtE_sl, mtE_nil, mtE_refl, mtE_row, mtE_born, mtE_ptr, mtE_rp, mtE_agg, mtE_tup, mtE_fn, mtE_ep, MtL_nil, MtL_cons, Mt_v, Mt_sl, Mt_nil, Mt_refl, Mt_row, Mt_born, Mt_ptr, MtO_cells, MtO_row, liveIds, distinct, Dat.v.injEq, Dat.sl.injEq, Value.int.injEq, Value.bool.injEq, Value.string.injEq, lk_cons, lk_nil, subL_nil, subL_cons, upIds, AV.ids, AV.ids.idsL, AObj.ids, Hp.get_cons, get_nil, allCell, AV.cell, vInt, vBool, vStr, id, true_and, and_true, and_self, List.append_nil, List.nil_append, List.not_mem_nil, List.mem_cons, or_false, false_or, or_self, not_true_eq_false, not_false_eq_true, false_imp_iff, false_implies, List.map_nil, not_false_eq_true, List.contains_cons, List.contains_nil, Bool.or_false, Bool.false_or, Bool.true_or, Bool.or_true, Bool.and_true, Bool.true_and, implies_true, if_true, if_false, reduceCtorEq, Nat.reduceEqDiff, Nat.reduceBEq, Nat.reduceAdd, reduceIte, ↓reduceIte]
      rw [w64 (n := ((totP (l.take j) + j : Nat) : Int) + 1) (by omega) (by omega), w64 (by omega) (by omega), w64 (by omega) (by omega)]
      omega
    · simp only [pcsD, List.length_map, goTG_val, goTG_new, goTG_up, goTG_none, goG_none, goG_new, goG_up, ne_eq, evK, evH, retHF, DRun_mk, runT_nil, runT_none, runT_guard, goT_val, goT_new, goT_store, goTH_true, goTH_false, evO, keys, Option.toList_some, Option.toList_none, nzL_nil, nzL_cons, nz_k, nz_sl, nz_nil, nz_agg, startL, evC, evV, goE_val, goE_new, goE_store, goH_true, goH_false, goG_val, lk_cons, lk_nil, lk_func, lk_int, lk_bool, lk_string, lk_slice, lk_agg, look_mk, St.effOf, eff, effCall, effBin, effUn, effConv, effPick, effNil, effFold, fold1, effLoad, effStore, effFieldAddr, effField, fieldOf, sliceOf, effIndexAddr, effIndex, effLen, effExtract, effSlice, bnd, effBuild, placesOf, effBuildSlice, effMakeSlice, effAppend, srcOf, fillA, chunk, seg, toD, toDs, put, eqAV, fieldsEq, leafEq, strip, unw, allB, selP_or, selP_and, tis, TyD.agg, AV.cells, AV.cell, allCell, vInt, vBool, vStr, subL_nil, subL_cons, upIds, AV.ids, AV.ids.idsL, AObj.ids, drops, Hp.get_cons, get_nil, retF, resL, one, fz, fz.fzL, List.map_cons, List.map_nil, List.nil_append, List.append_nil, List.cons_append, List.all_cons, List.all_nil, List.length_cons, List.length_nil, List.getElem?_cons_zero, List.getElem?_cons_succ, List.getD_cons_zero, List.getD_cons_succ, List.take_succ_cons, List.take_zero, List.drop_succ_cons, List.drop_zero, List.take_nil, List.drop_nil, List.contains_cons, List.contains_nil, Option.getD_some, Option.getD_none, Option.map_some, Option.map_none, if_true, if_false, true_and, and_true, and_self, or_self, or_false, false_or, false_and, and_false, reduceCtorEq, sel_and, sel_or, decide_eq_true_eq, Bool.and_eq_true, Bool.or_eq_true, Bool.and_true, Bool.true_and, Bool.or_false, Bool.false_or, Bool.true_or, Bool.or_true, Bool.not_true, Bool.not_false, Bool.false_eq_true, implies_true, not_false_eq_true, Nat.reduceLT, Nat.reduceEqDiff, Nat.reduceAdd, Nat.reduceMul, Nat.reduceMod, Nat.reduceLeDiff, Nat.reduceBEq, Nat.zero_add, Nat.add_zero, reduceIte, ↓reduceIte, List.not_mem_nil]
      obtain rfl : j = l.length := by omega
      rw [if_neg hj2, List.take_of_length_le (Nat.le_refl _)]
def F_Few : List AV → Option (Prop × AV)
  | [.d (.sl 2 xs)] => some (xs = (xs.map pcOf).map pcD ∧ xs.length ≤ 1048576 ∧ totP (xs.map pcOf) ≤ 1048576, vBool (decide ((totP (xs.map pcOf) + (xs.map pcOf).length : Nat) ≤ (400 : Int))))
  | _ => none
theorem Few_calm : ∀ args sc res, F_Few args = some (sc, res) → sc → Calm Try.prog 7 args res := by
  intro args sc res h hs
  unfold F_Few at h
  split at h <;> cases h
  rename_i xs
  obtain ⟨h1, h2, h3⟩ := hs
  have hb := Few_body (xs.map pcOf) (by simpa using h2) h3
  rw [pcsD, ← h1] at hb
  exact (Known.none _).calm mixed rfl rfl hb
noncomputable def G_al : Gam := Gam.none.add 9 fun a => F_Seg (NT.nz.nzL [.s 2, .s 1] a)
theorem known_al : Known Try.prog G_al := (Known.none _).addC _ PSeg_calm
theorem G_al_at (h : Nat → Option AObj) (d : Nat) (a : List AV) : G_al 9 h d a = calmE (fun a => F_Seg (NT.nz.nzL [.s 2, .s 1] a)) h a := rfl
theorem alive_body : Body Try.prog G_al (DRun Try.prog G_al) 6 [] (vBool true) := by
  refine Body.of Try.func6 Try.ntmps6 (by kernel_rfl) rfl rfl rfl ?_
  have hb : Bytes [120, 10, 121] := by intro x hx; simp at hx; omega
  have k0 : kept 3 [(⟨#[10]⟩, -1), (⟨#[97]⟩, 2)] = [(1, 2)] := by
    have n1 : ¬ Kp 3 (⟨#[10]⟩, -1) := fun h => absurd h.1.2 (by decide)
    have n2 : Kp 3 (⟨#[97]⟩, 2) := ⟨⟨by decide +kernel, by decide⟩, by decide⟩
    simp only [kept, List.length_cons, List.length_nil, List.range_succ, List.range_zero, List.nil_append, List.cons_append, List.filterMap_cons, List.filterMap_nil, List.getElem?_cons_zero, List.getElem?_cons_succ, if_neg n1, if_pos n2]
    rfl
  have e1 : segsP [(⟨#[10]⟩, -1), (⟨#[97]⟩, 2)] [120, 10, 121] = [[.v (.int .i64 1), .v (.int .i64 0), .v (.int .i64 1), .v (.int .i64 0)]] := by
    rw [segsP, show ([120, 10, 121] : List Int).length = 3 from rfl, k0]
    simp only [List.map_cons, List.map_nil]
    have p1 : plc (nB (wholeP [(⟨#[10]⟩, -1), (⟨#[97]⟩, 2)])) 1 = (1, 0) := by decide
    have p2 : plc [120, 10, 121] 2 = (1, 0) := by decide
    rw [p1, p2]; rfl
  have e0 : segsP [] [] = [] := rfl
  have r1 := pcOf_map [(⟨#[10]⟩, -1), (⟨#[97]⟩, 2)]
  simp only [G_al_at, calmE, F_Seg, AV.flat, AV.flat.flatL, pe_seg, numOf, pcOf, iD, pcD, e0, e1, Int.reduceToNat, beq_self_eq_true, Int.reduceBEq, show ((0 : Nat) : Int) = 0 from rfl, show ((1 : Nat) : Int) = 1 from rfl, List.length_map, goTG_val, goTG_new, goTG_up, goTG_none, goG_none, goG_new, goG_up, ne_eq, evK, evH, retHF, DRun_mk, runT_nil, runT_none, runT_guard, goT_val, goT_new, goT_store, goTH_true, goTH_false, evO, keys, Option.toList_some, Option.toList_none, nzL_nil, nzL_cons, nz_k, nz_sl, nz_nil, nz_agg, startL, evC, evV, goE_val, goE_new, goE_store, goH_true, goH_false, goG_val, lk_cons, lk_nil, lk_func, lk_int, lk_bool, lk_string, lk_slice, lk_agg, look_mk, St.effOf, eff, effCall, effBin, effUn, effConv, effPick, effNil, effFold, fold1, effLoad, effStore, effFieldAddr, effField, fieldOf, sliceOf, effIndexAddr, effIndex, effLen, effExtract, effSlice, bnd, effBuild, placesOf, effBuildSlice, effMakeSlice, effAppend, srcOf, fillA, chunk, seg, toD, toDs, put, eqAV, fieldsEq, leafEq, strip, unw, allB, selP_or, selP_and, tis, TyD.agg, AV.cells, AV.cell, allCell, vInt, vBool, vStr, subL_nil, subL_cons, upIds, AV.ids, AV.ids.idsL, AObj.ids, drops, Hp.get_cons, get_nil, retF, resL, one, fz, fz.fzL, List.map_cons, List.map_nil, List.nil_append, List.append_nil, List.cons_append, List.all_cons, List.all_nil, List.length_cons, List.length_nil, List.getElem?_cons_zero, List.getElem?_cons_succ, List.getD_cons_zero, List.getD_cons_succ, List.take_succ_cons, List.take_zero, List.drop_succ_cons, List.drop_zero, List.take_nil, List.drop_nil, List.contains_cons, List.contains_nil, Option.getD_some, Option.getD_none, Option.map_some, Option.map_none, if_true, if_false, true_and, and_true, and_self, or_self, or_false, false_or, false_and, and_false, reduceCtorEq, sel_and, sel_or, decide_eq_true_eq, Bool.and_eq_true, Bool.or_eq_true, Bool.and_true, Bool.true_and, Bool.or_false, Bool.false_or, Bool.true_or, Bool.or_true, Bool.not_true, Bool.not_false, Bool.false_eq_true, implies_true, not_false_eq_true, Nat.reduceLT, Nat.reduceEqDiff, Nat.reduceAdd, Nat.reduceMul, Nat.reduceMod, Nat.reduceLeDiff, Nat.reduceBEq, Nat.zero_add, Nat.add_zero, reduceIte, ↓reduceIte, List.not_mem_nil]
  exact ⟨⟨by decide, hb⟩, ⟨by decide, Bytes.nil⟩, fun _ => by decide, Sub.refl _⟩
theorem alive_calm : Calm Try.prog 6 [] (vBool true) := known_al.calm mixed rfl rfl alive_body
def F_alive : List AV → Option (Prop × AV)
  | [] => some (True, vBool true)
  | _ => none
noncomputable def G23 : Gam := (((((Gam.none).add 6 fun a => F_alive (NT.nz.nzL [] a)).add 7 fun a => F_Few (NT.nz.nzL [.s 2] a)).add 9 fun a => F_Seg (NT.nz.nzL [.s 2, .s 1] a)).add 10 fun a => F_Seg (NT.nz.nzL [.s 2, .s 1] a)).add 8 fun a => F_same (NT.nz.nzL [.s 4, .s 4] a)
theorem known23 : Known Try.prog G23 := ((((((Known.none _)).addC _ (fun args sc res h _ => by
    unfold F_alive at h
    split at h <;> cases h
    exact alive_calm)).addC _ Few_calm).addC _ PSeg_calm).addC _ RSeg_calm).addC _ same_calm
theorem G23_at : (∀ h d a, G23 6 h d a = calmE (fun a => F_alive (NT.nz.nzL [] a)) h a) ∧ (∀ h d a, G23 7 h d a = calmE (fun a => F_Few (NT.nz.nzL [.s 2] a)) h a) ∧ (∀ h d a, G23 9 h d a = calmE (fun a => F_Seg (NT.nz.nzL [.s 2, .s 1] a)) h a) ∧ (∀ h d a, G23 10 h d a = calmE (fun a => F_Seg (NT.nz.nzL [.s 2, .s 1] a)) h a) ∧ (∀ h d a, G23 8 h d a = calmE (fun a => F_same (NT.nz.nzL [.s 4, .s 4] a)) h a) := ⟨fun _ _ _ => rfl, fun _ _ _ => rfl, fun _ _ _ => rfl, fun _ _ _ => rfl, fun _ _ _ => rfl⟩
theorem encT33 (f : Nat) : IsEnc Try.prog f 33 (fun p : Pc => p.1.size ≤ maxLen ∧ (Lit.int .i64 p.2).wf = true) (fun p => pcD p) := by
  intro H enc W spare held cs r h
  obtain ⟨xs, h1, h2, h3⟩ := enc_struct (l := [(1, _), (1, _)]) Try.underlying33 (by kernel_rfl) (fun g hg => ⟨rfl, by kernel_rfl, (enc_string Try.underlying9).sub (fun _ => rfl), rfl, by kernel_rfl, (enc_int Try.underlying3).sub (fun _ => rfl), trivial⟩) H enc W spare held cs r h
  match xs, h1 with
  | [a, b], _ =>
    obtain ⟨-, t, ht, ha⟩ := h2 0 a _ rfl rfl
    obtain ⟨-, k, hk, hb⟩ := h2 1 b _ rfl rfl
    subst ha hb
    exact ⟨(t, k), ⟨ht, hk⟩, h3⟩
theorem pcs_bulk (l : List Pc) : rowsB (l.map pcD) = totP l + 2 * l.length := by
  induction l with
  | nil => rfl
  | cons p l ih => simp only [List.map_cons, rowsB, ih, pcD, cellsB, datB, totP, List.length_cons]; omega
theorem bytes_bulk (l : List Int) : rowsB (l.map (iD .u8)) = l.length := by
  induction l with
  | nil => rfl
  | cons p l ih => simp only [List.map_cons, rowsB, ih, iD, cellsB, datB, List.length_cons]; omega
theorem PiecesTell_body (l : List Pc) (src : List Int) (h1 : l.length ≤ maxLen ∧ ∀ x ∈ l, x.1.size ≤ maxLen ∧ (Lit.int .i64 x.2).wf = true) (h2 : src.length ≤ maxLen ∧ ∀ x ∈ src, (Lit.int .u8 x).wf = true) (hB : cellsB [.sl 2 (l.map pcD)] + cellsB [.sl 1 (src.map (iD .u8))] ≤ 1048576) : Body Try.prog G23 (DRun Try.prog G23) 3 [.d (pcsD l), .d (bytesD src)] (vBool true) := by
  refine Body.of Try.func3 Try.ntmps3 (by kernel_rfl) rfl rfl rfl ?_
  simp only [cellsB, datB, pcs_bulk, bytes_bulk] at hB
  have hb := Bytes.of_wf h2.2
  simp only [pcsD, bytesD, pcOf_map, G23_at, calmE, F_alive, F_Few, F_Seg, F_same, AV.flat, AV.flat.flatL, getD_iD, iD, num_iD, List.length_map, goTG_val, goTG_new, goTG_up, goTG_none, goG_none, goG_new, goG_up, ne_eq, evK, evH, retHF, DRun_mk, runT_nil, runT_none, runT_guard, goT_val, goT_new, goT_store, goTH_true, goTH_false, evO, keys, Option.toList_some, Option.toList_none, nzL_nil, nzL_cons, nz_k, nz_sl, nz_nil, nz_agg, startL, evC, evV, goE_val, goE_new, goE_store, goH_true, goH_false, goG_val, lk_cons, lk_nil, lk_func, lk_int, lk_bool, lk_string, lk_slice, lk_agg, look_mk, St.effOf, eff, effCall, effBin, effUn, effConv, effPick, effNil, effFold, fold1, effLoad, effStore, effFieldAddr, effField, fieldOf, sliceOf, effIndexAddr, effIndex, effLen, effExtract, effSlice, bnd, effBuild, placesOf, effBuildSlice, effMakeSlice, effAppend, srcOf, fillA, chunk, seg, toD, toDs, put, eqAV, fieldsEq, leafEq, strip, unw, allB, selP_or, selP_and, tis, TyD.agg, AV.cells, AV.cell, allCell, vInt, vBool, vStr, subL_nil, subL_cons, upIds, AV.ids, AV.ids.idsL, AObj.ids, drops, Hp.get_cons, get_nil, retF, resL, one, fz, fz.fzL, List.map_cons, List.map_nil, List.nil_append, List.append_nil, List.cons_append, List.all_cons, List.all_nil, List.length_cons, List.length_nil, List.getElem?_cons_zero, List.getElem?_cons_succ, List.getD_cons_zero, List.getD_cons_succ, List.take_succ_cons, List.take_zero, List.drop_succ_cons, List.drop_zero, List.take_nil, List.drop_nil, List.contains_cons, List.contains_nil, Option.getD_some, Option.getD_none, Option.map_some, Option.map_none, if_true, if_false, true_and, and_true, and_self, or_self, or_false, false_or, false_and, and_false, reduceCtorEq, sel_and, sel_or, decide_eq_true_eq, Bool.and_eq_true, Bool.or_eq_true, Bool.and_true, Bool.true_and, Bool.or_false, Bool.false_or, Bool.true_or, Bool.or_true, Bool.not_true, Bool.not_false, Bool.false_eq_true, implies_true, not_false_eq_true, Nat.reduceLT, Nat.reduceEqDiff, Nat.reduceAdd, Nat.reduceMul, Nat.reduceMod, Nat.reduceLeDiff, Nat.reduceBEq, Nat.zero_add, Nat.add_zero, reduceIte, ↓reduceIte, List.not_mem_nil]
  refine ⟨fun _ => by omega, ?_⟩
  by_cases c : (!decide (((totP l + l.length : Nat) : Int) ≤ 400)) = true ∨ (src.length : Int) > 200
  · rw [if_pos c]
  · rw [if_neg c]
    have hsl := segsP_len l src
    exact ⟨by omega, ⟨⟨by omega, by omega⟩, hb, by omega⟩, ⟨⟨by omega, by omega⟩, hb, by omega⟩, ⟨segsP_rows l src, by omega⟩, Sub.refl _⟩
theorem at_shift : ∀ (n : Nat) (l : List Int) (off : Nat) (a b : Int), at_ n l off (a + 1, b) = ((at_ n l off (a, b)).1 + 1, (at_ n l off (a, b)).2)
  | 0, _, _, _, _ => rfl
  | n + 1, l, off, a, b => by
    by_cases h0 : off = 0
    · subst h0; rw [at_zero, at_zero]
    by_cases hl : l = []
    · subst hl; rw [at_nil, at_nil]
    by_cases h : off < (Utf.dec l).2.1.toNat
    · rw [at_in _ h0 hl h, at_in _ h0 hl h]
    · rw [at_out _ h0 hl (by omega), at_out _ h0 hl (by omega)]
      unfold stp
      split
      · exact at_shift n _ _ _ _
      · exact at_shift n _ _ _ _
theorem at_line : ∀ (h : List Int) (n : Nat) (t : List Int) (off : Nat) (p : Int × Int), (∀ c ∈ h, 0 ≤ c ∧ c < 128 ∧ c ≠ 10 ∧ c ≠ 13) → h.length + 1 ≤ n → at_ n (h ++ 10 :: t) (h.length + 1 + off) p = at_ (n - (h.length + 1)) t off (p.1 + 1, 0)
  | [], n, t, off, p, _, hn => by
    obtain ⟨n, rfl⟩ : ∃ m, n = m + 1 := ⟨n - 1, by simp at hn; omega⟩
    rw [List.nil_append, List.length_nil, Nat.zero_add, Nat.add_comm 1 off, at_ascii (by decide), stp, if_pos (show brk 10 t from Or.inl rfl)]
    rfl
  | c :: h, n, t, off, p, hc, hn => by
    simp only [List.length_cons] at hn
    obtain ⟨n, rfl⟩ : ∃ m, n = m + 1 := ⟨n - 1, by omega⟩
    have hcc := hc c List.mem_cons_self
    rw [List.cons_append, List.length_cons, show h.length + 1 + 1 + off = h.length + 1 + off + 1 by omega, at_ascii ⟨hcc.1, hcc.2.1⟩, at_line h n t off _ (fun x hx => hc x (List.mem_cons_of_mem _ hx)) (by omega)]
    rw [show n + 1 - (h.length + 1 + 1) = n - (h.length + 1) by omega]
    unfold stp
    rw [if_neg (by unfold brk; omega)]
theorem plc_ahead {h t : List Int} (hh : ∀ c ∈ h, 0 ≤ c ∧ c < 128 ∧ c ≠ 10 ∧ c ≠ 13) (off : Nat) : plc (h ++ 10 :: t) (h.length + 1 + off) = ((plc t off).1 + 1, (plc t off).2) := by
  unfold plc
  rw [at_line h _ t off _ hh (by simp only [List.length_append, List.length_cons]; omega), List.length_append, List.length_cons, show h.length + (t.length + 1) - (h.length + 1) = t.length by omega]
  exact at_shift _ _ _ 0 0
theorem at_range : ∀ (n : Nat) (l : List Int) (off : Nat) (p : Int × Int), 0 ≤ p.1 → p.1 ≤ (at_ n l off p).1 ∧ (at_ n l off p).1 ≤ p.1 + n
  | 0, _, _, p, _ => ⟨Int.le_refl _, by simp [at_]⟩
  | n + 1, l, off, p, hp => by
    by_cases h0 : off = 0
    · subst h0; rw [at_zero]; omega
    by_cases hl : l = []
    · subst hl; rw [at_nil]; omega
    by_cases h : off < (Utf.dec l).2.1.toNat
    · rw [at_in _ h0 hl h]; simp only []; omega
    · rw [at_out _ h0 hl (by omega)]
      have h1 : 0 ≤ (stp p (Utf.dec l).1 (l.drop (Utf.dec l).2.1.toNat)).1 ∧ p.1 ≤ (stp p (Utf.dec l).1 (l.drop (Utf.dec l).2.1.toNat)).1 ∧ (stp p (Utf.dec l).1 (l.drop (Utf.dec l).2.1.toNat)).1 ≤ p.1 + 1 := by
        unfold stp; split <;> simp only [] <;> omega
      have := at_range n (l.drop (Utf.dec l).2.1.toNat) (off - (Utf.dec l).2.1.toNat) (stp p (Utf.dec l).1 (l.drop (Utf.dec l).2.1.toNat)) h1.1
      omega
theorem plc_range {l : List Int} (hb : Bytes l) (off : Nat) : 0 ≤ (plc l off).1 ∧ (plc l off).1 ≤ l.length := by
  have := at_range l.length l off (0, 0) (Int.le_refl _)
  unfold plc
  simp only [] at this
  omega
theorem kept_ahead (n : Nat) (p0 : Pc) (l : List Pc) (h : p0.2 < 0) : kept n (p0 :: l) = (kept n l).map fun q => (p0.1.size + q.1, q.2) := by
  unfold kept
  rw [List.length_cons, List.range_succ_eq_map, List.filterMap_cons]
  have h0 : ¬ Kp n p0 := fun k => by have := k.1.2; omega
  simp only [List.getElem?_cons_zero, if_neg h0, List.filterMap_map, List.map_filterMap]
  refine fm_congr fun j _ => ?_
  simp only [Function.comp, Nat.succ_eq_add_one, List.getElem?_cons_succ, List.take_succ_cons, totP]
  cases l[j]? with
  | none => rfl
  | some p =>
    simp only []
    by_cases hk : Kp n p
    · rw [if_pos hk, if_pos hk]; rfl
    · rw [if_neg hk, if_neg hk]; rfl
theorem segs_ahead (l : List Pc) (src : List Int) (s : ByteArray) (hh : ∀ c ∈ nB s.data.toList, 0 ≤ c ∧ c < 128 ∧ c ≠ 10 ∧ c ≠ 13) :
    segsP ((s ++ ⟨#[10]⟩, -1) :: l) src = (kept src.length l).map fun q => sgD ((plc (nB (wholeP l)) q.1).1 + 1, (plc (nB (wholeP l)) q.1).2) (plc src q.2) := by
  unfold segsP
  rw [kept_ahead _ _ _ (show ((-1 : Int)) < 0 by decide), List.map_map]
  refine List.map_congr_left fun q _ => ?_
  have e : nB (wholeP ((s ++ ⟨#[10]⟩, -1) :: l)) = nB s.data.toList ++ 10 :: nB (wholeP l) := by
    simp [wholeP, nB, ByteArray.data_append]
  have hsz : (s ++ ⟨#[10]⟩ : ByteArray).size = (nB s.data.toList).length + 1 := by rw [ByteArray.size_append, nB_len, size_toList]; rfl
  simp only [Function.comp]
  rw [e, hsz, plc_ahead hh]
/-- What stands ahead. -/
def okAhead (s : ByteArray) : Prop := ∀ c ∈ s.data.toList, c.toNat ≠ 10 ∧ c.toNat ≠ 13 ∧ c.toNat < 128
theorem PiecesPart_body (l : List Pc) (src : List Int) (s : ByteArray) (h1 : l.length ≤ maxLen ∧ ∀ x ∈ l, x.1.size ≤ maxLen ∧ (Lit.int .i64 x.2).wf = true) (h2 : src.length ≤ maxLen ∧ ∀ x ∈ src, (Lit.int .u8 x).wf = true) (h3 : s.size ≤ maxLen) (hB : cellsB [.sl 2 (l.map pcD)] + cellsB [.sl 1 (src.map (iD .u8))] + cellsB [.v (.string s)] ≤ 1048576) : Body Try.prog G23 (DRun Try.prog G23) 5 [.d (pcsD l), .d (bytesD src), .d (.v (.string s))] (vBool true) := by
  refine Body.of Try.func5 Try.ntmps5 (by kernel_rfl) rfl rfl rfl ?_
  simp only [cellsB, datB, pcs_bulk, bytes_bulk] at hB
  have hb := Bytes.of_wf h2.2
  simp only [pcsD, bytesD, pcOf_map, G23_at, calmE, F_alive, F_Few, F_Seg, F_same, AV.flat, AV.flat.flatL, getD_iD, iD, num_iD, List.length_map, goTG_val, goTG_new, goTG_up, goTG_none, goG_none, goG_new, goG_up, ne_eq, evK, evH, retHF, DRun_mk, runT_nil, runT_none, runT_guard, goT_val, goT_new, goT_store, goTH_true, goTH_false, evO, keys, Option.toList_some, Option.toList_none, nzL_nil, nzL_cons, nz_k, nz_sl, nz_nil, nz_agg, startL, evC, evV, goE_val, goE_new, goE_store, goH_true, goH_false, goG_val, lk_cons, lk_nil, lk_func, lk_int, lk_bool, lk_string, lk_slice, lk_agg, look_mk, St.effOf, eff, effCall, effBin, effUn, effConv, effPick, effNil, effFold, fold1, effLoad, effStore, effFieldAddr, effField, fieldOf, sliceOf, effIndexAddr, effIndex, effLen, effExtract, effSlice, bnd, effBuild, placesOf, effBuildSlice, effMakeSlice, effAppend, srcOf, fillA, chunk, seg, toD, toDs, put, eqAV, fieldsEq, leafEq, strip, unw, allB, selP_or, selP_and, tis, TyD.agg, AV.cells, AV.cell, allCell, vInt, vBool, vStr, subL_nil, subL_cons, upIds, AV.ids, AV.ids.idsL, AObj.ids, drops, Hp.get_cons, get_nil, retF, resL, one, fz, fz.fzL, List.map_cons, List.map_nil, List.nil_append, List.append_nil, List.cons_append, List.all_cons, List.all_nil, List.length_cons, List.length_nil, List.getElem?_cons_zero, List.getElem?_cons_succ, List.getD_cons_zero, List.getD_cons_succ, List.take_succ_cons, List.take_zero, List.drop_succ_cons, List.drop_zero, List.take_nil, List.drop_nil, List.contains_cons, List.contains_nil, Option.getD_some, Option.getD_none, Option.map_some, Option.map_none, if_true, if_false, true_and, and_true, and_self, or_self, or_false, false_or, false_and, and_false, reduceCtorEq, sel_and, sel_or, decide_eq_true_eq, Bool.and_eq_true, Bool.or_eq_true, Bool.and_true, Bool.true_and, Bool.or_false, Bool.false_or, Bool.true_or, Bool.or_true, Bool.not_true, Bool.not_false, Bool.false_eq_true, implies_true, not_false_eq_true, Nat.reduceLT, Nat.reduceEqDiff, Nat.reduceAdd, Nat.reduceMul, Nat.reduceMod, Nat.reduceLeDiff, Nat.reduceBEq, Nat.zero_add, Nat.add_zero, reduceIte, ↓reduceIte, List.not_mem_nil]
  refine ⟨fun _ => by omega, ?_⟩
  by_cases c : ((!decide (((totP l + l.length : Nat) : Int) ≤ 400)) = true ∨ (src.length : Int) > 200) ∨ (s.size : Int) > 50
  · rw [if_pos c]
  rw [if_neg c]
  have hs50 : s.size ≤ 50 := by
    rcases Nat.lt_or_ge 50 s.size with h | h
    · exact absurd (.inr (by omega)) c
    · exact h
  refine wpc_loop (fun j : Nat => ⟨90, [], [(0, .d (pcsD l)), (1, .d (bytesD src)), (2, .d (.v (.string s))), (8, vInt .i64 j)], []⟩) (fun j => j ≤ s.size ∧ ∀ k c, k < j → s.data.toList[k]? = some c → c.toNat ≠ 10 ∧ c.toNat ≠ 13 ∧ c.toNat < 128) (fun j => s.size - j) 0 ⟨Nat.zero_le _, fun k _ hk => absurd hk (Nat.not_lt_zero k)⟩ ?_ ?_
  · refine Le.of id [] ?_
    simp only [pcsD, bytesD, Mt_tup, Mt_agg, Mt_fn, forall_eq, forall_eq_or_imp, ne_eq, List.all_cons, List.all_nil, pr, Nat.reduceLeDiff, slR_nil, slR_cons, hpR_nil, hpR_cells, hpR_row, idsR_nil, idsR_cons, mtE_v, mtE_sl, mtE_nil, mtE_refl, mtE_row, mtE_born, mtE_ptr, mtE_rp, mtE_agg, mtE_tup, mtE_fn, mtE_ep, MtL_nil, MtL_cons, Mt_v, Mt_sl, Mt_nil, Mt_refl, Mt_row, Mt_born, Mt_ptr, MtO_cells, MtO_row, liveIds, distinct, Dat.v.injEq, Dat.sl.injEq, Value.int.injEq, Value.bool.injEq, Value.string.injEq, lk_cons, lk_nil, subL_nil, subL_cons, upIds, AV.ids, AV.ids.idsL, AObj.ids, Hp.get_cons, get_nil, allCell, AV.cell, vInt, vBool, vStr, id, true_and, and_true, and_self, List.append_nil, List.nil_append, List.not_mem_nil, List.mem_cons, or_false, false_or, or_self, not_true_eq_false, not_false_eq_true, false_imp_iff, false_implies, List.map_nil, not_false_eq_true, List.contains_cons, List.contains_nil, Bool.or_false, Bool.false_or, Bool.true_or, Bool.or_true, Bool.and_true, Bool.true_and, implies_true, if_true, if_false, reduceCtorEq, Nat.reduceEqDiff, Nat.reduceBEq, Nat.reduceAdd, reduceIte, ↓reduceIte]
    rfl
  · rintro j ⟨hj, hall⟩
    simp only [pcsD, bytesD, pcOf_map, G23_at, calmE, F_alive, F_Few, F_Seg, F_same, AV.flat, AV.flat.flatL, getD_iD, iD, num_iD, List.length_map, goTG_val, goTG_new, goTG_up, goTG_none, goG_none, goG_new, goG_up, ne_eq, evK, evH, retHF, DRun_mk, runT_nil, runT_none, runT_guard, goT_val, goT_new, goT_store, goTH_true, goTH_false, evO, keys, Option.toList_some, Option.toList_none, nzL_nil, nzL_cons, nz_k, nz_sl, nz_nil, nz_agg, startL, evC, evV, goE_val, goE_new, goE_store, goH_true, goH_false, goG_val, lk_cons, lk_nil, lk_func, lk_int, lk_bool, lk_string, lk_slice, lk_agg, look_mk, St.effOf, eff, effCall, effBin, effUn, effConv, effPick, effNil, effFold, fold1, effLoad, effStore, effFieldAddr, effField, fieldOf, sliceOf, effIndexAddr, effIndex, effLen, effExtract, effSlice, bnd, effBuild, placesOf, effBuildSlice, effMakeSlice, effAppend, srcOf, fillA, chunk, seg, toD, toDs, put, eqAV, fieldsEq, leafEq, strip, unw, allB, selP_or, selP_and, tis, TyD.agg, AV.cells, AV.cell, allCell, vInt, vBool, vStr, subL_nil, subL_cons, upIds, AV.ids, AV.ids.idsL, AObj.ids, drops, Hp.get_cons, get_nil, retF, resL, one, fz, fz.fzL, List.map_cons, List.map_nil, List.nil_append, List.append_nil, List.cons_append, List.all_cons, List.all_nil, List.length_cons, List.length_nil, List.getElem?_cons_zero, List.getElem?_cons_succ, List.getD_cons_zero, List.getD_cons_succ, List.take_succ_cons, List.take_zero, List.drop_succ_cons, List.drop_zero, List.take_nil, List.drop_nil, List.contains_cons, List.contains_nil, Option.getD_some, Option.getD_none, Option.map_some, Option.map_none, if_true, if_false, true_and, and_true, and_self, or_self, or_false, false_or, false_and, and_false, reduceCtorEq, sel_and, sel_or, decide_eq_true_eq, Bool.and_eq_true, Bool.or_eq_true, Bool.and_true, Bool.true_and, Bool.or_false, Bool.false_or, Bool.true_or, Bool.or_true, Bool.not_true, Bool.not_false, Bool.false_eq_true, implies_true, not_false_eq_true, Nat.reduceLT, Nat.reduceEqDiff, Nat.reduceAdd, Nat.reduceMul, Nat.reduceMod, Nat.reduceLeDiff, Nat.reduceBEq, Nat.zero_add, Nat.add_zero, reduceIte, ↓reduceIte, List.not_mem_nil]
    by_cases hj2 : (j : Int) < s.size
    · rw [if_pos hj2]
      obtain ⟨ch, hch⟩ : ∃ ch, s.data.toList[j]? = some ch := ⟨_, List.getElem?_eq_getElem (by rw [Array.length_toList]; show j < s.size; omega)⟩
      have hbt : bt s (j : Int) = (ch.toNat : Int) := by unfold bt; rw [Int.toNat_natCast, List.getD_eq_getElem?_getD, hch]; rfl
      rw [hbt]
      refine ⟨by omega, fun _ => by omega, fun _ => by omega, ?_⟩
      by_cases hc : (((ch.toNat : Int) == 10) = true ∨ ((ch.toNat : Int) == 13) = true) ∨ (ch.toNat : Int) ≥ 128
      · rw [if_pos hc]
      · rw [if_neg hc]
        refine ⟨j + 1, by omega, ⟨by omega, fun k c' hk hk2 => ?_⟩, Le.of id [] ?_⟩
        · by_cases hkj : k = j
          · subst hkj
            rw [hch] at hk2
            cases hk2
            simp only [beq_iff_eq] at hc
            omega
          · exact hall k c' (by omega) hk2
        · simp only [pcsD, bytesD, Mt_tup, Mt_agg, Mt_fn, forall_eq, forall_eq_or_imp, ne_eq, List.all_cons, List.all_nil, pr, Nat.reduceLeDiff, slR_nil, slR_cons, hpR_nil, hpR_cells, hpR_row, idsR_nil, idsR_cons, mtE_v, mtE_sl, mtE_nil, mtE_refl, mtE_row, mtE_born, mtE_ptr, mtE_rp, mtE_agg, mtE_tup, mtE_fn, mtE_ep, MtL_nil, MtL_cons, Mt_v, Mt_sl, Mt_nil, Mt_refl, Mt_row, Mt_born, Mt_ptr, MtO_cells, MtO_row, liveIds, distinct, Dat.v.injEq, Dat.sl.injEq, Value.int.injEq, Value.bool.injEq, Value.string.injEq, lk_cons, lk_nil, subL_nil, subL_cons, upIds, AV.ids, AV.ids.idsL, AObj.ids, Hp.get_cons, get_nil, allCell, AV.cell, vInt, vBool, vStr, id, true_and, and_true, and_self, List.append_nil, List.nil_append, List.not_mem_nil, List.mem_cons, or_false, false_or, or_self, not_true_eq_false, not_false_eq_true, false_imp_iff, false_implies, List.map_nil, not_false_eq_true, List.contains_cons, List.contains_nil, Bool.or_false, Bool.false_or, Bool.true_or, Bool.or_true, Bool.and_true, Bool.true_and, implies_true, if_true, if_false, reduceCtorEq, Nat.reduceEqDiff, Nat.reduceBEq, Nat.reduceAdd, reduceIte, ↓reduceIte]
          exact w64 (by omega) (by omega)
    · rw [if_neg hj2]
      have hsz : (s ++ ⟨#[10]⟩ : ByteArray).size = s.size + 1 := by rw [ByteArray.size_append]; rfl
      have hok : ∀ x ∈ nB s.data.toList, 0 ≤ x ∧ x < 128 ∧ x ≠ 10 ∧ x ≠ 13 := fun x hx => by
        obtain ⟨c', hc', rfl⟩ := List.mem_map.mp hx
        obtain ⟨k, hk⟩ := List.getElem?_of_mem hc'
        have hlt := (List.getElem?_eq_some_iff.mp hk).1
        rw [Array.length_toList] at hlt
        have := hall k c' (by have : k < s.size := hlt; omega) hk
        omega
      have hseg := segs_ahead l src s hok
      have hsl := segsP_len l src
      simp only [pcOf, hseg]
      refine ⟨⟨⟨by omega, by omega⟩, hb, by omega⟩, by show ((s.size + 1 : Nat) : Int) ≤ _; omega, by omega, ⟨⟨rfl, by omega, by simp only [totP, hsz]; omega⟩, hb, by omega⟩, ?_⟩
      rw [if_neg (by simp [segsP])]
      unfold segsP
      have hkl := kept_len src.length l l.length
      rw [List.take_of_length_le (Nat.le_refl _)] at hkl
      have hpl : ∀ q ∈ kept src.length l, 0 ≤ (plc (nB (wholeP l)) q.1).1 ∧ (plc (nB (wholeP l)) q.1).1 ≤ 2000000 := fun q hq => by
        have h1 := (kept_in hq).1
        have := plc_range (l := nB (wholeP l)) (nB_bytes _) q.1
        have h2 := nB_len (wholeP l)
        have h3 := wholeP_len l
        omega
      generalize kept src.length l = K at hkl hpl ⊢
      generalize nB (wholeP l) = all at hpl ⊢
      let g : Nat × Nat → List Dat := fun q => sgD (plc all q.1) (plc src q.2)
      let g' : Nat × Nat → List Dat := fun q => sgD ((plc all q.1).1 + 1, (plc all q.1).2) (plc src q.2)
      have hg : (fun q : Nat × Nat => sgD (plc all q.1) (plc src q.2)) = g := rfl
      have hg' : (fun q : Nat × Nat => sgD ((plc all q.1).1 + 1, (plc all q.1).2) (plc src q.2)) = g' := rfl
      rw [hg, hg']
      refine wpc_loop (fun i : Nat => ⟨90, [], [(9, .d (.sl 4 (K.map g))), (10, .d (.sl 4 (K.map g'))), (11, vInt .i64 i)], []⟩) (fun i => i ≤ K.length) (fun i => K.length - i) 0 (Nat.zero_le _) ?_ ?_
      · refine Le.of id [] ?_
        simp only [Mt_tup, Mt_agg, Mt_fn, forall_eq, forall_eq_or_imp, ne_eq, List.all_cons, List.all_nil, pr, Nat.reduceLeDiff, slR_nil, slR_cons, hpR_nil, hpR_cells, hpR_row, idsR_nil, idsR_cons, mtE_v, mtE_sl, mtE_nil, mtE_refl, mtE_row, mtE_born, mtE_ptr, mtE_rp, mtE_agg, mtE_tup, mtE_fn, mtE_ep, MtL_nil, MtL_cons, Mt_v, Mt_sl, Mt_nil, Mt_refl, Mt_row, Mt_born, Mt_ptr, MtO_cells, MtO_row, liveIds, distinct, Dat.v.injEq, Dat.sl.injEq, Value.int.injEq, Value.bool.injEq, Value.string.injEq, lk_cons, lk_nil, subL_nil, subL_cons, upIds, AV.ids, AV.ids.idsL, AObj.ids, Hp.get_cons, get_nil, allCell, AV.cell, vInt, vBool, vStr, id, true_and, and_true, and_self, List.append_nil, List.nil_append, List.not_mem_nil, List.mem_cons, or_false, false_or, or_self, not_true_eq_false, not_false_eq_true, false_imp_iff, false_implies, List.map_nil, not_false_eq_true, List.contains_cons, List.contains_nil, Bool.or_false, Bool.false_or, Bool.true_or, Bool.or_true, Bool.and_true, Bool.true_and, implies_true, if_true, if_false, reduceCtorEq, Nat.reduceEqDiff, Nat.reduceBEq, Nat.reduceAdd, reduceIte, ↓reduceIte]
        rfl
      · intro i hi
        by_cases hi2 : (i : Int) < K.length
        · obtain ⟨q, hq⟩ : ∃ q, K[i]? = some q := ⟨_, List.getElem?_eq_getElem (by omega)⟩
          have g1 : ∀ z, (K.map g).getD (i : Int).toNat z = sgD (plc all q.1) (plc src q.2) := getD_map hq
          have g2 : ∀ z, (K.map g').getD (i : Int).toNat z = sgD ((plc all q.1).1 + 1, (plc all q.1).2) (plc src q.2) := getD_map hq
          have hp := hpl q (List.mem_of_getElem? hq)
          simp only [g1, g2, sgD, pe_seg, List.length_map, goTG_val, goTG_new, goTG_up, goTG_none, goG_none, goG_new, goG_up, ne_eq, evK, evH, retHF, DRun_mk, runT_nil, runT_none, runT_guard, goT_val, goT_new, goT_store, goTH_true, goTH_false, evO, keys, Option.toList_some, Option.toList_none, nzL_nil, nzL_cons, nz_k, nz_sl, nz_nil, nz_agg, startL, evC, evV, goE_val, goE_new, goE_store, goH_true, goH_false, goG_val, lk_cons, lk_nil, lk_func, lk_int, lk_bool, lk_string, lk_slice, lk_agg, look_mk, St.effOf, eff, effCall, effBin, effUn, effConv, effPick, effNil, effFold, fold1, effLoad, effStore, effFieldAddr, effField, fieldOf, sliceOf, effIndexAddr, effIndex, effLen, effExtract, effSlice, bnd, effBuild, placesOf, effBuildSlice, effMakeSlice, effAppend, srcOf, fillA, chunk, seg, toD, toDs, put, eqAV, fieldsEq, leafEq, strip, unw, allB, selP_or, selP_and, tis, TyD.agg, AV.cells, AV.cell, allCell, vInt, vBool, vStr, subL_nil, subL_cons, upIds, AV.ids, AV.ids.idsL, AObj.ids, drops, Hp.get_cons, get_nil, retF, resL, one, fz, fz.fzL, List.map_cons, List.map_nil, List.nil_append, List.append_nil, List.cons_append, List.all_cons, List.all_nil, List.length_cons, List.length_nil, List.getElem?_cons_zero, List.getElem?_cons_succ, List.getD_cons_zero, List.getD_cons_succ, List.take_succ_cons, List.take_zero, List.drop_succ_cons, List.drop_zero, List.take_nil, List.drop_nil, List.contains_cons, List.contains_nil, Option.getD_some, Option.getD_none, Option.map_some, Option.map_none, if_true, if_false, true_and, and_true, and_self, or_self, or_false, false_or, false_and, and_false, reduceCtorEq, sel_and, sel_or, decide_eq_true_eq, Bool.and_eq_true, Bool.or_eq_true, Bool.and_true, Bool.true_and, Bool.or_false, Bool.false_or, Bool.true_or, Bool.or_true, Bool.not_true, Bool.not_false, Bool.false_eq_true, implies_true, not_false_eq_true, Nat.reduceLT, Nat.reduceEqDiff, Nat.reduceAdd, Nat.reduceMul, Nat.reduceMod, Nat.reduceLeDiff, Nat.reduceBEq, Nat.zero_add, Nat.add_zero, reduceIte, ↓reduceIte, List.not_mem_nil]
          rw [if_pos hi2, w64 (n := (plc all q.1).1 + 1) (by omega) (by omega), w64 (n := (i : Int) + 1) (by omega) (by omega)]
          refine ⟨by omega, by omega, by kernel_rfl, ?_⟩
          rw [if_neg (by simp)]
          refine ⟨i + 1, by omega, by omega, Le.of id [] ?_⟩
          simp only [Mt_tup, Mt_agg, Mt_fn, forall_eq, forall_eq_or_imp, ne_eq, List.all_cons, List.all_nil, pr, Nat.reduceLeDiff, slR_nil, slR_cons, hpR_nil, hpR_cells, hpR_row, idsR_nil, idsR_cons, mtE_v, mtE_sl, mtE_nil, mtE_refl, mtE_row, mtE_born, mtE_ptr, mtE_rp, mtE_agg, mtE_tup, mtE_fn, mtE_ep, MtL_nil, MtL_cons, Mt_v, Mt_sl, Mt_nil, Mt_refl, Mt_row, Mt_born, Mt_ptr, MtO_cells, MtO_row, liveIds, distinct, Dat.v.injEq, Dat.sl.injEq, Value.int.injEq, Value.bool.injEq, Value.string.injEq, lk_cons, lk_nil, subL_nil, subL_cons, upIds, AV.ids, AV.ids.idsL, AObj.ids, Hp.get_cons, get_nil, allCell, AV.cell, vInt, vBool, vStr, id, true_and, and_true, and_self, List.append_nil, List.nil_append, List.not_mem_nil, List.mem_cons, or_false, false_or, or_self, not_true_eq_false, not_false_eq_true, false_imp_iff, false_implies, List.map_nil, not_false_eq_true, List.contains_cons, List.contains_nil, Bool.or_false, Bool.false_or, Bool.true_or, Bool.or_true, Bool.and_true, Bool.true_and, implies_true, if_true, if_false, reduceCtorEq, Nat.reduceEqDiff, Nat.reduceBEq, Nat.reduceAdd, reduceIte, ↓reduceIte]
          rfl
        · simp only [List.length_map, goTG_val, goTG_new, goTG_up, goTG_none, goG_none, goG_new, goG_up, ne_eq, evK, evH, retHF, DRun_mk, runT_nil, runT_none, runT_guard, goT_val, goT_new, goT_store, goTH_true, goTH_false, evO, keys, Option.toList_some, Option.toList_none, nzL_nil, nzL_cons, nz_k, nz_sl, nz_nil, nz_agg, startL, evC, evV, goE_val, goE_new, goE_store, goH_true, goH_false, goG_val, lk_cons, lk_nil, lk_func, lk_int, lk_bool, lk_string, lk_slice, lk_agg, look_mk, St.effOf, eff, effCall, effBin, effUn, effConv, effPick, effNil, effFold, fold1, effLoad, effStore, effFieldAddr, effField, fieldOf, sliceOf, effIndexAddr, effIndex, effLen, effExtract, effSlice, bnd, effBuild, placesOf, effBuildSlice, effMakeSlice, effAppend, srcOf, fillA, chunk, seg, toD, toDs, put, eqAV, fieldsEq, leafEq, strip, unw, allB, selP_or, selP_and, tis, TyD.agg, AV.cells, AV.cell, allCell, vInt, vBool, vStr, subL_nil, subL_cons, upIds, AV.ids, AV.ids.idsL, AObj.ids, drops, Hp.get_cons, get_nil, retF, resL, one, fz, fz.fzL, List.map_cons, List.map_nil, List.nil_append, List.append_nil, List.cons_append, List.all_cons, List.all_nil, List.length_cons, List.length_nil, List.getElem?_cons_zero, List.getElem?_cons_succ, List.getD_cons_zero, List.getD_cons_succ, List.take_succ_cons, List.take_zero, List.drop_succ_cons, List.drop_zero, List.take_nil, List.drop_nil, List.contains_cons, List.contains_nil, Option.getD_some, Option.getD_none, Option.map_some, Option.map_none, if_true, if_false, true_and, and_true, and_self, or_self, or_false, false_or, false_and, and_false, reduceCtorEq, sel_and, sel_or, decide_eq_true_eq, Bool.and_eq_true, Bool.or_eq_true, Bool.and_true, Bool.true_and, Bool.or_false, Bool.false_or, Bool.true_or, Bool.or_true, Bool.not_true, Bool.not_false, Bool.false_eq_true, implies_true, not_false_eq_true, Nat.reduceLT, Nat.reduceEqDiff, Nat.reduceAdd, Nat.reduceMul, Nat.reduceMod, Nat.reduceLeDiff, Nat.reduceBEq, Nat.zero_add, Nat.add_zero, reduceIte, ↓reduceIte, List.not_mem_nil]
          rw [if_neg hi2]
end Go.Proofs.Ytngjpmeenoohmaa.Eng
