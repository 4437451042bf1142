/- The renderer, on the small machine. -/
import Derived.Test.YthcgkfgkknofnaaSLay
import Derived.Test.YthcgkfgkknofnaaSRep
import Derived.Test.YthcgkfgkknofnaaEngTwo
namespace Go.Proofs.Ythcgkfgkknofnaa.Eng
open Go Go.Proofs.Ythcgkfgkknofnaa.Base
set_option maxRecDepth 100000
set_option linter.unusedSimpArgs false
set_option linter.unusedVariables false
theorem flatT_right {d : Doc} (h : right 200 d = true) : flatT d = rfS d := by
  rw [flatT, rf_flat 200 d h]
  by_cases c : (flatS d).1 = true
  · rw [if_pos ⟨h, c⟩, if_pos c]
  · rw [if_neg (fun q => c q.2), if_neg c]
noncomputable def F_rwide : List AV → Option (Prop × AV)
  | [.agg [.d (.v (.int .i64 k)), .d (.v (.int .i64 f)), .d (.v (.string t)), .d (.sl 4 ks)]] => some (ks = (docsOf ks).map docD ∧ okD (.mk k f t (docsOf ks)) ∧ right 200 (.mk k f t (docsOf ks)) = true ∧ tot (.mk k f t (docsOf ks)) ≤ 1000000000, .tup [vInt .i64 (fw (.mk k f t (docsOf ks))), vBool (rfS (.mk k f t (docsOf ks))).2])
  | _ => none
noncomputable def G_rw : Gam := (Gam.none.add 56 fun a => F_Flat (NT.nz.nzL [] a)).add 37 fun a => F_Wide (NT.nz.nzL [] a)
theorem G_rw_at : (∀ h d a, G_rw 56 h d a = calmE (fun a => F_Flat (NT.nz.nzL [] a)) h a) ∧ (∀ h d a, G_rw 37 h d a = calmE (fun a => F_Wide (NT.nz.nzL [] a)) h a) := ⟨fun _ _ _ => rfl, fun _ _ _ => rfl⟩
theorem rwide_body (D : Doc) (h1 : okD D) (h2 : right 200 D = true) (h3 : tot D ≤ 1000000000) : Body Try.prog G_rw (DRun Try.prog G_rw) 47 [.agg ((docD D).map .d)] (.tup [vInt .i64 (fw D), vBool (rfS D).2]) := by
  refine Body.of Try.func47 Try.ntmps47 (by kernel_rfl) rfl rfl rfl ?_
  have e := flatT_right h2
  have h4 := flatS_tot D
  have h5 := rfS_tot D
  simp only [docD_eq, G_rw_at, calmE, F_Flat, F_Wide, docsOf_map, Doc.eta, e, AV.flat, AV.flat.flatL, List.length_map, List.map_cons, List.map_nil, goTG_val, goTG_new, goTG_up, goTG_none, goG_none, goG_new, goG_up, ne_eq, evK, evH, retHF, DRun_mk, runT_nil, runT_none, runT_guard, goT_val, goT_new, goT_store, goTH_true, goTH_false, evO, keys, Option.toList_some, Option.toList_none, nzL_nil, nzL_cons, nz_k, nz_sl, nz_nil, nz_agg, startL, evC, evV, goE_val, goE_new, goE_store, goH_true, goH_false, goG_val, lk_cons, lk_nil, lk_func, lk_int, lk_bool, lk_string, lk_slice, lk_agg, look_mk, St.effOf, eff, effCall, effBin, effUn, effConv, effPick, effNil, effFold, fold1, effLoad, effStore, effFieldAddr, effField, fieldOf, sliceOf, effIndexAddr, effIndex, effLen, effExtract, effSlice, bnd, effBuild, placesOf, effBuildSlice, effMakeSlice, effAppend, srcOf, fillA, chunk, seg, toD, toDs, put, eqAV, fieldsEq, leafEq, strip, unw, allB, selP_or, selP_and, tis, TyD.agg, AV.cells, AV.cell, allCell, vInt, vBool, vStr, subL_nil, subL_cons, upIds, AV.ids, AV.ids.idsL, AObj.ids, drops, Hp.get_cons, get_nil, retF, resL, one, fz, fz.fzL, List.map_cons, List.map_nil, List.nil_append, List.append_nil, List.cons_append, List.all_cons, List.all_nil, List.length_cons, List.length_nil, List.getElem?_cons_zero, List.getElem?_cons_succ, List.getD_cons_zero, List.getD_cons_succ, List.take_succ_cons, List.take_zero, List.drop_succ_cons, List.drop_zero, List.take_nil, List.drop_nil, List.contains_cons, List.contains_nil, Option.getD_some, Option.getD_none, Option.map_some, Option.map_none, if_true, if_false, true_and, and_true, and_self, or_self, or_false, false_or, false_and, and_false, reduceCtorEq, sel_and, sel_or, decide_eq_true_eq, Bool.and_eq_true, Bool.or_eq_true, Bool.and_true, Bool.true_and, Bool.or_false, Bool.false_or, Bool.true_or, Bool.or_true, Bool.not_true, Bool.not_false, Bool.false_eq_true, implies_true, not_false_eq_true, Nat.reduceLT, Nat.reduceEqDiff, Nat.reduceAdd, Nat.reduceMul, Nat.reduceMod, Nat.reduceLeDiff, Nat.reduceBEq, Nat.zero_add, Nat.add_zero, reduceIte, ↓reduceIte, List.not_mem_nil]
  exact ⟨⟨h1, by omega⟩, by rw [ba_size]; omega, Sub.refl _⟩
theorem rwide_calm : ∀ args sc res, F_rwide args = some (sc, res) → sc → Calm Try.prog 47 args res := by
  intro args sc res h hs
  unfold F_rwide at h
  split at h <;> cases h
  rename_i k f t ks
  obtain ⟨q1, q2, q3, q4⟩ := hs
  rw [docD_args k f t q1]
  exact (((Known.none _).addC _ Flat_calm).addC _ Wide_calm).calm mixed rfl rfl (rwide_body _ q2 q3 q4)
noncomputable def F_rbeh : List AV → Option (Prop × AV)
  | [.agg [.d (.v (.int .i64 k)), .d (.v (.int .i64 f)), .d (.v (.string t)), .d (.sl 4 ks)]] => some (ks = (docsOf ks).map docD ∧ okD (.mk k f t (docsOf ks)) ∧ tot (.mk k f t (docsOf ks)) ≤ 1000000000, .tup [vInt .i64 (bw (.mk k f t (docsOf ks))).1, vBool (bw (.mk k f t (docsOf ks))).2])
  | _ => none
noncomputable def G_rb (n : Nat) : Gam := (Gam.none.add 48 (lim F_rbeh rfμ n)).add 37 fun a => F_Wide (NT.nz.nzL [] a)
theorem G_rb_at (n : Nat) : (∀ h d a, G_rb n 48 h d a = calmE (lim F_rbeh rfμ n) h a) ∧ (∀ h d a, G_rb n 37 h d a = calmE (fun a => F_Wide (NT.nz.nzL [] a)) h a) := ⟨fun _ _ _ => rfl, fun _ _ _ => rfl⟩
theorem tots_take (l : List Doc) (j : Nat) : tots (l.drop j) ≤ tots l := by
  induction l generalizing j with
  | nil => simp [tots]
  | cons d l ih =>
    cases j with
    | zero => exact Nat.le_refl _
    | succ j => rw [List.drop_succ_cons, tots]; have := ih j; omega
theorem rbeh_body (n : Nat) (D : Doc) (h2 : dszs D.kids ≤ n) (h3 : okD D) (h4 : tot D ≤ 1000000000) : Body Try.prog (G_rb n) (DRun Try.prog (G_rb n)) 48 [.agg ((docD D).map .d)] (.tup [vInt .i64 (bw D).1, vBool (bw D).2]) := by
  refine Body.of Try.func48 Try.ntmps48 (by kernel_rfl) rfl rfl rfl ?_
  rw [okD_eq] at h3
  have hk : D.kids.length ≤ 9223372036854775807 := h3.2.1
  have ht := tot_eq D
  rw [bw_eq]
  have nok : ∀ b : Int, ¬ D.k = b → (D.k == b) = false := fun b h => by simpa using h
  have yek : ∀ b : Int, D.k = b → (D.k == b) = true := fun b h => by simpa using h
  by_cases k1 : D.k = 1
  · simp only [docD_eq, yek 1 k1, if_pos k1, G_rb_at, calmE, F_rbeh, F_Wide, lim, rfμ, docsOf_map, Doc.eta, AV.flat, AV.flat.flatL, List.length_map, List.map_cons, List.map_nil, if_true, goTG_val, goTG_new, goTG_up, goTG_none, goG_none, goG_new, goG_up, ne_eq, evK, evH, retHF, DRun_mk, runT_nil, runT_none, runT_guard, goT_val, goT_new, goT_store, goTH_true, goTH_false, evO, keys, Option.toList_some, Option.toList_none, nzL_nil, nzL_cons, nz_k, nz_sl, nz_nil, nz_agg, startL, evC, evV, goE_val, goE_new, goE_store, goH_true, goH_false, goG_val, lk_cons, lk_nil, lk_func, lk_int, lk_bool, lk_string, lk_slice, lk_agg, look_mk, St.effOf, eff, effCall, effBin, effUn, effConv, effPick, effNil, effFold, fold1, effLoad, effStore, effFieldAddr, effField, fieldOf, sliceOf, effIndexAddr, effIndex, effLen, effExtract, effSlice, bnd, effBuild, placesOf, effBuildSlice, effMakeSlice, effAppend, srcOf, fillA, chunk, seg, toD, toDs, put, eqAV, fieldsEq, leafEq, strip, unw, allB, selP_or, selP_and, tis, TyD.agg, AV.cells, AV.cell, allCell, vInt, vBool, vStr, subL_nil, subL_cons, upIds, AV.ids, AV.ids.idsL, AObj.ids, drops, Hp.get_cons, get_nil, retF, resL, one, fz, fz.fzL, List.map_cons, List.map_nil, List.nil_append, List.append_nil, List.cons_append, List.all_cons, List.all_nil, List.length_cons, List.length_nil, List.getElem?_cons_zero, List.getElem?_cons_succ, List.getD_cons_zero, List.getD_cons_succ, List.take_succ_cons, List.take_zero, List.drop_succ_cons, List.drop_zero, List.take_nil, List.drop_nil, List.contains_cons, List.contains_nil, Option.getD_some, Option.getD_none, Option.map_some, Option.map_none, if_true, if_false, true_and, and_true, and_self, or_self, or_false, false_or, false_and, and_false, reduceCtorEq, sel_and, sel_or, decide_eq_true_eq, Bool.and_eq_true, Bool.or_eq_true, Bool.and_true, Bool.true_and, Bool.or_false, Bool.false_or, Bool.true_or, Bool.or_true, Bool.not_true, Bool.not_false, Bool.false_eq_true, implies_true, not_false_eq_true, Nat.reduceLT, Nat.reduceEqDiff, Nat.reduceAdd, Nat.reduceMul, Nat.reduceMod, Nat.reduceLeDiff, Nat.reduceBEq, Nat.zero_add, Nat.add_zero, reduceIte, ↓reduceIte, List.not_mem_nil]
    exact ⟨by omega, Sub.refl _⟩
  by_cases k2 : D.k = 2
  · simp only [docD_eq, nok 1 k1, yek 2 k2, if_neg k1, if_pos (show D.k = 2 ∨ D.k = 3 ∨ D.k = 4 from .inl k2), G_rb_at, calmE, F_rbeh, F_Wide, lim, rfμ, docsOf_map, Doc.eta, AV.flat, AV.flat.flatL, List.length_map, List.map_cons, List.map_nil, if_true, if_false, Bool.false_eq_true, goTG_val, goTG_new, goTG_up, goTG_none, goG_none, goG_new, goG_up, ne_eq, evK, evH, retHF, DRun_mk, runT_nil, runT_none, runT_guard, goT_val, goT_new, goT_store, goTH_true, goTH_false, evO, keys, Option.toList_some, Option.toList_none, nzL_nil, nzL_cons, nz_k, nz_sl, nz_nil, nz_agg, startL, evC, evV, goE_val, goE_new, goE_store, goH_true, goH_false, goG_val, lk_cons, lk_nil, lk_func, lk_int, lk_bool, lk_string, lk_slice, lk_agg, look_mk, St.effOf, eff, effCall, effBin, effUn, effConv, effPick, effNil, effFold, fold1, effLoad, effStore, effFieldAddr, effField, fieldOf, sliceOf, effIndexAddr, effIndex, effLen, effExtract, effSlice, bnd, effBuild, placesOf, effBuildSlice, effMakeSlice, effAppend, srcOf, fillA, chunk, seg, toD, toDs, put, eqAV, fieldsEq, leafEq, strip, unw, allB, selP_or, selP_and, tis, TyD.agg, AV.cells, AV.cell, allCell, vInt, vBool, vStr, subL_nil, subL_cons, upIds, AV.ids, AV.ids.idsL, AObj.ids, drops, Hp.get_cons, get_nil, retF, resL, one, fz, fz.fzL, List.map_cons, List.map_nil, List.nil_append, List.append_nil, List.cons_append, List.all_cons, List.all_nil, List.length_cons, List.length_nil, List.getElem?_cons_zero, List.getElem?_cons_succ, List.getD_cons_zero, List.getD_cons_succ, List.take_succ_cons, List.take_zero, List.drop_succ_cons, List.drop_zero, List.take_nil, List.drop_nil, List.contains_cons, List.contains_nil, Option.getD_some, Option.getD_none, Option.map_some, Option.map_none, if_true, if_false, true_and, and_true, and_self, or_self, or_false, false_or, false_and, and_false, reduceCtorEq, sel_and, sel_or, decide_eq_true_eq, Bool.and_eq_true, Bool.or_eq_true, Bool.and_true, Bool.true_and, Bool.or_false, Bool.false_or, Bool.true_or, Bool.or_true, Bool.not_true, Bool.not_false, Bool.false_eq_true, implies_true, not_false_eq_true, Nat.reduceLT, Nat.reduceEqDiff, Nat.reduceAdd, Nat.reduceMul, Nat.reduceMod, Nat.reduceLeDiff, Nat.reduceBEq, Nat.zero_add, Nat.add_zero, reduceIte, ↓reduceIte, List.not_mem_nil]
    try exact Sub.refl _
  by_cases k3 : D.k = 3
  · simp only [docD_eq, nok 1 k1, nok 2 k2, yek 3 k3, if_neg k1, if_pos (show D.k = 2 ∨ D.k = 3 ∨ D.k = 4 from .inr (.inl k3)), G_rb_at, calmE, F_rbeh, F_Wide, lim, rfμ, docsOf_map, Doc.eta, AV.flat, AV.flat.flatL, List.length_map, List.map_cons, List.map_nil, if_true, if_false, Bool.false_eq_true, goTG_val, goTG_new, goTG_up, goTG_none, goG_none, goG_new, goG_up, ne_eq, evK, evH, retHF, DRun_mk, runT_nil, runT_none, runT_guard, goT_val, goT_new, goT_store, goTH_true, goTH_false, evO, keys, Option.toList_some, Option.toList_none, nzL_nil, nzL_cons, nz_k, nz_sl, nz_nil, nz_agg, startL, evC, evV, goE_val, goE_new, goE_store, goH_true, goH_false, goG_val, lk_cons, lk_nil, lk_func, lk_int, lk_bool, lk_string, lk_slice, lk_agg, look_mk, St.effOf, eff, effCall, effBin, effUn, effConv, effPick, effNil, effFold, fold1, effLoad, effStore, effFieldAddr, effField, fieldOf, sliceOf, effIndexAddr, effIndex, effLen, effExtract, effSlice, bnd, effBuild, placesOf, effBuildSlice, effMakeSlice, effAppend, srcOf, fillA, chunk, seg, toD, toDs, put, eqAV, fieldsEq, leafEq, strip, unw, allB, selP_or, selP_and, tis, TyD.agg, AV.cells, AV.cell, allCell, vInt, vBool, vStr, subL_nil, subL_cons, upIds, AV.ids, AV.ids.idsL, AObj.ids, drops, Hp.get_cons, get_nil, retF, resL, one, fz, fz.fzL, List.map_cons, List.map_nil, List.nil_append, List.append_nil, List.cons_append, List.all_cons, List.all_nil, List.length_cons, List.length_nil, List.getElem?_cons_zero, List.getElem?_cons_succ, List.getD_cons_zero, List.getD_cons_succ, List.take_succ_cons, List.take_zero, List.drop_succ_cons, List.drop_zero, List.take_nil, List.drop_nil, List.contains_cons, List.contains_nil, Option.getD_some, Option.getD_none, Option.map_some, Option.map_none, if_true, if_false, true_and, and_true, and_self, or_self, or_false, false_or, false_and, and_false, reduceCtorEq, sel_and, sel_or, decide_eq_true_eq, Bool.and_eq_true, Bool.or_eq_true, Bool.and_true, Bool.true_and, Bool.or_false, Bool.false_or, Bool.true_or, Bool.or_true, Bool.not_true, Bool.not_false, Bool.false_eq_true, implies_true, not_false_eq_true, Nat.reduceLT, Nat.reduceEqDiff, Nat.reduceAdd, Nat.reduceMul, Nat.reduceMod, Nat.reduceLeDiff, Nat.reduceBEq, Nat.zero_add, Nat.add_zero, reduceIte, ↓reduceIte, List.not_mem_nil]
    try exact Sub.refl _
  by_cases k4 : D.k = 4
  · simp only [docD_eq, nok 1 k1, nok 2 k2, nok 3 k3, yek 4 k4, if_neg k1, if_pos (show D.k = 2 ∨ D.k = 3 ∨ D.k = 4 from .inr (.inr k4)), G_rb_at, calmE, F_rbeh, F_Wide, lim, rfμ, docsOf_map, Doc.eta, AV.flat, AV.flat.flatL, List.length_map, List.map_cons, List.map_nil, if_true, if_false, Bool.false_eq_true, goTG_val, goTG_new, goTG_up, goTG_none, goG_none, goG_new, goG_up, ne_eq, evK, evH, retHF, DRun_mk, runT_nil, runT_none, runT_guard, goT_val, goT_new, goT_store, goTH_true, goTH_false, evO, keys, Option.toList_some, Option.toList_none, nzL_nil, nzL_cons, nz_k, nz_sl, nz_nil, nz_agg, startL, evC, evV, goE_val, goE_new, goE_store, goH_true, goH_false, goG_val, lk_cons, lk_nil, lk_func, lk_int, lk_bool, lk_string, lk_slice, lk_agg, look_mk, St.effOf, eff, effCall, effBin, effUn, effConv, effPick, effNil, effFold, fold1, effLoad, effStore, effFieldAddr, effField, fieldOf, sliceOf, effIndexAddr, effIndex, effLen, effExtract, effSlice, bnd, effBuild, placesOf, effBuildSlice, effMakeSlice, effAppend, srcOf, fillA, chunk, seg, toD, toDs, put, eqAV, fieldsEq, leafEq, strip, unw, allB, selP_or, selP_and, tis, TyD.agg, AV.cells, AV.cell, allCell, vInt, vBool, vStr, subL_nil, subL_cons, upIds, AV.ids, AV.ids.idsL, AObj.ids, drops, Hp.get_cons, get_nil, retF, resL, one, fz, fz.fzL, List.map_cons, List.map_nil, List.nil_append, List.append_nil, List.cons_append, List.all_cons, List.all_nil, List.length_cons, List.length_nil, List.getElem?_cons_zero, List.getElem?_cons_succ, List.getD_cons_zero, List.getD_cons_succ, List.take_succ_cons, List.take_zero, List.drop_succ_cons, List.drop_zero, List.take_nil, List.drop_nil, List.contains_cons, List.contains_nil, Option.getD_some, Option.getD_none, Option.map_some, Option.map_none, if_true, if_false, true_and, and_true, and_self, or_self, or_false, false_or, false_and, and_false, reduceCtorEq, sel_and, sel_or, decide_eq_true_eq, Bool.and_eq_true, Bool.or_eq_true, Bool.and_true, Bool.true_and, Bool.or_false, Bool.false_or, Bool.true_or, Bool.or_true, Bool.not_true, Bool.not_false, Bool.false_eq_true, implies_true, not_false_eq_true, Nat.reduceLT, Nat.reduceEqDiff, Nat.reduceAdd, Nat.reduceMul, Nat.reduceMod, Nat.reduceLeDiff, Nat.reduceBEq, Nat.zero_add, Nat.add_zero, reduceIte, ↓reduceIte, List.not_mem_nil]
    try exact Sub.refl _
  simp only [docD_eq, nok 1 k1, nok 2 k2, nok 3 k3, nok 4 k4, if_neg k1, if_neg (show ¬ (D.k = 2 ∨ D.k = 3 ∨ D.k = 4) by omega), G_rb_at, calmE, F_rbeh, F_Wide, lim, rfμ, docsOf_map, Doc.eta, AV.flat, AV.flat.flatL, List.length_map, List.map_cons, List.map_nil, if_false, Bool.false_eq_true, goTG_val, goTG_new, goTG_up, goTG_none, goG_none, goG_new, goG_up, ne_eq, evK, evH, retHF, DRun_mk, runT_nil, runT_none, runT_guard, goT_val, goT_new, goT_store, goTH_true, goTH_false, evO, keys, Option.toList_some, Option.toList_none, nzL_nil, nzL_cons, nz_k, nz_sl, nz_nil, nz_agg, startL, evC, evV, goE_val, goE_new, goE_store, goH_true, goH_false, goG_val, lk_cons, lk_nil, lk_func, lk_int, lk_bool, lk_string, lk_slice, lk_agg, look_mk, St.effOf, eff, effCall, effBin, effUn, effConv, effPick, effNil, effFold, fold1, effLoad, effStore, effFieldAddr, effField, fieldOf, sliceOf, effIndexAddr, effIndex, effLen, effExtract, effSlice, bnd, effBuild, placesOf, effBuildSlice, effMakeSlice, effAppend, srcOf, fillA, chunk, seg, toD, toDs, put, eqAV, fieldsEq, leafEq, strip, unw, allB, selP_or, selP_and, tis, TyD.agg, AV.cells, AV.cell, allCell, vInt, vBool, vStr, subL_nil, subL_cons, upIds, AV.ids, AV.ids.idsL, AObj.ids, drops, Hp.get_cons, get_nil, retF, resL, one, fz, fz.fzL, List.map_cons, List.map_nil, List.nil_append, List.append_nil, List.cons_append, List.all_cons, List.all_nil, List.length_cons, List.length_nil, List.getElem?_cons_zero, List.getElem?_cons_succ, List.getD_cons_zero, List.getD_cons_succ, List.take_succ_cons, List.take_zero, List.drop_succ_cons, List.drop_zero, List.take_nil, List.drop_nil, List.contains_cons, List.contains_nil, Option.getD_some, Option.getD_none, Option.map_some, Option.map_none, if_true, if_false, true_and, and_true, and_self, or_self, or_false, false_or, false_and, and_false, reduceCtorEq, sel_and, sel_or, decide_eq_true_eq, Bool.and_eq_true, Bool.or_eq_true, Bool.and_true, Bool.true_and, Bool.or_false, Bool.false_or, Bool.true_or, Bool.or_true, Bool.not_true, Bool.not_false, Bool.false_eq_true, implies_true, not_false_eq_true, Nat.reduceLT, Nat.reduceEqDiff, Nat.reduceAdd, Nat.reduceMul, Nat.reduceMod, Nat.reduceLeDiff, Nat.reduceBEq, Nat.zero_add, Nat.add_zero, reduceIte, ↓reduceIte, List.not_mem_nil]
  refine wpc_loop (fun p : Int × Nat => ⟨39, [], [(4, vInt .i64 p.1), (21, .d (.sl 4 (D.kids.map docD))), (22, vInt .i64 D.kids.length), (23, vInt .i64 p.2)], []⟩)
    (fun p => p.2 ≤ D.kids.length ∧ 0 ≤ p.1 ∧ p.1 + tots (D.kids.drop p.2) ≤ 1000000000 ∧ (p.1 + (bws (D.kids.drop p.2)).1, (bws (D.kids.drop p.2)).2) = bws D.kids) (fun p => D.kids.length - p.2) (0, 0) ⟨Nat.zero_le _, Int.le_refl _, by rw [List.drop_zero]; omega, by rw [List.drop_zero]; simp⟩ ?_ ?_
  · refine Le.of id [] ?_
    simp only [Mt_tup, Mt_agg, Mt_fn, forall_eq, forall_eq_or_imp, ne_eq, List.all_cons, List.all_nil, pr, Nat.reduceLeDiff, slR_nil, slR_cons, hpR_nil, hpR_cells, hpR_row, idsR_nil, idsR_cons, mtE_v, mtE_sl, mtE_nil, mtE_refl, mtE_row, mtE_born, mtE_ptr, mtE_rp, mtE_agg, mtE_tup, mtE_fn, mtE_ep, MtL_nil, MtL_cons, Mt_v, Mt_sl, Mt_nil, Mt_refl, Mt_row, Mt_born, Mt_ptr, MtO_cells, MtO_row, liveIds, distinct, Dat.v.injEq, Dat.sl.injEq, Value.int.injEq, Value.bool.injEq, Value.string.injEq, lk_cons, lk_nil, subL_nil, subL_cons, upIds, AV.ids, AV.ids.idsL, AObj.ids, Hp.get_cons, get_nil, allCell, AV.cell, vInt, vBool, vStr, id, true_and, and_true, and_self, List.append_nil, List.nil_append, List.not_mem_nil, List.mem_cons, or_false, false_or, or_self, not_true_eq_false, not_false_eq_true, false_imp_iff, false_implies, List.map_nil, not_false_eq_true, List.contains_cons, List.contains_nil, Bool.or_false, Bool.false_or, Bool.true_or, Bool.or_true, Bool.and_true, Bool.true_and, implies_true, if_true, if_false, reduceCtorEq, Nat.reduceEqDiff, Nat.reduceBEq, Nat.reduceAdd, reduceIte, ↓reduceIte]
    try rfl
  · rintro ⟨acc, j⟩ ⟨hj, h0, hb, hr⟩
    simp only [] at hj h0 hb hr
    by_cases hj2 : (j : Int) < D.kids.length
    · obtain ⟨d, hd⟩ : ∃ d, D.kids[j]? = some d := ⟨_, List.getElem?_eq_getElem (by omega)⟩
      have hg := getD_doc hd
      have hbd := bw_le d
      rw [drop_at hd, bws] at hr
      rw [drop_at hd, tots] at hb
      simp only [docD_eq, List.map_cons, List.map_nil, hg, G_rb_at, calmE, F_rbeh, F_Wide, lim, rfμ, docsOf_map, Doc.eta, AV.flat, AV.flat.flatL, List.length_map, goTG_val, goTG_new, goTG_up, goTG_none, goG_none, goG_new, goG_up, ne_eq, evK, evH, retHF, DRun_mk, runT_nil, runT_none, runT_guard, goT_val, goT_new, goT_store, goTH_true, goTH_false, evO, keys, Option.toList_some, Option.toList_none, nzL_nil, nzL_cons, nz_k, nz_sl, nz_nil, nz_agg, startL, evC, evV, goE_val, goE_new, goE_store, goH_true, goH_false, goG_val, lk_cons, lk_nil, lk_func, lk_int, lk_bool, lk_string, lk_slice, lk_agg, look_mk, St.effOf, eff, effCall, effBin, effUn, effConv, effPick, effNil, effFold, fold1, effLoad, effStore, effFieldAddr, effField, fieldOf, sliceOf, effIndexAddr, effIndex, effLen, effExtract, effSlice, bnd, effBuild, placesOf, effBuildSlice, effMakeSlice, effAppend, srcOf, fillA, chunk, seg, toD, toDs, put, eqAV, fieldsEq, leafEq, strip, unw, allB, selP_or, selP_and, tis, TyD.agg, AV.cells, AV.cell, allCell, vInt, vBool, vStr, subL_nil, subL_cons, upIds, AV.ids, AV.ids.idsL, AObj.ids, drops, Hp.get_cons, get_nil, retF, resL, one, fz, fz.fzL, List.map_cons, List.map_nil, List.nil_append, List.append_nil, List.cons_append, List.all_cons, List.all_nil, List.length_cons, List.length_nil, List.getElem?_cons_zero, List.getElem?_cons_succ, List.getD_cons_zero, List.getD_cons_succ, List.take_succ_cons, List.take_zero, List.drop_succ_cons, List.drop_zero, List.take_nil, List.drop_nil, List.contains_cons, List.contains_nil, Option.getD_some, Option.getD_none, Option.map_some, Option.map_none, if_true, if_false, true_and, and_true, and_self, or_self, or_false, false_or, false_and, and_false, reduceCtorEq, sel_and, sel_or, decide_eq_true_eq, Bool.and_eq_true, Bool.or_eq_true, Bool.and_true, Bool.true_and, Bool.or_false, Bool.false_or, Bool.true_or, Bool.or_true, Bool.not_true, Bool.not_false, Bool.false_eq_true, implies_true, not_false_eq_true, Nat.reduceLT, Nat.reduceEqDiff, Nat.reduceAdd, Nat.reduceMul, Nat.reduceMod, Nat.reduceLeDiff, Nat.reduceBEq, Nat.zero_add, Nat.add_zero, reduceIte, ↓reduceIte, List.not_mem_nil]
      rw [if_pos hj2]
      refine ⟨by omega, ⟨⟨okDs_get h3.2.2 hd, by omega⟩, Nat.lt_of_lt_of_le (dszs_get hd) h2⟩, ?_⟩
      rw [w64 (n := acc + (bw d).1) (by omega) (by omega)]
      cases hs : (bw d).2 with
      | true =>
        rw [hs, if_pos rfl] at hr
        rw [if_pos (by first | rfl | decide), ← hr]
        try exact Sub.refl _
      | false =>
        rw [hs, if_neg (by decide)] at hr
        rw [if_neg (by first | decide | simp)]
        refine ⟨(acc + (bw d).1, j + 1), by simp only []; omega, ⟨by simp only []; omega, by simp only []; omega, by simp only []; omega, by simp only []; rw [← hr, Int.add_assoc]⟩, Le.of id [] ?_⟩
        simp only [docD_eq, List.map_cons, List.map_nil, Mt_tup, Mt_agg, Mt_fn, forall_eq, forall_eq_or_imp, ne_eq, List.all_cons, List.all_nil, pr, Nat.reduceLeDiff, slR_nil, slR_cons, hpR_nil, hpR_cells, hpR_row, idsR_nil, idsR_cons, mtE_v, mtE_sl, mtE_nil, mtE_refl, mtE_row, mtE_born, mtE_ptr, mtE_rp, mtE_agg, mtE_tup, mtE_fn, mtE_ep, MtL_nil, MtL_cons, Mt_v, Mt_sl, Mt_nil, Mt_refl, Mt_row, Mt_born, Mt_ptr, MtO_cells, MtO_row, liveIds, distinct, Dat.v.injEq, Dat.sl.injEq, Value.int.injEq, Value.bool.injEq, Value.string.injEq, lk_cons, lk_nil, subL_nil, subL_cons, upIds, AV.ids, AV.ids.idsL, AObj.ids, Hp.get_cons, get_nil, allCell, AV.cell, vInt, vBool, vStr, id, true_and, and_true, and_self, List.append_nil, List.nil_append, List.not_mem_nil, List.mem_cons, or_false, false_or, or_self, not_true_eq_false, not_false_eq_true, false_imp_iff, false_implies, List.map_nil, not_false_eq_true, List.contains_cons, List.contains_nil, Bool.or_false, Bool.false_or, Bool.true_or, Bool.or_true, Bool.and_true, Bool.true_and, implies_true, if_true, if_false, reduceCtorEq, Nat.reduceEqDiff, Nat.reduceBEq, Nat.reduceAdd, reduceIte, ↓reduceIte]
        exact w64 (by omega) (by omega)
    · simp only [docD_eq, List.map_cons, List.map_nil, G_rb_at, calmE, F_rbeh, F_Wide, lim, rfμ, docsOf_map, Doc.eta, AV.flat, AV.flat.flatL, List.length_map, goTG_val, goTG_new, goTG_up, goTG_none, goG_none, goG_new, goG_up, ne_eq, evK, evH, retHF, DRun_mk, runT_nil, runT_none, runT_guard, goT_val, goT_new, goT_store, goTH_true, goTH_false, evO, keys, Option.toList_some, Option.toList_none, nzL_nil, nzL_cons, nz_k, nz_sl, nz_nil, nz_agg, startL, evC, evV, goE_val, goE_new, goE_store, goH_true, goH_false, goG_val, lk_cons, lk_nil, lk_func, lk_int, lk_bool, lk_string, lk_slice, lk_agg, look_mk, St.effOf, eff, effCall, effBin, effUn, effConv, effPick, effNil, effFold, fold1, effLoad, effStore, effFieldAddr, effField, fieldOf, sliceOf, effIndexAddr, effIndex, effLen, effExtract, effSlice, bnd, effBuild, placesOf, effBuildSlice, effMakeSlice, effAppend, srcOf, fillA, chunk, seg, toD, toDs, put, eqAV, fieldsEq, leafEq, strip, unw, allB, selP_or, selP_and, tis, TyD.agg, AV.cells, AV.cell, allCell, vInt, vBool, vStr, subL_nil, subL_cons, upIds, AV.ids, AV.ids.idsL, AObj.ids, drops, Hp.get_cons, get_nil, retF, resL, one, fz, fz.fzL, List.map_cons, List.map_nil, List.nil_append, List.append_nil, List.cons_append, List.all_cons, List.all_nil, List.length_cons, List.length_nil, List.getElem?_cons_zero, List.getElem?_cons_succ, List.getD_cons_zero, List.getD_cons_succ, List.take_succ_cons, List.take_zero, List.drop_succ_cons, List.drop_zero, List.take_nil, List.drop_nil, List.contains_cons, List.contains_nil, Option.getD_some, Option.getD_none, Option.map_some, Option.map_none, if_true, if_false, true_and, and_true, and_self, or_self, or_false, false_or, false_and, and_false, reduceCtorEq, sel_and, sel_or, decide_eq_true_eq, Bool.and_eq_true, Bool.or_eq_true, Bool.and_true, Bool.true_and, Bool.or_false, Bool.false_or, Bool.true_or, Bool.or_true, Bool.not_true, Bool.not_false, Bool.false_eq_true, implies_true, not_false_eq_true, Nat.reduceLT, Nat.reduceEqDiff, Nat.reduceAdd, Nat.reduceMul, Nat.reduceMod, Nat.reduceLeDiff, Nat.reduceBEq, Nat.zero_add, Nat.add_zero, reduceIte, ↓reduceIte, List.not_mem_nil]
      rw [if_neg hj2]
      rw [List.drop_eq_nil_of_le (by omega), bws, Int.add_zero] at hr
      rw [← hr]
      try exact Sub.refl _
theorem rbeh_calm : ∀ args sc res, F_rbeh args = some (sc, res) → sc → Calm Try.prog 48 args res := by
  refine (Known.none Try.prog).recur rfμ fun n K args sc res h hs hn => ?_
  unfold F_rbeh at h
  split at h <;> cases h
  rename_i k f t ks
  obtain ⟨q1, q2, q3⟩ := hs
  rw [docD_args k f t q1]
  exact (K.addC _ Wide_calm).calm mixed rfl rfl (rbeh_body n _ (Nat.le_of_eq hn) q2 q3)
/-- A renderer, as it is handed on: its row, its numbers, what is made so far. -/
structure Rv where
  b : Nat
  c : Nat
  xs : List (List Dat)
  col : Int
  w : Int
  i : Int
  ps : List (List Dat)
def renO (b c : Nat) (xs : List (List Dat)) (col w i : Int) (ps : List (List Dat)) : AObj := .cells 52 [.row b xs.length, vInt .i64 col, vInt .i64 w, vInt .i64 i, .row c ps.length]
def renAt (h : Nat → Option AObj) (o : Nat) : Option Rv :=
  match h o with
  | some (.cells t [.row b n, .d (.v (.int .i64 col)), .d (.v (.int .i64 w)), .d (.v (.int .i64 i)), .row c k]) => match h b, h c with
    | some (.row e sz xs), some (.row e' sz' ps) => if t = 52 ∧ (e = 49 ∧ sz = 6 ∧ n = xs.length) ∧ (e' = 34 ∧ sz' = 2 ∧ k = ps.length) ∧ b ≠ o ∧ c ≠ o ∧ c ≠ b then some ⟨b, c, xs, col, w, i, ps⟩ else none
    | _, _ => none
  | _ => none
theorem renAt_inv {h : Nat → Option AObj} {o : Nat} {v : Rv} (e : renAt h o = some v) : h o = some (renO v.b v.c v.xs v.col v.w v.i v.ps) ∧ h v.b = some (.row 49 6 v.xs) ∧ h v.c = some (.row 34 2 v.ps) ∧ v.b ≠ o ∧ v.c ≠ o ∧ v.c ≠ v.b := by
  unfold renAt at e
  split at e
  · rename_i t b n col w i c k ho
    split at e
    · rename_i e0 sz xs e1 sz1 ps hb hc
      split at e
      · rename_i hq
        obtain ⟨rfl, ⟨rfl, rfl, rfl⟩, ⟨rfl, rfl, rfl⟩, h1, h2, h3⟩ := hq
        cases e
        exact ⟨ho, hb, hc, h1, h2, h3⟩
      · cases e
    · cases e
  · cases e
def renC (xs : List (List Dat)) (col w i : Int) (ps : List (List Dat)) : Hp := [(10000, some (renO 10001 10002 xs col w i ps)), (10001, some (.row 49 6 xs)), (10002, some (.row 34 2 ps))]
def rsg (o b c : Nat) (i : Nat) : Nat := if i = 10002 then c else if i = 10001 then b else o
theorem ren_ok {g : Nat} {args cargs : List AV} {res : AV} {out : List (Nat × AObj)} {new : Bool} {o d : Nat} {hp : Hp} {v : Rv} {e : Eff} (hv : renAt hp.get o = some v)
    (hm : Mt.MtL (rsg o v.b v.c) [] args cargs) (ht : HCall.tidy ⟨rsg o v.b v.c, [], cargs, renC v.xs v.col v.w v.i v.ps, res, out, new⟩ = true)
    (hc : HCalm Try.prog g cargs (renC v.xs v.col v.w v.i v.ps) res (out.map fun p => (p.1, some p.2)))
    (e1 : e.val = res.rn (HCall.τ ⟨rsg o v.b v.c, [], cargs, renC v.xs v.col v.w v.i v.ps, res, out, new⟩ d)) (e2 : ∀ o', Hp.get (e.up ++ hp) o' = Hp.get (HCall.up ⟨rsg o v.b v.c, [], cargs, renC v.xs v.col v.w v.i v.ps, res, out, new⟩ d ++ hp) o') (e3 : e.new = new) :
    ∃ X : HCall, X.tidy = true ∧ HMatch hp args X ∧ HCalm Try.prog g X.args X.chp X.res X.hp' ∧ e.val = X.res.rn (X.τ d) ∧ (∀ o, Hp.get (e.up ++ hp) o = Hp.get (X.up d ++ hp) o) ∧ e.new = X.new := by
  obtain ⟨q1, q2, q3, q4, q5, q6⟩ := renAt_inv hv
  refine ⟨⟨rsg o v.b v.c, [], cargs, renC v.xs v.col v.w v.i v.ps, res, out, new⟩, ht, ⟨hm, ?_, ?_⟩, hc, e1, e2, e3⟩
  · refine ⟨?_, ?_, ?_, trivial⟩
    · rw [if_neg (by simp)]
      simp only [rsg, show ((10000 : Nat) = 10002) = False by simp, show ((10000 : Nat) = 10001) = False by simp, if_false, q1]
      exact ⟨rfl, ⟨⟨by simp, rfl, rfl⟩, .inl rfl, .inl rfl, .inl rfl, ⟨by simp, rfl, rfl⟩, trivial⟩, rfl⟩
    · rw [if_neg (by simp)]
      simp only [rsg, show ((10001 : Nat) = 10002) = False by simp, if_false, if_true, q2]
      exact ⟨rfl, rfl, rfl⟩
    · rw [if_neg (by simp)]
      simp only [rsg, if_true, q3]
      exact ⟨rfl, rfl, rfl⟩
  · refine ⟨fun _ i hi _ _ => ?_, fun _ i hi _ _ => ?_, (fun _ i hi => nomatch (show i ∈ ([] : List Nat) from hi)), trivial⟩
    · rcases List.mem_cons.mp (show i ∈ [10001, 10002] from hi) with rfl | hi
      · exact q4
      · rcases List.mem_singleton.mp hi with rfl
        exact q5
    · rcases List.mem_singleton.mp (show i ∈ [10002] from hi) with rfl
      exact q6
def pieceD (s : ByteArray) (f : Int) : List Dat := [.v (.string s), .v (.int .i64 f)]
theorem put_body (xs : List (List Dat)) (col w i : Int) (ps : List (List Dat)) (s : ByteArray) (f : Int) (hl : ps.length ≤ 1000000000) :
    HBody Try.prog Gam.none (DRun Try.prog Gam.none) 36 [.ptr 10000 0, vStr s, vInt .i64 f] (renC xs col w i ps) (.tup []) (([(10000, renO 10001 9000 xs col w i (ps ++ [pieceD s f])), (10001, .row 49 6 xs), (9000, .row 34 2 (ps ++ [pieceD s f]))] : List (Nat × AObj)).map fun p => (p.1, some p.2)) := by
  refine HBody.of Try.func36 Try.ntmps36 (by kernel_rfl) rfl rfl rfl rfl ?_
  simp only [renC, renO, pieceD, goTG_val, goTG_new, goTG_up, goTG_none, goG_none, goG_new, goG_up, ne_eq, evK, evH, retHF, DRun_mk, runT_nil, runT_none, runT_guard, goT_val, goT_new, goT_store, goTH_true, goTH_false, evO, keys, Option.toList_some, Option.toList_none, nzL_nil, nzL_cons, nz_k, nz_sl, nz_nil, nz_agg, startL, evC, evV, goE_val, goE_new, goE_store, goH_true, goH_false, goG_val, lk_cons, lk_nil, lk_func, lk_int, lk_bool, lk_string, lk_slice, lk_agg, look_mk, St.effOf, eff, effCall, effBin, effUn, effConv, effPick, effNil, effFold, fold1, effLoad, effStore, effFieldAddr, effField, fieldOf, sliceOf, effIndexAddr, effIndex, effLen, effExtract, effSlice, bnd, effBuild, placesOf, effBuildSlice, effMakeSlice, effAppend, srcOf, fillA, chunk, seg, toD, toDs, put, eqAV, fieldsEq, leafEq, strip, unw, allB, selP_or, selP_and, tis, TyD.agg, AV.cells, AV.cell, allCell, vInt, vBool, vStr, subL_nil, subL_cons, upIds, AV.ids, AV.ids.idsL, AObj.ids, drops, Hp.get_cons, get_nil, retF, resL, one, fz, fz.fzL, List.map_cons, List.map_nil, List.nil_append, List.append_nil, List.cons_append, List.all_cons, List.all_nil, List.length_cons, List.length_nil, List.getElem?_cons_zero, List.getElem?_cons_succ, List.getD_cons_zero, List.getD_cons_succ, List.take_succ_cons, List.take_zero, List.drop_succ_cons, List.drop_zero, List.take_nil, List.drop_nil, List.contains_cons, List.contains_nil, Option.getD_some, Option.getD_none, Option.map_some, Option.map_none, if_true, if_false, true_and, and_true, and_self, or_self, or_false, false_or, false_and, and_false, reduceCtorEq, sel_and, sel_or, decide_eq_true_eq, Bool.and_eq_true, Bool.or_eq_true, Bool.and_true, Bool.true_and, Bool.or_false, Bool.false_or, Bool.true_or, Bool.or_true, Bool.not_true, Bool.not_false, Bool.false_eq_true, implies_true, not_false_eq_true, Nat.reduceLT, Nat.reduceEqDiff, Nat.reduceAdd, Nat.reduceMul, Nat.reduceMod, Nat.reduceLeDiff, Nat.reduceBEq, Nat.zero_add, Nat.add_zero, reduceIte, ↓reduceIte, List.not_mem_nil]
  refine ⟨by omega, fun o => if o = 9000 then 15 else o, ?_⟩
  simp only [List.length_append, List.length_cons, List.length_nil, List.map_cons, List.map_nil, Mt_tup, Mt_agg, Mt_fn, forall_eq, forall_eq_or_imp, ne_eq, List.all_cons, List.all_nil, pr, Nat.reduceLeDiff, slR_nil, slR_cons, hpR_nil, hpR_cells, hpR_row, idsR_nil, idsR_cons, mtE_v, mtE_sl, mtE_nil, mtE_refl, mtE_row, mtE_born, mtE_ptr, mtE_rp, mtE_agg, mtE_tup, mtE_fn, mtE_ep, MtL_nil, MtL_cons, Mt_v, Mt_sl, Mt_nil, Mt_refl, Mt_row, Mt_born, Mt_ptr, MtO_cells, MtO_row, liveIds, distinct, Dat.v.injEq, Dat.sl.injEq, Value.int.injEq, Value.bool.injEq, Value.string.injEq, lk_cons, lk_nil, subL_nil, subL_cons, upIds, AV.ids, AV.ids.idsL, AObj.ids, Hp.get_cons, get_nil, allCell, AV.cell, vInt, vBool, vStr, id, true_and, and_true, and_self, List.append_nil, List.nil_append, List.not_mem_nil, List.mem_cons, or_false, false_or, or_self, not_true_eq_false, not_false_eq_true, false_imp_iff, false_implies, List.map_nil, not_false_eq_true, List.contains_cons, List.contains_nil, Bool.or_false, Bool.false_or, Bool.true_or, Bool.or_true, Bool.and_true, Bool.true_and, implies_true, if_true, if_false, reduceCtorEq, Nat.reduceEqDiff, Nat.reduceBEq, Nat.reduceAdd, reduceIte, ↓reduceIte]
/-- The new heap, with a row of its own for what is made. -/
def putUp (o d : Nat) (v : Rv) (col : Int) (p : List Dat) : Hp := [(o, some (renO v.b d v.xs col v.w v.i (v.ps ++ [p]))), (v.b, some (.row 49 6 v.xs)), (d, some (.row 34 2 (v.ps ++ [p]))), (v.c, none)]
def F_put (h : Nat → Option AObj) (d : Nat) : List AV → Option Eff
  | [.ptr o 0, .d (.v (.string s)), .d (.v (.int .i64 f))] => match renAt h o with
    | some v => some { sc := v.ps.length ≤ 1000000000, val := .tup [], up := putUp o d v v.col (pieceD s f), new := true }
    | none => none
  | _ => none
theorem put_ok {Γ : Gam} (hG : Gok Try.prog Γ) : Gok Try.prog (Γ.addH 36 F_put) := by
  refine hG.addH fun hp d args e he hsc => ?_
  unfold F_put at he
  split at he
  case h_2 => cases he
  rename_i o s f
  split at he
  case h_2 => cases he
  rename_i v hv
  cases he
  exact ren_ok hv (cargs := [.ptr 10000 0, vStr s, vInt .i64 f]) ⟨⟨by simp, rfl, rfl⟩, .inl rfl, .inl rfl, trivial⟩ rfl ((Known.none _).hcalm mixed rfl (put_body v.xs v.col v.w v.i v.ps s f hsc)) rfl (fun _ => rfl) rfl
noncomputable def G_line : Gam := (Gam.none.addH 36 F_put).add 46 fun a => F_rep (NT.nz.nzL [] a)
theorem gok_line : Gok Try.prog G_line := (put_ok (Known.none _).ok).add fun args sc res h hs _ => (rep_calm _ sc res h hs).nz
theorem G_line_at : (∀ h d a, G_line 36 h d a = F_put h d a) ∧ (∀ h d a, G_line 46 h d a = calmE (fun a => F_rep (NT.nz.nzL [] a)) h a) := ⟨fun _ _ _ => rfl, fun _ _ _ => rfl⟩
theorem rep32 (n : Nat) : Lib.repeatL [32] n = List.replicate n 32 := by
  induction n with
  | zero => rfl
  | succ n ih => rw [Lib.repeatL, ih]; rfl
theorem line_body (xs : List (List Dat)) (col w i lv : Int) (ps : List (List Dat)) (hl : ps.length ≤ 1000000000) (h0 : 0 ≤ lv * i) (h1 : lv * i ≤ 1000000000) :
    HBody Try.prog G_line (DRun Try.prog Gam.none) 38 [.ptr 10000 0, vInt .i64 lv] (renC xs col w i ps) (.tup []) (([(10000, renO 10001 9000 xs (lv * i) w i (ps ++ [pieceD (lineT (lv * i)) (-1)])), (10001, .row 49 6 xs), (9000, .row 34 2 (ps ++ [pieceD (lineT (lv * i)) (-1)]))] : List (Nat × AObj)).map fun p => (p.1, some p.2)) := by
  refine HBody.of Try.func38 Try.ntmps38 (by kernel_rfl) rfl rfl rfl rfl ?_
  have hw : IntKind.i64.wrap (lv * i) = lv * i := w64 (by omega) (by omega)
  simp only [renC, renO, pieceD, hw, rep32, G_line_at, calmE, F_put, F_rep, renAt, putUp, AV.flat, AV.flat.flatL, goTG_val, goTG_new, goTG_up, goTG_none, goG_none, goG_new, goG_up, ne_eq, evK, evH, retHF, DRun_mk, runT_nil, runT_none, runT_guard, goT_val, goT_new, goT_store, goTH_true, goTH_false, evO, keys, Option.toList_some, Option.toList_none, nzL_nil, nzL_cons, nz_k, nz_sl, nz_nil, nz_agg, startL, evC, evV, goE_val, goE_new, goE_store, goH_true, goH_false, goG_val, lk_cons, lk_nil, lk_func, lk_int, lk_bool, lk_string, lk_slice, lk_agg, look_mk, St.effOf, eff, effCall, effBin, effUn, effConv, effPick, effNil, effFold, fold1, effLoad, effStore, effFieldAddr, effField, fieldOf, sliceOf, effIndexAddr, effIndex, effLen, effExtract, effSlice, bnd, effBuild, placesOf, effBuildSlice, effMakeSlice, effAppend, srcOf, fillA, chunk, seg, toD, toDs, put, eqAV, fieldsEq, leafEq, strip, unw, allB, selP_or, selP_and, tis, TyD.agg, AV.cells, AV.cell, allCell, vInt, vBool, vStr, subL_nil, subL_cons, upIds, AV.ids, AV.ids.idsL, AObj.ids, drops, Hp.get_cons, get_nil, retF, resL, one, fz, fz.fzL, List.map_cons, List.map_nil, List.nil_append, List.append_nil, List.cons_append, List.all_cons, List.all_nil, List.length_cons, List.length_nil, List.getElem?_cons_zero, List.getElem?_cons_succ, List.getD_cons_zero, List.getD_cons_succ, List.take_succ_cons, List.take_zero, List.drop_succ_cons, List.drop_zero, List.take_nil, List.drop_nil, List.contains_cons, List.contains_nil, Option.getD_some, Option.getD_none, Option.map_some, Option.map_none, if_true, if_false, true_and, and_true, and_self, or_self, or_false, false_or, false_and, and_false, reduceCtorEq, sel_and, sel_or, decide_eq_true_eq, Bool.and_eq_true, Bool.or_eq_true, Bool.and_true, Bool.true_and, Bool.or_false, Bool.false_or, Bool.true_or, Bool.or_true, Bool.not_true, Bool.not_false, Bool.false_eq_true, implies_true, not_false_eq_true, Nat.reduceLT, Nat.reduceEqDiff, Nat.reduceAdd, Nat.reduceMul, Nat.reduceMod, Nat.reduceLeDiff, Nat.reduceBEq, Nat.zero_add, Nat.add_zero, reduceIte, ↓reduceIte, List.not_mem_nil]
  refine ⟨⟨h0, by omega, by show 1 * _ ≤ _; omega⟩, by rw [ba_size (List.replicate _ _), List.length_replicate]; show ((1 + _ : Nat) : Int) ≤ _; omega, hl, fun o => if o = 9000 then 20 else o, ?_⟩
  simp only [lineT, blanksB, List.length_append, List.length_cons, List.length_nil, List.map_cons, List.map_nil, Mt_tup, Mt_agg, Mt_fn, forall_eq, forall_eq_or_imp, ne_eq, List.all_cons, List.all_nil, pr, Nat.reduceLeDiff, slR_nil, slR_cons, hpR_nil, hpR_cells, hpR_row, idsR_nil, idsR_cons, mtE_v, mtE_sl, mtE_nil, mtE_refl, mtE_row, mtE_born, mtE_ptr, mtE_rp, mtE_agg, mtE_tup, mtE_fn, mtE_ep, MtL_nil, MtL_cons, Mt_v, Mt_sl, Mt_nil, Mt_refl, Mt_row, Mt_born, Mt_ptr, MtO_cells, MtO_row, liveIds, distinct, Dat.v.injEq, Dat.sl.injEq, Value.int.injEq, Value.bool.injEq, Value.string.injEq, lk_cons, lk_nil, subL_nil, subL_cons, upIds, AV.ids, AV.ids.idsL, AObj.ids, Hp.get_cons, get_nil, allCell, AV.cell, vInt, vBool, vStr, id, true_and, and_true, and_self, List.append_nil, List.nil_append, List.not_mem_nil, List.mem_cons, or_false, false_or, or_self, not_true_eq_false, not_false_eq_true, false_imp_iff, false_implies, List.map_nil, not_false_eq_true, List.contains_cons, List.contains_nil, Bool.or_false, Bool.false_or, Bool.true_or, Bool.or_true, Bool.and_true, Bool.true_and, implies_true, if_true, if_false, reduceCtorEq, Nat.reduceEqDiff, Nat.reduceBEq, Nat.reduceAdd, reduceIte, ↓reduceIte]
def lineUp (o d : Nat) (v : Rv) (col : Int) (p : List Dat) : Hp := putUp o d v col p
def F_line (h : Nat → Option AObj) (d : Nat) : List AV → Option Eff
  | [.ptr o 0, .d (.v (.int .i64 lv))] => match renAt h o with
    | some v => some { sc := v.ps.length ≤ 1000000000 ∧ 0 ≤ lv * v.i ∧ lv * v.i ≤ 1000000000, val := .tup [], up := putUp o d v (lv * v.i) (pieceD (lineT (lv * v.i)) (-1)), new := true }
    | none => none
  | _ => none
theorem line_ok {Γ : Gam} (hG : Gok Try.prog Γ) : Gok Try.prog (Γ.addH 38 F_line) := by
  refine hG.addH fun hp d args e he hsc => ?_
  unfold F_line at he
  split at he
  case h_2 => cases he
  rename_i o lv
  split at he
  case h_2 => cases he
  rename_i v hv
  cases he
  exact ren_ok hv (cargs := [.ptr 10000 0, vInt .i64 lv]) ⟨⟨by simp, rfl, rfl⟩, .inl rfl, trivial⟩ rfl (HBody.calm gok_line (draws0 _) rfl (line_body v.xs v.col v.w v.i lv v.ps hsc.1 hsc.2.1 hsc.2.2)) rfl (fun _ => rfl) rfl
/-- The kids, the last one first. -/
def kidsD (x : It) : List (List Dat) := x.d.kids.reverse.map fun d => itD ⟨d, x.lv, x.fl⟩
theorem kids_body (xs : List (List Dat)) (x : It) (col w i : Int) (ps : List (List Dat)) (hl : xs.length + x.d.kids.length ≤ 1000000000) :
    HBody Try.prog Gam.none (DRun Try.prog Gam.none) 40 [.ptr 10000 0, .agg ((itD x).map .d)] (renC xs col w i ps) (.tup []) (([(10000, renO 9000 10002 (xs ++ kidsD x) col w i ps), (9000, .row 49 6 (xs ++ kidsD x)), (10002, .row 34 2 ps)] : List (Nat × AObj)).map fun p => (p.1, some p.2)) := by
  refine HBody.of Try.func40 Try.ntmps40 (by kernel_rfl) rfl rfl rfl rfl ?_
  simp only [renC, renO, itD_eq, List.length_map, List.map_cons, List.map_nil, goTG_val, goTG_new, goTG_up, goTG_none, goG_none, goG_new, goG_up, ne_eq, evK, evH, retHF, DRun_mk, runT_nil, runT_none, runT_guard, goT_val, goT_new, goT_store, goTH_true, goTH_false, evO, keys, Option.toList_some, Option.toList_none, nzL_nil, nzL_cons, nz_k, nz_sl, nz_nil, nz_agg, startL, evC, evV, goE_val, goE_new, goE_store, goH_true, goH_false, goG_val, lk_cons, lk_nil, lk_func, lk_int, lk_bool, lk_string, lk_slice, lk_agg, look_mk, St.effOf, eff, effCall, effBin, effUn, effConv, effPick, effNil, effFold, fold1, effLoad, effStore, effFieldAddr, effField, fieldOf, sliceOf, effIndexAddr, effIndex, effLen, effExtract, effSlice, bnd, effBuild, placesOf, effBuildSlice, effMakeSlice, effAppend, srcOf, fillA, chunk, seg, toD, toDs, put, eqAV, fieldsEq, leafEq, strip, unw, allB, selP_or, selP_and, tis, TyD.agg, AV.cells, AV.cell, allCell, vInt, vBool, vStr, subL_nil, subL_cons, upIds, AV.ids, AV.ids.idsL, AObj.ids, drops, Hp.get_cons, get_nil, retF, resL, one, fz, fz.fzL, List.map_cons, List.map_nil, List.nil_append, List.append_nil, List.cons_append, List.all_cons, List.all_nil, List.length_cons, List.length_nil, List.getElem?_cons_zero, List.getElem?_cons_succ, List.getD_cons_zero, List.getD_cons_succ, List.take_succ_cons, List.take_zero, List.drop_succ_cons, List.drop_zero, List.take_nil, List.drop_nil, List.contains_cons, List.contains_nil, Option.getD_some, Option.getD_none, Option.map_some, Option.map_none, if_true, if_false, true_and, and_true, and_self, or_self, or_false, false_or, false_and, and_false, reduceCtorEq, sel_and, sel_or, decide_eq_true_eq, Bool.and_eq_true, Bool.or_eq_true, Bool.and_true, Bool.true_and, Bool.or_false, Bool.false_or, Bool.true_or, Bool.or_true, Bool.not_true, Bool.not_false, Bool.false_eq_true, implies_true, not_false_eq_true, Nat.reduceLT, Nat.reduceEqDiff, Nat.reduceAdd, Nat.reduceMul, Nat.reduceMod, Nat.reduceLeDiff, Nat.reduceBEq, Nat.zero_add, Nat.add_zero, reduceIte, ↓reduceIte, List.not_mem_nil]
  refine wpc_loop (fun j : Nat => ⟨34, [3, 10000, 101, 10002], [(0, .ptr 10000 0), (3, .ptr 3 0), (4, vInt .i64 ((x.d.kids.length : Int) - 1 - j))], [(3, some (.cells 49 ((itD x).map .d))), (10000, some (renO 101 10002 (xs ++ (kidsD x).take j) col w i ps)), (101, some (.row 49 6 (xs ++ (kidsD x).take j))), (10002, some (.row 34 2 ps))]⟩) (fun j => j ≤ x.d.kids.length) (fun j => x.d.kids.length - j) 0 (Nat.zero_le _) ?_ ?_
  · refine Le.of (fun o => if o = 101 then 10001 else o) [] ?_
    simp only [renO, itD_eq, List.take_zero, List.append_nil, List.map_cons, List.map_nil, Mt_tup, Mt_agg, Mt_fn, forall_eq, forall_eq_or_imp, ne_eq, List.all_cons, List.all_nil, pr, Nat.reduceLeDiff, slR_nil, slR_cons, hpR_nil, hpR_cells, hpR_row, idsR_nil, idsR_cons, mtE_v, mtE_sl, mtE_nil, mtE_refl, mtE_row, mtE_born, mtE_ptr, mtE_rp, mtE_agg, mtE_tup, mtE_fn, mtE_ep, MtL_nil, MtL_cons, Mt_v, Mt_sl, Mt_nil, Mt_refl, Mt_row, Mt_born, Mt_ptr, MtO_cells, MtO_row, liveIds, distinct, Dat.v.injEq, Dat.sl.injEq, Value.int.injEq, Value.bool.injEq, Value.string.injEq, lk_cons, lk_nil, subL_nil, subL_cons, upIds, AV.ids, AV.ids.idsL, AObj.ids, Hp.get_cons, get_nil, allCell, AV.cell, vInt, vBool, vStr, id, true_and, and_true, and_self, List.append_nil, List.nil_append, List.not_mem_nil, List.mem_cons, or_false, false_or, or_self, not_true_eq_false, not_false_eq_true, false_imp_iff, false_implies, List.map_nil, not_false_eq_true, List.contains_cons, List.contains_nil, Bool.or_false, Bool.false_or, Bool.true_or, Bool.or_true, Bool.and_true, Bool.true_and, implies_true, if_true, if_false, reduceCtorEq, Nat.reduceEqDiff, Nat.reduceBEq, Nat.reduceAdd, reduceIte, ↓reduceIte]
    exact ⟨by rw [w64 (by omega) (by omega)]; omega, rfl⟩
  · intro j hj
    have hkl : (kidsD x).length = x.d.kids.length := by rw [kidsD, List.length_map, List.length_reverse]
    by_cases hj2 : (x.d.kids.length : Int) - 1 - j ≥ 0
    · obtain ⟨d, hd⟩ : ∃ d, x.d.kids[x.d.kids.length - 1 - j]? = some d := ⟨_, List.getElem?_eq_getElem (by omega)⟩
      have hg : ∀ z, (x.d.kids.map docD).getD ((x.d.kids.length : Int) - 1 - j).toNat z = docD d := fun z => by
        rw [show ((x.d.kids.length : Int) - 1 - j).toNat = x.d.kids.length - 1 - j by omega, List.getD_eq_getElem?_getD, List.getElem?_map, hd]; rfl
      have hk : (kidsD x)[j]? = some (itD ⟨d, x.lv, x.fl⟩) := by
        rw [kidsD, List.getElem?_map, List.getElem?_reverse (by omega), hd]; rfl
      simp only [renO, itD_eq, docD_eq, hg, List.length_map, List.map_cons, List.map_nil, goTG_val, goTG_new, goTG_up, goTG_none, goG_none, goG_new, goG_up, ne_eq, evK, evH, retHF, DRun_mk, runT_nil, runT_none, runT_guard, goT_val, goT_new, goT_store, goTH_true, goTH_false, evO, keys, Option.toList_some, Option.toList_none, nzL_nil, nzL_cons, nz_k, nz_sl, nz_nil, nz_agg, startL, evC, evV, goE_val, goE_new, goE_store, goH_true, goH_false, goG_val, lk_cons, lk_nil, lk_func, lk_int, lk_bool, lk_string, lk_slice, lk_agg, look_mk, St.effOf, eff, effCall, effBin, effUn, effConv, effPick, effNil, effFold, fold1, effLoad, effStore, effFieldAddr, effField, fieldOf, sliceOf, effIndexAddr, effIndex, effLen, effExtract, effSlice, bnd, effBuild, placesOf, effBuildSlice, effMakeSlice, effAppend, srcOf, fillA, chunk, seg, toD, toDs, put, eqAV, fieldsEq, leafEq, strip, unw, allB, selP_or, selP_and, tis, TyD.agg, AV.cells, AV.cell, allCell, vInt, vBool, vStr, subL_nil, subL_cons, upIds, AV.ids, AV.ids.idsL, AObj.ids, drops, Hp.get_cons, get_nil, retF, resL, one, fz, fz.fzL, List.map_cons, List.map_nil, List.nil_append, List.append_nil, List.cons_append, List.all_cons, List.all_nil, List.length_cons, List.length_nil, List.getElem?_cons_zero, List.getElem?_cons_succ, List.getD_cons_zero, List.getD_cons_succ, List.take_succ_cons, List.take_zero, List.drop_succ_cons, List.drop_zero, List.take_nil, List.drop_nil, List.contains_cons, List.contains_nil, Option.getD_some, Option.getD_none, Option.map_some, Option.map_none, if_true, if_false, true_and, and_true, and_self, or_self, or_false, false_or, false_and, and_false, reduceCtorEq, sel_and, sel_or, decide_eq_true_eq, Bool.and_eq_true, Bool.or_eq_true, Bool.and_true, Bool.true_and, Bool.or_false, Bool.false_or, Bool.true_or, Bool.or_true, Bool.not_true, Bool.not_false, Bool.false_eq_true, implies_true, not_false_eq_true, Nat.reduceLT, Nat.reduceEqDiff, Nat.reduceAdd, Nat.reduceMul, Nat.reduceMod, Nat.reduceLeDiff, Nat.reduceBEq, Nat.zero_add, Nat.add_zero, reduceIte, ↓reduceIte, List.not_mem_nil]
      rw [if_pos hj2]
      refine ⟨by omega, by rw [List.length_append, List.length_take]; omega, by kernel_rfl, j + 1, by omega, by omega, Le.of (fun o => if o = 101 then 31 else o) [] ?_⟩
      simp only [renO, take_at hk, itD_eq, docD_eq, ← List.append_assoc, List.map_cons, List.map_nil, Mt_tup, Mt_agg, Mt_fn, forall_eq, forall_eq_or_imp, ne_eq, List.all_cons, List.all_nil, pr, Nat.reduceLeDiff, slR_nil, slR_cons, hpR_nil, hpR_cells, hpR_row, idsR_nil, idsR_cons, mtE_v, mtE_sl, mtE_nil, mtE_refl, mtE_row, mtE_born, mtE_ptr, mtE_rp, mtE_agg, mtE_tup, mtE_fn, mtE_ep, MtL_nil, MtL_cons, Mt_v, Mt_sl, Mt_nil, Mt_refl, Mt_row, Mt_born, Mt_ptr, MtO_cells, MtO_row, liveIds, distinct, Dat.v.injEq, Dat.sl.injEq, Value.int.injEq, Value.bool.injEq, Value.string.injEq, lk_cons, lk_nil, subL_nil, subL_cons, upIds, AV.ids, AV.ids.idsL, AObj.ids, Hp.get_cons, get_nil, allCell, AV.cell, vInt, vBool, vStr, id, true_and, and_true, and_self, List.append_nil, List.nil_append, List.not_mem_nil, List.mem_cons, or_false, false_or, or_self, not_true_eq_false, not_false_eq_true, false_imp_iff, false_implies, List.map_nil, not_false_eq_true, List.contains_cons, List.contains_nil, Bool.or_false, Bool.false_or, Bool.true_or, Bool.or_true, Bool.and_true, Bool.true_and, implies_true, if_true, if_false, reduceCtorEq, Nat.reduceEqDiff, Nat.reduceBEq, Nat.reduceAdd, reduceIte, ↓reduceIte]
      exact ⟨by rw [w64 (by omega) (by omega)]; omega, rfl⟩
    · obtain rfl : j = x.d.kids.length := by omega
      simp only [renO, itD_eq, List.length_map, List.map_cons, List.map_nil, goTG_val, goTG_new, goTG_up, goTG_none, goG_none, goG_new, goG_up, ne_eq, evK, evH, retHF, DRun_mk, runT_nil, runT_none, runT_guard, goT_val, goT_new, goT_store, goTH_true, goTH_false, evO, keys, Option.toList_some, Option.toList_none, nzL_nil, nzL_cons, nz_k, nz_sl, nz_nil, nz_agg, startL, evC, evV, goE_val, goE_new, goE_store, goH_true, goH_false, goG_val, lk_cons, lk_nil, lk_func, lk_int, lk_bool, lk_string, lk_slice, lk_agg, look_mk, St.effOf, eff, effCall, effBin, effUn, effConv, effPick, effNil, effFold, fold1, effLoad, effStore, effFieldAddr, effField, fieldOf, sliceOf, effIndexAddr, effIndex, effLen, effExtract, effSlice, bnd, effBuild, placesOf, effBuildSlice, effMakeSlice, effAppend, srcOf, fillA, chunk, seg, toD, toDs, put, eqAV, fieldsEq, leafEq, strip, unw, allB, selP_or, selP_and, tis, TyD.agg, AV.cells, AV.cell, allCell, vInt, vBool, vStr, subL_nil, subL_cons, upIds, AV.ids, AV.ids.idsL, AObj.ids, drops, Hp.get_cons, get_nil, retF, resL, one, fz, fz.fzL, List.map_cons, List.map_nil, List.nil_append, List.append_nil, List.cons_append, List.all_cons, List.all_nil, List.length_cons, List.length_nil, List.getElem?_cons_zero, List.getElem?_cons_succ, List.getD_cons_zero, List.getD_cons_succ, List.take_succ_cons, List.take_zero, List.drop_succ_cons, List.drop_zero, List.take_nil, List.drop_nil, List.contains_cons, List.contains_nil, Option.getD_some, Option.getD_none, Option.map_some, Option.map_none, if_true, if_false, true_and, and_true, and_self, or_self, or_false, false_or, false_and, and_false, reduceCtorEq, sel_and, sel_or, decide_eq_true_eq, Bool.and_eq_true, Bool.or_eq_true, Bool.and_true, Bool.true_and, Bool.or_false, Bool.false_or, Bool.true_or, Bool.or_true, Bool.not_true, Bool.not_false, Bool.false_eq_true, implies_true, not_false_eq_true, Nat.reduceLT, Nat.reduceEqDiff, Nat.reduceAdd, Nat.reduceMul, Nat.reduceMod, Nat.reduceLeDiff, Nat.reduceBEq, Nat.zero_add, Nat.add_zero, reduceIte, ↓reduceIte, List.not_mem_nil]
      rw [if_neg hj2]
      refine ⟨fun o => if o = 9000 then 101 else o, ?_⟩
      rw [List.take_of_length_le (by omega)]
      simp only [renO, List.map_cons, List.map_nil, Mt_tup, Mt_agg, Mt_fn, forall_eq, forall_eq_or_imp, ne_eq, List.all_cons, List.all_nil, pr, Nat.reduceLeDiff, slR_nil, slR_cons, hpR_nil, hpR_cells, hpR_row, idsR_nil, idsR_cons, mtE_v, mtE_sl, mtE_nil, mtE_refl, mtE_row, mtE_born, mtE_ptr, mtE_rp, mtE_agg, mtE_tup, mtE_fn, mtE_ep, MtL_nil, MtL_cons, Mt_v, Mt_sl, Mt_nil, Mt_refl, Mt_row, Mt_born, Mt_ptr, MtO_cells, MtO_row, liveIds, distinct, Dat.v.injEq, Dat.sl.injEq, Value.int.injEq, Value.bool.injEq, Value.string.injEq, lk_cons, lk_nil, subL_nil, subL_cons, upIds, AV.ids, AV.ids.idsL, AObj.ids, Hp.get_cons, get_nil, allCell, AV.cell, vInt, vBool, vStr, id, true_and, and_true, and_self, List.append_nil, List.nil_append, List.not_mem_nil, List.mem_cons, or_false, false_or, or_self, not_true_eq_false, not_false_eq_true, false_imp_iff, false_implies, List.map_nil, not_false_eq_true, List.contains_cons, List.contains_nil, Bool.or_false, Bool.false_or, Bool.true_or, Bool.or_true, Bool.and_true, Bool.true_and, implies_true, if_true, if_false, reduceCtorEq, Nat.reduceEqDiff, Nat.reduceBEq, Nat.reduceAdd, reduceIte, ↓reduceIte]
open Classical in
noncomputable def itsOf (xs : List (List Dat)) : List It := if h : ∃ l : List It, l.map itD = xs then Classical.choose h else []
theorem itD_inj {a b : It} (h : itD a = itD b) : a = b := by
  rw [itD_eq, itD_eq] at h
  simp only [List.cons.injEq, Dat.v.injEq, Value.int.injEq, Value.string.injEq, Value.bool.injEq, Dat.sl.injEq, true_and, and_true] at h
  obtain ⟨h1, h2, h3, h4, h5, h6⟩ := h
  have hd : a.d = b.d := docD_inj _ _ (by rw [docD_eq, docD_eq, h1, h2, h3, h4])
  cases a; cases b
  simp only at hd h5 h6
  subst hd h5 h6; rfl
theorem its_inj : ∀ {a b : List It}, a.map itD = b.map itD → a = b
  | [], [], _ => rfl
  | [], _ :: _, h => by cases h
  | _ :: _, [], h => by cases h
  | x :: a, y :: b, h => by
    rw [List.map_cons, List.map_cons, List.cons.injEq] at h
    rw [itD_inj h.1, its_inj h.2]
theorem itsOf_map (l : List It) : itsOf (l.map itD) = l := by
  have h : ∃ l2 : List It, l2.map itD = l.map itD := ⟨l, rfl⟩
  unfold itsOf
  rw [dif_pos h]
  exact its_inj (Classical.choose_spec h)
noncomputable def F_kids (h : Nat → Option AObj) (d : Nat) : List AV → Option Eff
  | [.ptr o 0, .agg [.d (.v (.int .i64 k)), .d (.v (.int .i64 f)), .d (.v (.string t)), .d (.sl 4 ks), .d (.v (.int .i64 lv)), .d (.v (.bool fl))]] => match renAt h o with
    | some v => some { sc := ks = (docsOf ks).map docD ∧ v.xs.length + (docsOf ks).length ≤ 1000000000, val := .tup [], up := [(o, some (renO d v.c (v.xs ++ kidsD ⟨.mk k f t (docsOf ks), lv, fl⟩) v.col v.w v.i v.ps)), (d, some (.row 49 6 (v.xs ++ kidsD ⟨.mk k f t (docsOf ks), lv, fl⟩))), (v.c, some (.row 34 2 v.ps)), (v.b, none)], new := true }
    | none => none
  | _ => none
theorem Mt_ds (ρ : Nat → Nat) : ∀ l : List Dat, Mt.MtL ρ [] (l.map .d) (l.map .d)
  | [] => trivial
  | x :: l => ⟨.inl rfl, Mt_ds ρ l⟩
theorem kids_ok {Γ : Gam} (hG : Gok Try.prog Γ) : Gok Try.prog (Γ.addH 40 F_kids) := by
  refine hG.addH fun hp d args e he hsc => ?_
  unfold F_kids at he
  split at he
  case h_2 => cases he
  rename_i o k f t ks lv fl
  split at he
  case h_2 => cases he
  rename_i v hv
  cases he
  obtain ⟨q1, q2⟩ := hsc
  have hx : [AV.d (.v (.int .i64 k)), .d (.v (.int .i64 f)), .d (.v (.string t)), .d (.sl 4 ks), .d (.v (.int .i64 lv)), .d (.v (.bool fl))] = (itD ⟨.mk k f t (docsOf ks), lv, fl⟩).map .d := by
    rw [itD_eq]; simp only [List.map_cons, List.map_nil, Doc.k, Doc.f, Doc.t, Doc.kids, ← q1]
  rw [hx]
  exact ren_ok hv (cargs := [.ptr 10000 0, .agg ((itD ⟨.mk k f t (docsOf ks), lv, fl⟩).map .d)]) ⟨⟨by simp, rfl, rfl⟩, Mt_ds _ _, trivial⟩ rfl ((Known.none _).hcalm mixed rfl (kids_body v.xs ⟨.mk k f t (docsOf ks), lv, fl⟩ v.col v.w v.i v.ps q2)) rfl (fun _ => rfl) rfl
noncomputable def G_fit : Gam := (Gam.none.add 47 fun a => F_rwide (NT.nz.nzL [] a)).add 48 fun a => F_rbeh (NT.nz.nzL [] a)
theorem known_fit : Known Try.prog G_fit := ((Known.none _).addC _ rwide_calm).addC _ rbeh_calm
theorem G_fit_at : (∀ h d a, G_fit 47 h d a = calmE (fun a => F_rwide (NT.nz.nzL [] a)) h a) ∧ (∀ h d a, G_fit 48 h d a = calmE (fun a => F_rbeh (NT.nz.nzL [] a)) h a) := ⟨fun _ _ _ => rfl, fun _ _ _ => rfl⟩
theorem trr_rev (l : List It) : trr l.reverse = trr l := by
  induction l with
  | nil => rfl
  | cons x l ih => rw [List.reverse_cons, trr_app, ih, trr, trr, trr]; omega
theorem fits_body (xs : List It) (D : Doc) (col w i : Int) (ps : List (List Dat)) (h1 : okD D) (h2 : right 200 D = true) (h3 : tot D ≤ 1000000) (h4 : ∀ x ∈ xs, okD x.d ∧ right 200 x.d = true) (h5 : trr xs ≤ 1000000) (h6 : xs.length ≤ 1000000000) (h7 : 0 ≤ col) (h8 : col ≤ 1000000000) :
    HBody Try.prog G_fit (DRun Try.prog G_fit) 39 [.ptr 10000 0, .agg ((docD D).map .d)] (renC (xs.map itD) col w i ps) (vBool (fitsR w col D xs.reverse)) (([(10000, renO 10001 10002 (xs.map itD) col w i ps), (10001, .row 49 6 (xs.map itD)), (10002, .row 34 2 ps)] : List (Nat × AObj)).map fun p => (p.1, some p.2)) := by
  refine HBody.of Try.func39 Try.ntmps39 (by kernel_rfl) rfl rfl rfl rfl ?_
  have hfw := fw_le D
  have hs := sumB_le xs.reverse
  rw [trr_rev] at hs
  simp only [renC, renO, docD_eq, docsOf_map, Doc.eta, G_fit_at, calmE, F_rwide, F_rbeh, AV.flat, AV.flat.flatL, List.length_map, List.map_cons, List.map_nil, goTG_val, goTG_new, goTG_up, goTG_none, goG_none, goG_new, goG_up, ne_eq, evK, evH, retHF, DRun_mk, runT_nil, runT_none, runT_guard, goT_val, goT_new, goT_store, goTH_true, goTH_false, evO, keys, Option.toList_some, Option.toList_none, nzL_nil, nzL_cons, nz_k, nz_sl, nz_nil, nz_agg, startL, evC, evV, goE_val, goE_new, goE_store, goH_true, goH_false, goG_val, lk_cons, lk_nil, lk_func, lk_int, lk_bool, lk_string, lk_slice, lk_agg, look_mk, St.effOf, eff, effCall, effBin, effUn, effConv, effPick, effNil, effFold, fold1, effLoad, effStore, effFieldAddr, effField, fieldOf, sliceOf, effIndexAddr, effIndex, effLen, effExtract, effSlice, bnd, effBuild, placesOf, effBuildSlice, effMakeSlice, effAppend, srcOf, fillA, chunk, seg, toD, toDs, put, eqAV, fieldsEq, leafEq, strip, unw, allB, selP_or, selP_and, tis, TyD.agg, AV.cells, AV.cell, allCell, vInt, vBool, vStr, subL_nil, subL_cons, upIds, AV.ids, AV.ids.idsL, AObj.ids, drops, Hp.get_cons, get_nil, retF, resL, one, fz, fz.fzL, List.map_cons, List.map_nil, List.nil_append, List.append_nil, List.cons_append, List.all_cons, List.all_nil, List.length_cons, List.length_nil, List.getElem?_cons_zero, List.getElem?_cons_succ, List.getD_cons_zero, List.getD_cons_succ, List.take_succ_cons, List.take_zero, List.drop_succ_cons, List.drop_zero, List.take_nil, List.drop_nil, List.contains_cons, List.contains_nil, Option.getD_some, Option.getD_none, Option.map_some, Option.map_none, if_true, if_false, true_and, and_true, and_self, or_self, or_false, false_or, false_and, and_false, reduceCtorEq, sel_and, sel_or, decide_eq_true_eq, Bool.and_eq_true, Bool.or_eq_true, Bool.and_true, Bool.true_and, Bool.or_false, Bool.false_or, Bool.true_or, Bool.or_true, Bool.not_true, Bool.not_false, Bool.false_eq_true, implies_true, not_false_eq_true, Nat.reduceLT, Nat.reduceEqDiff, Nat.reduceAdd, Nat.reduceMul, Nat.reduceMod, Nat.reduceLeDiff, Nat.reduceBEq, Nat.zero_add, Nat.add_zero, reduceIte, ↓reduceIte, List.not_mem_nil]
  refine ⟨⟨h1, h2, by omega⟩, ?_⟩
  unfold fitsR
  cases hok : (rfS D).2 with
  | false =>
    rw [if_pos (show (!false) = true from rfl)]
    refine ⟨id, ?_⟩
    simp only [renO, Bool.false_and, List.length_map, List.map_cons, List.map_nil, Mt_tup, Mt_agg, Mt_fn, forall_eq, forall_eq_or_imp, ne_eq, List.all_cons, List.all_nil, pr, Nat.reduceLeDiff, slR_nil, slR_cons, hpR_nil, hpR_cells, hpR_row, idsR_nil, idsR_cons, mtE_v, mtE_sl, mtE_nil, mtE_refl, mtE_row, mtE_born, mtE_ptr, mtE_rp, mtE_agg, mtE_tup, mtE_fn, mtE_ep, MtL_nil, MtL_cons, Mt_v, Mt_sl, Mt_nil, Mt_refl, Mt_row, Mt_born, Mt_ptr, MtO_cells, MtO_row, liveIds, distinct, Dat.v.injEq, Dat.sl.injEq, Value.int.injEq, Value.bool.injEq, Value.string.injEq, lk_cons, lk_nil, subL_nil, subL_cons, upIds, AV.ids, AV.ids.idsL, AObj.ids, Hp.get_cons, get_nil, allCell, AV.cell, vInt, vBool, vStr, id, true_and, and_true, and_self, List.append_nil, List.nil_append, List.not_mem_nil, List.mem_cons, or_false, false_or, or_self, not_true_eq_false, not_false_eq_true, false_imp_iff, false_implies, List.map_nil, not_false_eq_true, List.contains_cons, List.contains_nil, Bool.or_false, Bool.false_or, Bool.true_or, Bool.or_true, Bool.and_true, Bool.true_and, implies_true, if_true, if_false, reduceCtorEq, Nat.reduceEqDiff, Nat.reduceBEq, Nat.reduceAdd, reduceIte, ↓reduceIte]
  | true =>
  rw [if_neg (by decide), w64 (n := fw D + col) (by omega) (by omega), Bool.true_and]
  refine wpc_loop (fun q : Nat × Int × Bool => ⟨76, [10000, 10001, 10002], [(0, .ptr 10000 0), (5, vInt .i64 q.2.1), (7, vBool q.2.2), (8, vInt .i64 ((xs.length : Int) - 1 - q.1))], [(10000, some (renO 10001 10002 (xs.map itD) col w i ps)), (10001, some (.row 49 6 (xs.map itD))), (10002, some (.row 34 2 ps))]⟩)
    (fun q => q.1 ≤ xs.length ∧ 0 ≤ q.2.1 ∧ q.2.1 + trr (xs.reverse.drop q.1) ≤ 3000000000 ∧ (q.2.2 = false → (q.2.1 + sumB (xs.reverse.drop q.1) ≤ w ↔ col + fw D + sumB xs.reverse ≤ w)) ∧ (q.2.2 = true → (q.2.1 ≤ w ↔ col + fw D + sumB xs.reverse ≤ w)))
    (fun q => xs.length - q.1) (0, fw D + col, false) ⟨Nat.zero_le _, by simp only []; omega, by simp only [List.drop_zero, trr_rev]; omega, fun _ => by simp only [List.drop_zero]; omega, fun h => by cases h⟩ ?_ ?_
  · refine Le.of id [] ?_
    simp only [renO, List.length_map, Mt_tup, Mt_agg, Mt_fn, forall_eq, forall_eq_or_imp, ne_eq, List.all_cons, List.all_nil, pr, Nat.reduceLeDiff, slR_nil, slR_cons, hpR_nil, hpR_cells, hpR_row, idsR_nil, idsR_cons, mtE_v, mtE_sl, mtE_nil, mtE_refl, mtE_row, mtE_born, mtE_ptr, mtE_rp, mtE_agg, mtE_tup, mtE_fn, mtE_ep, MtL_nil, MtL_cons, Mt_v, Mt_sl, Mt_nil, Mt_refl, Mt_row, Mt_born, Mt_ptr, MtO_cells, MtO_row, liveIds, distinct, Dat.v.injEq, Dat.sl.injEq, Value.int.injEq, Value.bool.injEq, Value.string.injEq, lk_cons, lk_nil, subL_nil, subL_cons, upIds, AV.ids, AV.ids.idsL, AObj.ids, Hp.get_cons, get_nil, allCell, AV.cell, vInt, vBool, vStr, id, true_and, and_true, and_self, List.append_nil, List.nil_append, List.not_mem_nil, List.mem_cons, or_false, false_or, or_self, not_true_eq_false, not_false_eq_true, false_imp_iff, false_implies, List.map_nil, not_false_eq_true, List.contains_cons, List.contains_nil, Bool.or_false, Bool.false_or, Bool.true_or, Bool.or_true, Bool.and_true, Bool.true_and, implies_true, if_true, if_false, reduceCtorEq, Nat.reduceEqDiff, Nat.reduceBEq, Nat.reduceAdd, reduceIte, ↓reduceIte]
    first | exact ⟨by rw [w64 (by omega) (by omega)]; omega, rfl⟩ | (rw [w64 (by omega) (by omega)]; omega) | (trace_state; sorry)
  · rintro ⟨j, n, st⟩ ⟨hj, h0, hb, hA, hB⟩
    simp only [] at hj h0 hb hA hB
    by_cases hj2 : (xs.length : Int) - 1 - j ≥ 0
    · obtain ⟨x, hx⟩ : ∃ x, xs.reverse[j]? = some x := ⟨_, List.getElem?_eq_getElem (by rw [List.length_reverse]; omega)⟩
      have hx2 : xs[xs.length - 1 - j]? = some x := by rw [List.getElem?_reverse (by omega)] at hx; exact hx
      have hg : ∀ z, (xs.map itD).getD ((xs.length : Int) - 1 - j).toNat z = itD x := fun z => by
        rw [show ((xs.length : Int) - 1 - j).toNat = xs.length - 1 - j by omega, List.getD_eq_getElem?_getD, List.getElem?_map, hx2]; rfl
      have hdr := drop_at hx
      rw [hdr, trr] at hb
      rw [hdr] at hA
      obtain ⟨o1, o2⟩ := h4 x (List.mem_of_getElem? hx2)
      have e1 := fw_le x.d
      have e2 := bw_le x.d
      have e3 := sumB_le (xs.reverse.drop (j + 1))
      have ht : tot x.d ≤ 1000000 := by
        have : trr (xs.reverse.drop j) ≤ trr xs.reverse := by
          have := trr_app (xs.reverse.take j) (xs.reverse.drop j)
          rw [List.take_append_drop] at this; omega
        rw [hdr, trr, trr_rev] at this; omega
      simp only [renO, hg, itD_eq, docsOf_map, Doc.eta, G_fit_at, calmE, F_rwide, F_rbeh, AV.flat, AV.flat.flatL, List.length_map, List.map_cons, List.map_nil, goTG_val, goTG_new, goTG_up, goTG_none, goG_none, goG_new, goG_up, ne_eq, evK, evH, retHF, DRun_mk, runT_nil, runT_none, runT_guard, goT_val, goT_new, goT_store, goTH_true, goTH_false, evO, keys, Option.toList_some, Option.toList_none, nzL_nil, nzL_cons, nz_k, nz_sl, nz_nil, nz_agg, startL, evC, evV, goE_val, goE_new, goE_store, goH_true, goH_false, goG_val, lk_cons, lk_nil, lk_func, lk_int, lk_bool, lk_string, lk_slice, lk_agg, look_mk, St.effOf, eff, effCall, effBin, effUn, effConv, effPick, effNil, effFold, fold1, effLoad, effStore, effFieldAddr, effField, fieldOf, sliceOf, effIndexAddr, effIndex, effLen, effExtract, effSlice, bnd, effBuild, placesOf, effBuildSlice, effMakeSlice, effAppend, srcOf, fillA, chunk, seg, toD, toDs, put, eqAV, fieldsEq, leafEq, strip, unw, allB, selP_or, selP_and, tis, TyD.agg, AV.cells, AV.cell, allCell, vInt, vBool, vStr, subL_nil, subL_cons, upIds, AV.ids, AV.ids.idsL, AObj.ids, drops, Hp.get_cons, get_nil, retF, resL, one, fz, fz.fzL, List.map_cons, List.map_nil, List.nil_append, List.append_nil, List.cons_append, List.all_cons, List.all_nil, List.length_cons, List.length_nil, List.getElem?_cons_zero, List.getElem?_cons_succ, List.getD_cons_zero, List.getD_cons_succ, List.take_succ_cons, List.take_zero, List.drop_succ_cons, List.drop_zero, List.take_nil, List.drop_nil, List.contains_cons, List.contains_nil, Option.getD_some, Option.getD_none, Option.map_some, Option.map_none, if_true, if_false, true_and, and_true, and_self, or_self, or_false, false_or, false_and, and_false, reduceCtorEq, sel_and, sel_or, decide_eq_true_eq, Bool.and_eq_true, Bool.or_eq_true, Bool.and_true, Bool.true_and, Bool.or_false, Bool.false_or, Bool.true_or, Bool.or_true, Bool.not_true, Bool.not_false, Bool.false_eq_true, implies_true, not_false_eq_true, Nat.reduceLT, Nat.reduceEqDiff, Nat.reduceAdd, Nat.reduceMul, Nat.reduceMod, Nat.reduceLeDiff, Nat.reduceBEq, Nat.zero_add, Nat.add_zero, reduceIte, ↓reduceIte, List.not_mem_nil]
      by_cases c : ((xs.length : Int) - 1 - j ≥ 0 ∧ (!st) = true) ∧ n ≤ w
      · rw [if_pos c]
        obtain rfl : st = false := by
          cases st with
          | false => rfl
          | true => exact absurd c.1.2 (by decide)
        have hA := hA rfl
        rw [sumB] at hA
        refine ⟨⟨by omega, by omega⟩, by omega, ?_⟩
        cases hfl : x.fl with
        | true =>
          rw [hfl, if_pos rfl] at hA
          rw [if_pos rfl, w64 (n := n + fw x.d) (by omega) (by omega)]
          refine ⟨⟨o1, o2, by omega⟩, (j + 1, n + fw x.d, false), by simp only []; omega, ⟨by simp only []; omega, by simp only []; omega, by simp only []; omega, fun _ => by simp only []; omega, fun h => by cases h⟩, Le.of id [] ?_⟩
          simp only [renO, List.length_map, Mt_tup, Mt_agg, Mt_fn, forall_eq, forall_eq_or_imp, ne_eq, List.all_cons, List.all_nil, pr, Nat.reduceLeDiff, slR_nil, slR_cons, hpR_nil, hpR_cells, hpR_row, idsR_nil, idsR_cons, mtE_v, mtE_sl, mtE_nil, mtE_refl, mtE_row, mtE_born, mtE_ptr, mtE_rp, mtE_agg, mtE_tup, mtE_fn, mtE_ep, MtL_nil, MtL_cons, Mt_v, Mt_sl, Mt_nil, Mt_refl, Mt_row, Mt_born, Mt_ptr, MtO_cells, MtO_row, liveIds, distinct, Dat.v.injEq, Dat.sl.injEq, Value.int.injEq, Value.bool.injEq, Value.string.injEq, lk_cons, lk_nil, subL_nil, subL_cons, upIds, AV.ids, AV.ids.idsL, AObj.ids, Hp.get_cons, get_nil, allCell, AV.cell, vInt, vBool, vStr, id, true_and, and_true, and_self, List.append_nil, List.nil_append, List.not_mem_nil, List.mem_cons, or_false, false_or, or_self, not_true_eq_false, not_false_eq_true, false_imp_iff, false_implies, List.map_nil, not_false_eq_true, List.contains_cons, List.contains_nil, Bool.or_false, Bool.false_or, Bool.true_or, Bool.or_true, Bool.and_true, Bool.true_and, implies_true, if_true, if_false, reduceCtorEq, Nat.reduceEqDiff, Nat.reduceBEq, Nat.reduceAdd, reduceIte, ↓reduceIte]
          first | exact ⟨by rw [w64 (by omega) (by omega)]; omega, rfl⟩ | (rw [w64 (by omega) (by omega)]; omega) | (trace_state; sorry)
        | false =>
          rw [hfl, if_neg (by decide)] at hA
          rw [if_neg (by decide), w64 (n := n + (bw x.d).1) (by omega) (by omega)]
          refine ⟨⟨o1, by omega⟩, (j + 1, n + (bw x.d).1, (bw x.d).2), by simp only []; omega, ⟨by simp only []; omega, by simp only []; omega, by simp only []; omega, fun h => ?_, fun h => ?_⟩, Le.of id [] ?_⟩
          · simp only [] at h ⊢
            rw [if_neg (by rw [h]; decide)] at hA; omega
          · simp only [] at h ⊢
            rw [if_pos h] at hA; omega
          · simp only [renO, List.length_map, Mt_tup, Mt_agg, Mt_fn, forall_eq, forall_eq_or_imp, ne_eq, List.all_cons, List.all_nil, pr, Nat.reduceLeDiff, slR_nil, slR_cons, hpR_nil, hpR_cells, hpR_row, idsR_nil, idsR_cons, mtE_v, mtE_sl, mtE_nil, mtE_refl, mtE_row, mtE_born, mtE_ptr, mtE_rp, mtE_agg, mtE_tup, mtE_fn, mtE_ep, MtL_nil, MtL_cons, Mt_v, Mt_sl, Mt_nil, Mt_refl, Mt_row, Mt_born, Mt_ptr, MtO_cells, MtO_row, liveIds, distinct, Dat.v.injEq, Dat.sl.injEq, Value.int.injEq, Value.bool.injEq, Value.string.injEq, lk_cons, lk_nil, subL_nil, subL_cons, upIds, AV.ids, AV.ids.idsL, AObj.ids, Hp.get_cons, get_nil, allCell, AV.cell, vInt, vBool, vStr, id, true_and, and_true, and_self, List.append_nil, List.nil_append, List.not_mem_nil, List.mem_cons, or_false, false_or, or_self, not_true_eq_false, not_false_eq_true, false_imp_iff, false_implies, List.map_nil, not_false_eq_true, List.contains_cons, List.contains_nil, Bool.or_false, Bool.false_or, Bool.true_or, Bool.or_true, Bool.and_true, Bool.true_and, implies_true, if_true, if_false, reduceCtorEq, Nat.reduceEqDiff, Nat.reduceBEq, Nat.reduceAdd, reduceIte, ↓reduceIte]
            first | exact ⟨by rw [w64 (by omega) (by omega)]; omega, rfl⟩ | (rw [w64 (by omega) (by omega)]; omega) | (trace_state; sorry)
      · rw [if_neg c]
        have hfin : n ≤ w ↔ col + fw D + sumB xs.reverse ≤ w := by
          cases st with
          | true => exact hB rfl
          | false =>
            have hA := hA rfl
            have : ¬ n ≤ w := fun h => c ⟨⟨hj2, rfl⟩, h⟩
            have e4 := sumB_le (x :: xs.reverse.drop (j + 1))
            omega
        refine ⟨id, ?_⟩
        simp only [renO, hfin, List.length_map, Mt_tup, Mt_agg, Mt_fn, forall_eq, forall_eq_or_imp, ne_eq, List.all_cons, List.all_nil, pr, Nat.reduceLeDiff, slR_nil, slR_cons, hpR_nil, hpR_cells, hpR_row, idsR_nil, idsR_cons, mtE_v, mtE_sl, mtE_nil, mtE_refl, mtE_row, mtE_born, mtE_ptr, mtE_rp, mtE_agg, mtE_tup, mtE_fn, mtE_ep, MtL_nil, MtL_cons, Mt_v, Mt_sl, Mt_nil, Mt_refl, Mt_row, Mt_born, Mt_ptr, MtO_cells, MtO_row, liveIds, distinct, Dat.v.injEq, Dat.sl.injEq, Value.int.injEq, Value.bool.injEq, Value.string.injEq, lk_cons, lk_nil, subL_nil, subL_cons, upIds, AV.ids, AV.ids.idsL, AObj.ids, Hp.get_cons, get_nil, allCell, AV.cell, vInt, vBool, vStr, id, true_and, and_true, and_self, List.append_nil, List.nil_append, List.not_mem_nil, List.mem_cons, or_false, false_or, or_self, not_true_eq_false, not_false_eq_true, false_imp_iff, false_implies, List.map_nil, not_false_eq_true, List.contains_cons, List.contains_nil, Bool.or_false, Bool.false_or, Bool.true_or, Bool.or_true, Bool.and_true, Bool.true_and, implies_true, if_true, if_false, reduceCtorEq, Nat.reduceEqDiff, Nat.reduceBEq, Nat.reduceAdd, reduceIte, ↓reduceIte]
    · have c : ¬ (((xs.length : Int) - 1 - j ≥ 0 ∧ (!st) = true) ∧ n ≤ w) := fun h => hj2 h.1.1
      have hfin : n ≤ w ↔ col + fw D + sumB xs.reverse ≤ w := by
        cases st with
        | true => exact hB rfl
        | false =>
          have hA := hA rfl
          rw [List.drop_eq_nil_of_le (by rw [List.length_reverse]; omega), sumB] at hA
          omega
      simp only [renO, docsOf_map, Doc.eta, G_fit_at, calmE, F_rwide, F_rbeh, AV.flat, AV.flat.flatL, List.length_map, List.map_cons, List.map_nil, goTG_val, goTG_new, goTG_up, goTG_none, goG_none, goG_new, goG_up, ne_eq, evK, evH, retHF, DRun_mk, runT_nil, runT_none, runT_guard, goT_val, goT_new, goT_store, goTH_true, goTH_false, evO, keys, Option.toList_some, Option.toList_none, nzL_nil, nzL_cons, nz_k, nz_sl, nz_nil, nz_agg, startL, evC, evV, goE_val, goE_new, goE_store, goH_true, goH_false, goG_val, lk_cons, lk_nil, lk_func, lk_int, lk_bool, lk_string, lk_slice, lk_agg, look_mk, St.effOf, eff, effCall, effBin, effUn, effConv, effPick, effNil, effFold, fold1, effLoad, effStore, effFieldAddr, effField, fieldOf, sliceOf, effIndexAddr, effIndex, effLen, effExtract, effSlice, bnd, effBuild, placesOf, effBuildSlice, effMakeSlice, effAppend, srcOf, fillA, chunk, seg, toD, toDs, put, eqAV, fieldsEq, leafEq, strip, unw, allB, selP_or, selP_and, tis, TyD.agg, AV.cells, AV.cell, allCell, vInt, vBool, vStr, subL_nil, subL_cons, upIds, AV.ids, AV.ids.idsL, AObj.ids, drops, Hp.get_cons, get_nil, retF, resL, one, fz, fz.fzL, List.map_cons, List.map_nil, List.nil_append, List.append_nil, List.cons_append, List.all_cons, List.all_nil, List.length_cons, List.length_nil, List.getElem?_cons_zero, List.getElem?_cons_succ, List.getD_cons_zero, List.getD_cons_succ, List.take_succ_cons, List.take_zero, List.drop_succ_cons, List.drop_zero, List.take_nil, List.drop_nil, List.contains_cons, List.contains_nil, Option.getD_some, Option.getD_none, Option.map_some, Option.map_none, if_true, if_false, true_and, and_true, and_self, or_self, or_false, false_or, false_and, and_false, reduceCtorEq, sel_and, sel_or, decide_eq_true_eq, Bool.and_eq_true, Bool.or_eq_true, Bool.and_true, Bool.true_and, Bool.or_false, Bool.false_or, Bool.true_or, Bool.or_true, Bool.not_true, Bool.not_false, Bool.false_eq_true, implies_true, not_false_eq_true, Nat.reduceLT, Nat.reduceEqDiff, Nat.reduceAdd, Nat.reduceMul, Nat.reduceMod, Nat.reduceLeDiff, Nat.reduceBEq, Nat.zero_add, Nat.add_zero, reduceIte, ↓reduceIte, List.not_mem_nil]
      rw [if_neg c]
      refine ⟨id, ?_⟩
      simp only [renO, hfin, List.length_map, Mt_tup, Mt_agg, Mt_fn, forall_eq, forall_eq_or_imp, ne_eq, List.all_cons, List.all_nil, pr, Nat.reduceLeDiff, slR_nil, slR_cons, hpR_nil, hpR_cells, hpR_row, idsR_nil, idsR_cons, mtE_v, mtE_sl, mtE_nil, mtE_refl, mtE_row, mtE_born, mtE_ptr, mtE_rp, mtE_agg, mtE_tup, mtE_fn, mtE_ep, MtL_nil, MtL_cons, Mt_v, Mt_sl, Mt_nil, Mt_refl, Mt_row, Mt_born, Mt_ptr, MtO_cells, MtO_row, liveIds, distinct, Dat.v.injEq, Dat.sl.injEq, Value.int.injEq, Value.bool.injEq, Value.string.injEq, lk_cons, lk_nil, subL_nil, subL_cons, upIds, AV.ids, AV.ids.idsL, AObj.ids, Hp.get_cons, get_nil, allCell, AV.cell, vInt, vBool, vStr, id, true_and, and_true, and_self, List.append_nil, List.nil_append, List.not_mem_nil, List.mem_cons, or_false, false_or, or_self, not_true_eq_false, not_false_eq_true, false_imp_iff, false_implies, List.map_nil, not_false_eq_true, List.contains_cons, List.contains_nil, Bool.or_false, Bool.false_or, Bool.true_or, Bool.or_true, Bool.and_true, Bool.true_and, implies_true, if_true, if_false, reduceCtorEq, Nat.reduceEqDiff, Nat.reduceBEq, Nat.reduceAdd, reduceIte, ↓reduceIte]
noncomputable def F_fits (h : Nat → Option AObj) (d : Nat) : List AV → Option Eff
  | [.ptr o 0, .agg [.d (.v (.int .i64 k)), .d (.v (.int .i64 f)), .d (.v (.string t)), .d (.sl 4 ks)]] => match renAt h o with
    | some v => some { sc := (ks = (docsOf ks).map docD ∧ okD (.mk k f t (docsOf ks)) ∧ right 200 (.mk k f t (docsOf ks)) = true ∧ tot (.mk k f t (docsOf ks)) ≤ 1000000) ∧ v.xs = (itsOf v.xs).map itD ∧ (∀ x ∈ itsOf v.xs, okD x.d ∧ right 200 x.d = true) ∧ trr (itsOf v.xs) ≤ 1000000 ∧ (itsOf v.xs).length ≤ 1000000000 ∧ 0 ≤ v.col ∧ v.col ≤ 1000000000, val := vBool (fitsR v.w v.col (.mk k f t (docsOf ks)) (itsOf v.xs).reverse), up := [(o, some (renO v.b v.c v.xs v.col v.w v.i v.ps)), (v.b, some (.row 49 6 v.xs)), (v.c, some (.row 34 2 v.ps))] }
    | none => none
  | _ => none
theorem fits_ok {Γ : Gam} (hG : Gok Try.prog Γ) : Gok Try.prog (Γ.addH 39 F_fits) := by
  refine hG.addH fun hp d args e he hsc => ?_
  unfold F_fits at he
  split at he
  case h_2 => cases he
  rename_i o k f t ks
  split at he
  case h_2 => cases he
  rename_i v hv
  cases he
  obtain ⟨⟨q1, q2, q3, q4⟩, q5, q6, q7, q8, q9, q10⟩ := hsc
  rw [docD_args k f t q1]
  refine ren_ok hv (cargs := [.ptr 10000 0, .agg ((docD (.mk k f t (docsOf ks))).map .d)]) (res := vBool (fitsR v.w v.col (.mk k f t (docsOf ks)) (itsOf v.xs).reverse)) (out := [(10000, renO 10001 10002 v.xs v.col v.w v.i v.ps), (10001, .row 49 6 v.xs), (10002, .row 34 2 v.ps)]) (new := false) ⟨⟨by simp, rfl, rfl⟩, Mt_ds _ _, trivial⟩ rfl ?_ rfl (fun _ => rfl) rfl
  have hb := known_fit.hcalm mixed rfl (fits_body (itsOf v.xs) (.mk k f t (docsOf ks)) v.col v.w v.i v.ps q2 q3 q4 q6 q7 q8 q9 q10)
  rw [← q5] at hb
  exact hb
noncomputable def G_step : Gam := ((((Gam.none.addH 36 F_put).addH 38 F_line).addH 40 F_kids).addH 39 F_fits).add 37 fun a => F_Wide (NT.nz.nzL [] a)
theorem gok_step : Gok Try.prog G_step := (fits_ok (kids_ok (line_ok (put_ok (Known.none _).ok)))).add fun args sc res h hs _ => (Wide_calm _ sc res h hs).nz
theorem G_step_at : (∀ h d a, G_step 36 h d a = F_put h d a) ∧ (∀ h d a, G_step 38 h d a = F_line h d a) ∧ (∀ h d a, G_step 40 h d a = F_kids h d a) ∧ (∀ h d a, G_step 39 h d a = F_fits h d a) ∧ (∀ h d a, G_step 37 h d a = calmE (fun a => F_Wide (NT.nz.nzL [] a)) h a) := ⟨fun _ _ _ => rfl, fun _ _ _ => rfl, fun _ _ _ => rfl, fun _ _ _ => rfl, fun _ _ _ => rfl⟩
end Go.Proofs.Ythcgkfgkknofnaa.Eng
