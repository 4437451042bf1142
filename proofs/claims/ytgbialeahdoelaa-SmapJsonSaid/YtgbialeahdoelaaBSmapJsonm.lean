/- SmapJson: part 13 of 15. -/
import Derived.Test.YtgbialeahdoelaaBSmapJsonl
section
namespace Go.Proofs.Ytgbialeahdoelaa.Eng
open Go Go.Proofs.Ytgbialeahdoelaa.Base
set_option maxRecDepth 100000
set_option linter.unusedSimpArgs false
set_option linter.unusedVariables false
def noU (n : Int) : Prop := n < 0 ∨ n > 65535
instance (n : Int) : Decidable (noU n) := by unfold noU; infer_instance
def F_rj : List AV → Option (Prop × AV)
 | [.d (.v (.int .i64 n))] => some (True, vBool (decide (noU n)))
 | _ => none
theorem rj_body (n : Int) : Body Try.prog Gam.none (DRun Try.prog Gam.none) 66 [vInt .i64 n] (vBool (decide (noU n))) := by
 refine Body.of Try.func66 Try.ntmps66 (by kernel_rfl) rfl rfl rfl ?_
 simp only [goTG_val, goTG_new, goTG_up, goTG_none, goG_none, goG_new, goG_up, ne_eq, evK, evH, retHF, DRun_mk, runT_nil, runT_none, runT_guard, goT_val, goT_new, goT_store, goTH_true, goTH_false, evO, keys, Option.toList_some, Option.toList_none, nzL_nil, nzL_cons, nz_k, nz_sl, nz_nil, nz_agg, startL, evC, evV, goE_val, goE_new, goE_store, goH_true, goH_false, goG_val, lk_cons, lk_nil, lk_func, lk_int, lk_bool, lk_string, lk_slice, lk_agg, look_mk, St.effOf, eff, effCall, effBinC, isConst, effBin, effUn, effConv, effPick, effNil, effFold, fold1, effLoad, effStore, effFieldAddr, effField, fieldOf, sliceOf, effIndexAddr, effIndex, effLen, effExtract, effSlice, dats, bnd, effBuild, placesOf, effBuildSlice, effMakeSlice, effAppend, srcOf, fillA, chunk, seg, toD, toDs, put, eqAV, fieldsEq, leafEq, strip, unw, allB, selP_or, selP_and, tis, TyD.agg, AV.cells, AV.cell, allCell, vInt, vBool, vStr, subL_nil, subL_cons, upIds, AV.ids, AV.ids.idsL, AObj.ids, drops, Hp.get_cons, get_nil, retF, resL, one, fz, fz.fzL, List.map_cons, List.map_nil, List.nil_append, List.append_nil, List.cons_append, List.all_cons, List.all_nil, List.length_cons, List.length_nil, List.getElem?_cons_zero, List.getElem?_cons_succ, List.getD_cons_zero, List.getD_cons_succ, List.take_succ_cons, List.take_zero, List.drop_succ_cons, List.drop_zero, List.take_nil, List.drop_nil, List.contains_cons, List.contains_nil, Option.getD_some, Option.getD_none, Option.map_some, Option.map_none, if_true, if_false, true_and, and_true, and_self, or_self, or_false, false_or, false_and, and_false, reduceCtorEq, sel_and, sel_or, decide_eq_true_eq, Bool.and_eq_true, Bool.or_eq_true, Bool.and_true, Bool.true_and, Bool.or_false, Bool.false_or, Bool.true_or, Bool.or_true, Bool.not_true, Bool.not_false, Bool.false_eq_true, implies_true, not_false_eq_true, Nat.reduceLT, Nat.reduceEqDiff, Nat.reduceAdd, Nat.reduceMul, Nat.reduceMod, Nat.reduceLeDiff, Nat.reduceBEq, Nat.zero_add, Nat.add_zero, reduceIte, ↓reduceIte, List.not_mem_nil]
 refine Sub.eq ?_
 congr 3
 unfold noU
 by_cases h : n < 0
 ·simp [h]
 ·simp [h]
theorem rj_calm : ∀ args sc res, F_rj args = some (sc, res) → sc → Calm Try.prog 66 args res := by
 intro args sc res h _
 unfold F_rj at h
 split at h <;> cases h
 exact (Known.none _).calm mixed rfl rfl (rj_body _)
def firstU (l : List Int) : Int := match l.findIdx? (fun n => decide (noU n)) with | some i => i | none => -1
theorem firstU_at {l : List Int} {j : Nat} {d : Int} (hd : l[j]? = some d) (hk : ∀ k, k < j → ∀ d, l[k]? = some d → ¬ noU d) (hr : noU d) : firstU l = j := by
 have : l.findIdx? (fun n => decide (noU n)) = some j := by
  rw [List.findIdx?_eq_some_iff_getElem]
  obtain ⟨hj, rfl⟩ := List.getElem?_eq_some_iff.mp hd
  exact ⟨hj, by simp [hr], fun k hkj => by simp [hk k hkj _ (List.getElem?_eq_getElem (by omega))]⟩
 unfold firstU; rw [this]
theorem firstU_none {l : List Int} (hk : ∀ (k : Nat) (d : Int), l[k]? = some d → ¬ noU d) : firstU l = -1 := by
 have : l.findIdx? (fun n => decide (noU n)) = none := by
  rw [List.findIdx?_eq_none_iff]
  intro d hd
  obtain ⟨k, hk2⟩ := List.getElem?_of_mem hd
  simp [hk k d hk2]
 unfold firstU; rw [this]
theorem firstU_all (l : List Int) : decide (firstU l ≥ 0) = !decide (Jstr.right l) := by
 by_cases h : Jstr.right l
 ·rw [firstU_none fun k d hd hn => by have := h d (List.mem_of_getElem? hd); unfold noU at hn; omega]
  simp [h]
 ·unfold firstU
  cases h2 : l.findIdx? (fun n => decide (noU n)) with
  | none =>
   rw [List.findIdx?_eq_none_iff] at h2
   refine absurd (fun x hx => ?_) h
   have := h2 x hx
   simp [noU] at this
   omega
  | some i => simp [h]
def F_uix : List AV → Option (Prop × AV)
 | [.d (.sl 1 xs), .fn 66 []] => some (xs = (xs.map numOf).map (iD .i64) ∧ xs.length ≤ 1000000000000, vInt .i64 (firstU (xs.map numOf)))
 | _ => none
noncomputable def G_rj : Gam := Gam.none.add 66 fun a => F_rj (NT.nz.nzL [] a)
theorem G_rj_at (h : Nat → Option AObj) (d : Nat) (a : List AV) : G_rj 66 h d a = calmE (fun a => F_rj (NT.nz.nzL [] a)) h a := rfl
theorem uix_body (l : List Int) (hl : l.length ≤ 1000000000000) : Body Try.prog G_rj (DRun Try.prog G_rj) 76 [.d (intsD l), .fn 66 []] (vInt .i64 (firstU l)) := by
 refine Body.of Try.func76 Try.ntmps76 (by kernel_rfl) rfl rfl rfl ?_
 simp only [intsD, G_rj_at, calmE, F_rj, AV.flat, AV.flat.flatL, iD, List.length_map, goTG_val, goTG_new, goTG_up, goTG_none, goG_none, goG_new, goG_up, ne_eq, evK, evH, retHF, DRun_mk, runT_nil, runT_none, runT_guard, goT_val, goT_new, goT_store, goTH_true, goTH_false, evO, keys, Option.toList_some, Option.toList_none, nzL_nil, nzL_cons, nz_k, nz_sl, nz_nil, nz_agg, startL, evC, evV, goE_val, goE_new, goE_store, goH_true, goH_false, goG_val, lk_cons, lk_nil, lk_func, lk_int, lk_bool, lk_string, lk_slice, lk_agg, look_mk, St.effOf, eff, effCall, effBinC, isConst, effBin, effUn, effConv, effPick, effNil, effFold, fold1, effLoad, effStore, effFieldAddr, effField, fieldOf, sliceOf, effIndexAddr, effIndex, effLen, effExtract, effSlice, dats, bnd, effBuild, placesOf, effBuildSlice, effMakeSlice, effAppend, srcOf, fillA, chunk, seg, toD, toDs, put, eqAV, fieldsEq, leafEq, strip, unw, allB, selP_or, selP_and, tis, TyD.agg, AV.cells, AV.cell, allCell, vInt, vBool, vStr, subL_nil, subL_cons, upIds, AV.ids, AV.ids.idsL, AObj.ids, drops, Hp.get_cons, get_nil, retF, resL, one, fz, fz.fzL, List.map_cons, List.map_nil, List.nil_append, List.append_nil, List.cons_append, List.all_cons, List.all_nil, List.length_cons, List.length_nil, List.getElem?_cons_zero, List.getElem?_cons_succ, List.getD_cons_zero, List.getD_cons_succ, List.take_succ_cons, List.take_zero, List.drop_succ_cons, List.drop_zero, List.take_nil, List.drop_nil, List.contains_cons, List.contains_nil, Option.getD_some, Option.getD_none, Option.map_some, Option.map_none, if_true, if_false, true_and, and_true, and_self, or_self, or_false, false_or, false_and, and_false, reduceCtorEq, sel_and, sel_or, decide_eq_true_eq, Bool.and_eq_true, Bool.or_eq_true, Bool.and_true, Bool.true_and, Bool.or_false, Bool.false_or, Bool.true_or, Bool.or_true, Bool.not_true, Bool.not_false, Bool.false_eq_true, implies_true, not_false_eq_true, Nat.reduceLT, Nat.reduceEqDiff, Nat.reduceAdd, Nat.reduceMul, Nat.reduceMod, Nat.reduceLeDiff, Nat.reduceBEq, Nat.zero_add, Nat.add_zero, reduceIte, ↓reduceIte, List.not_mem_nil]
 refine wpc_loop (fun j : Nat => ⟨19, [], [(0, .d (intsD l)), (1, .fn 66 []), (7, vInt .i64 l.length), (8, vInt .i64 j)], []⟩) (fun j => j ≤ l.length ∧ ∀ k, k < j → ∀ d, l[k]? = some d → ¬ noU d) (fun j => l.length - j) 0 ⟨Nat.zero_le _, fun k hk => absurd hk (Nat.not_lt_zero k)⟩ ?_ ?_
 ·refine Le.of id [] ?_
  simp only [intsD, List.length_map, Mt_tup, Mt_agg, Mt_fn, forall_eq, forall_eq_or_imp, ne_eq, List.all_cons, List.all_nil, pr, Nat.reduceLeDiff, slR_nil, slR_cons, hpR_nil, hpR_cells, hpR_row, idsR_nil, idsR_cons, mtE_v, mtE_sl, mtE_nil, mtE_refl, mtE_row, mtE_born, mtE_ptr, mtE_rp, mtE_agg, mtE_tup, mtE_fn, mtE_ep, MtL_nil, MtL_cons, Mt_v, Mt_sl, Mt_nil, Mt_refl, Mt_row, Mt_born, Mt_ptr, MtO_cells, MtO_row, liveIds, distinct, Dat.v.injEq, Dat.sl.injEq, Value.int.injEq, Value.bool.injEq, Value.string.injEq, lk_cons, lk_nil, subL_nil, subL_cons, upIds, AV.ids, AV.ids.idsL, AObj.ids, Hp.get_cons, get_nil, allCell, AV.cell, vInt, vBool, vStr, id, true_and, and_true, and_self, List.append_nil, List.nil_append, List.not_mem_nil, List.mem_cons, or_false, false_or, or_self, not_true_eq_false, not_false_eq_true, false_imp_iff, false_implies, List.map_nil, not_false_eq_true, List.contains_cons, List.contains_nil, Bool.or_false, Bool.false_or, Bool.true_or, Bool.or_true, Bool.and_true, Bool.true_and, implies_true, if_true, if_false, reduceCtorEq, Nat.reduceEqDiff, Nat.reduceBEq, Nat.reduceAdd, reduceIte, ↓reduceIte]
  rfl
 ·rintro j ⟨hj, hk⟩
  by_cases hj2 : (j : Int) < l.length
  ·obtain ⟨d, hd⟩ : ∃ d, l[j]? = some d := ⟨_, List.getElem?_eq_getElem (by omega)⟩
   have hg : ∀ z, (l.map (iD .i64)).getD (j : Int).toNat z = iD .i64 d := getD_map hd
   simp only [intsD, hg, iD, G_rj_at, calmE, F_rj, AV.flat, AV.flat.flatL, List.length_map, goTG_val, goTG_new, goTG_up, goTG_none, goG_none, goG_new, goG_up, ne_eq, evK, evH, retHF, DRun_mk, runT_nil, runT_none, runT_guard, goT_val, goT_new, goT_store, goTH_true, goTH_false, evO, keys, Option.toList_some, Option.toList_none, nzL_nil, nzL_cons, nz_k, nz_sl, nz_nil, nz_agg, startL, evC, evV, goE_val, goE_new, goE_store, goH_true, goH_false, goG_val, lk_cons, lk_nil, lk_func, lk_int, lk_bool, lk_string, lk_slice, lk_agg, look_mk, St.effOf, eff, effCall, effBinC, isConst, effBin, effUn, effConv, effPick, effNil, effFold, fold1, effLoad, effStore, effFieldAddr, effField, fieldOf, sliceOf, effIndexAddr, effIndex, effLen, effExtract, effSlice, dats, bnd, effBuild, placesOf, effBuildSlice, effMakeSlice, effAppend, srcOf, fillA, chunk, seg, toD, toDs, put, eqAV, fieldsEq, leafEq, strip, unw, allB, selP_or, selP_and, tis, TyD.agg, AV.cells, AV.cell, allCell, vInt, vBool, vStr, subL_nil, subL_cons, upIds, AV.ids, AV.ids.idsL, AObj.ids, drops, Hp.get_cons, get_nil, retF, resL, one, fz, fz.fzL, List.map_cons, List.map_nil, List.nil_append, List.append_nil, List.cons_append, List.all_cons, List.all_nil, List.length_cons, List.length_nil, List.getElem?_cons_zero, List.getElem?_cons_succ, List.getD_cons_zero, List.getD_cons_succ, List.take_succ_cons, List.take_zero, List.drop_succ_cons, List.drop_zero, List.take_nil, List.drop_nil, List.contains_cons, List.contains_nil, Option.getD_some, Option.getD_none, Option.map_some, Option.map_none, if_true, if_false, true_and, and_true, and_self, or_self, or_false, false_or, false_and, and_false, reduceCtorEq, sel_and, sel_or, decide_eq_true_eq, Bool.and_eq_true, Bool.or_eq_true, Bool.and_true, Bool.true_and, Bool.or_false, Bool.false_or, Bool.true_or, Bool.or_true, Bool.not_true, Bool.not_false, Bool.false_eq_true, implies_true, not_false_eq_true, Nat.reduceLT, Nat.reduceEqDiff, Nat.reduceAdd, Nat.reduceMul, Nat.reduceMod, Nat.reduceLeDiff, Nat.reduceBEq, Nat.zero_add, Nat.add_zero, reduceIte, ↓reduceIte, List.not_mem_nil]
   rw [if_pos hj2]
   refine ⟨by omega, ?_⟩
   by_cases hr : noU d
   ·rw [if_pos (by simpa using hr), firstU_at hd hk hr]
   ·rw [if_neg (by simpa using hr)]
    refine ⟨j + 1, by omega, ⟨by omega, fun k hk2 d' hd' => ?_⟩, Le.of id [] ?_⟩
    ·rcases Nat.lt_succ_iff_lt_or_eq.mp hk2 with h | rfl
     ·exact hk k h d' hd'
     ·rw [hd] at hd'; cases hd'; exact hr
    ·simp only [intsD, Mt_tup, Mt_agg, Mt_fn, forall_eq, forall_eq_or_imp, ne_eq, List.all_cons, List.all_nil, pr, Nat.reduceLeDiff, slR_nil, slR_cons, hpR_nil, hpR_cells, hpR_row, idsR_nil, idsR_cons, mtE_v, mtE_sl, mtE_nil, mtE_refl, mtE_row, mtE_born, mtE_ptr, mtE_rp, mtE_agg, mtE_tup, mtE_fn, mtE_ep, MtL_nil, MtL_cons, Mt_v, Mt_sl, Mt_nil, Mt_refl, Mt_row, Mt_born, Mt_ptr, MtO_cells, MtO_row, liveIds, distinct, Dat.v.injEq, Dat.sl.injEq, Value.int.injEq, Value.bool.injEq, Value.string.injEq, lk_cons, lk_nil, subL_nil, subL_cons, upIds, AV.ids, AV.ids.idsL, AObj.ids, Hp.get_cons, get_nil, allCell, AV.cell, vInt, vBool, vStr, id, true_and, and_true, and_self, List.append_nil, List.nil_append, List.not_mem_nil, List.mem_cons, or_false, false_or, or_self, not_true_eq_false, not_false_eq_true, false_imp_iff, false_implies, List.map_nil, not_false_eq_true, List.contains_cons, List.contains_nil, Bool.or_false, Bool.false_or, Bool.true_or, Bool.or_true, Bool.and_true, Bool.true_and, implies_true, if_true, if_false, reduceCtorEq, Nat.reduceEqDiff, Nat.reduceBEq, Nat.reduceAdd, reduceIte, ↓reduceIte]
     exact w64 (by omega) (by omega)
  ·simp only [intsD, iD, G_rj_at, calmE, F_rj, AV.flat, AV.flat.flatL, List.length_map, goTG_val, goTG_new, goTG_up, goTG_none, goG_none, goG_new, goG_up, ne_eq, evK, evH, retHF, DRun_mk, runT_nil, runT_none, runT_guard, goT_val, goT_new, goT_store, goTH_true, goTH_false, evO, keys, Option.toList_some, Option.toList_none, nzL_nil, nzL_cons, nz_k, nz_sl, nz_nil, nz_agg, startL, evC, evV, goE_val, goE_new, goE_store, goH_true, goH_false, goG_val, lk_cons, lk_nil, lk_func, lk_int, lk_bool, lk_string, lk_slice, lk_agg, look_mk, St.effOf, eff, effCall, effBinC, isConst, effBin, effUn, effConv, effPick, effNil, effFold, fold1, effLoad, effStore, effFieldAddr, effField, fieldOf, sliceOf, effIndexAddr, effIndex, effLen, effExtract, effSlice, dats, bnd, effBuild, placesOf, effBuildSlice, effMakeSlice, effAppend, srcOf, fillA, chunk, seg, toD, toDs, put, eqAV, fieldsEq, leafEq, strip, unw, allB, selP_or, selP_and, tis, TyD.agg, AV.cells, AV.cell, allCell, vInt, vBool, vStr, subL_nil, subL_cons, upIds, AV.ids, AV.ids.idsL, AObj.ids, drops, Hp.get_cons, get_nil, retF, resL, one, fz, fz.fzL, List.map_cons, List.map_nil, List.nil_append, List.append_nil, List.cons_append, List.all_cons, List.all_nil, List.length_cons, List.length_nil, List.getElem?_cons_zero, List.getElem?_cons_succ, List.getD_cons_zero, List.getD_cons_succ, List.take_succ_cons, List.take_zero, List.drop_succ_cons, List.drop_zero, List.take_nil, List.drop_nil, List.contains_cons, List.contains_nil, Option.getD_some, Option.getD_none, Option.map_some, Option.map_none, if_true, if_false, true_and, and_true, and_self, or_self, or_false, false_or, false_and, and_false, reduceCtorEq, sel_and, sel_or, decide_eq_true_eq, Bool.and_eq_true, Bool.or_eq_true, Bool.and_true, Bool.true_and, Bool.or_false, Bool.false_or, Bool.true_or, Bool.or_true, Bool.not_true, Bool.not_false, Bool.false_eq_true, implies_true, not_false_eq_true, Nat.reduceLT, Nat.reduceEqDiff, Nat.reduceAdd, Nat.reduceMul, Nat.reduceMod, Nat.reduceLeDiff, Nat.reduceBEq, Nat.zero_add, Nat.add_zero, reduceIte, ↓reduceIte, List.not_mem_nil]
   rw [if_neg hj2, firstU_none fun k d hd => hk k (by have := (List.getElem?_eq_some_iff.mp hd).1; omega) d hd]
theorem nums_map (l : List Int) : (l.map (iD .i64)).map numOf = l := by
 rw [List.map_map]; exact (List.map_congr_left fun x _ => rfl).trans (List.map_id l)
theorem uix_calm : ∀ args sc res, F_uix args = some (sc, res) → sc → Calm Try.prog 76 args res := by
 intro args sc res h hs
 unfold F_uix at h
 split at h <;> cases h
 rename_i xs
 obtain ⟨h1, h2⟩ := hs
 have hb := uix_body (xs.map numOf) (by simpa using h2)
 rw [intsD, ← h1] at hb
 exact ((Known.none _).addC _ rj_calm).calm mixed rfl rfl hb
def F_ucf : List AV → Option (Prop × AV)
 | [.d (.sl 1 xs), .fn 66 []] => some (xs = (xs.map numOf).map (iD .i64) ∧ xs.length ≤ 1000000000000, vBool (!decide (Jstr.right (xs.map numOf))))
 | _ => none
noncomputable def G_uix : Gam := Gam.none.add 76 fun a => F_uix (NT.nz.nzL [.s 1] a)
theorem G_uix_at (h : Nat → Option AObj) (d : Nat) (a : List AV) : G_uix 76 h d a = calmE (fun a => F_uix (NT.nz.nzL [.s 1] a)) h a := rfl
theorem ucf_body (l : List Int) (hl : l.length ≤ 1000000000000) : Body Try.prog G_uix (DRun Try.prog G_uix) 65 [.d (intsD l), .fn 66 []] (vBool (!decide (Jstr.right l))) := by
 refine Body.of Try.func65 Try.ntmps65 (by kernel_rfl) rfl rfl rfl ?_
 simp only [intsD, G_uix_at, calmE, F_uix, AV.flat, AV.flat.flatL, nums_map, List.length_map, goTG_val, goTG_new, goTG_up, goTG_none, goG_none, goG_new, goG_up, ne_eq, evK, evH, retHF, DRun_mk, runT_nil, runT_none, runT_guard, goT_val, goT_new, goT_store, goTH_true, goTH_false, evO, keys, Option.toList_some, Option.toList_none, nzL_nil, nzL_cons, nz_k, nz_sl, nz_nil, nz_agg, startL, evC, evV, goE_val, goE_new, goE_store, goH_true, goH_false, goG_val, lk_cons, lk_nil, lk_func, lk_int, lk_bool, lk_string, lk_slice, lk_agg, look_mk, St.effOf, eff, effCall, effBinC, isConst, effBin, effUn, effConv, effPick, effNil, effFold, fold1, effLoad, effStore, effFieldAddr, effField, fieldOf, sliceOf, effIndexAddr, effIndex, effLen, effExtract, effSlice, dats, bnd, effBuild, placesOf, effBuildSlice, effMakeSlice, effAppend, srcOf, fillA, chunk, seg, toD, toDs, put, eqAV, fieldsEq, leafEq, strip, unw, allB, selP_or, selP_and, tis, TyD.agg, AV.cells, AV.cell, allCell, vInt, vBool, vStr, subL_nil, subL_cons, upIds, AV.ids, AV.ids.idsL, AObj.ids, drops, Hp.get_cons, get_nil, retF, resL, one, fz, fz.fzL, List.map_cons, List.map_nil, List.nil_append, List.append_nil, List.cons_append, List.all_cons, List.all_nil, List.length_cons, List.length_nil, List.getElem?_cons_zero, List.getElem?_cons_succ, List.getD_cons_zero, List.getD_cons_succ, List.take_succ_cons, List.take_zero, List.drop_succ_cons, List.drop_zero, List.take_nil, List.drop_nil, List.contains_cons, List.contains_nil, Option.getD_some, Option.getD_none, Option.map_some, Option.map_none, if_true, if_false, true_and, and_true, and_self, or_self, or_false, false_or, false_and, and_false, reduceCtorEq, sel_and, sel_or, decide_eq_true_eq, Bool.and_eq_true, Bool.or_eq_true, Bool.and_true, Bool.true_and, Bool.or_false, Bool.false_or, Bool.true_or, Bool.or_true, Bool.not_true, Bool.not_false, Bool.false_eq_true, implies_true, not_false_eq_true, Nat.reduceLT, Nat.reduceEqDiff, Nat.reduceAdd, Nat.reduceMul, Nat.reduceMod, Nat.reduceLeDiff, Nat.reduceBEq, Nat.zero_add, Nat.add_zero, reduceIte, ↓reduceIte, List.not_mem_nil]
 refine ⟨hl, ?_⟩
 rw [firstU_all]
theorem ucf_calm : ∀ args sc res, F_ucf args = some (sc, res) → sc → Calm Try.prog 65 args res := by
 intro args sc res h hs
 unfold F_ucf at h
 split at h <;> cases h
 rename_i xs
 obtain ⟨h1, h2⟩ := hs
 have hb := ucf_body (xs.map numOf) (by simpa using h2)
 rw [intsD, ← h1] at hb
 exact ((Known.none _).addC _ uix_calm).calm mixed rfl rfl hb
def F_uright : List AV → Option (Prop × AV)
 | [.d (.sl 1 xs)] => some (xs = (xs.map numOf).map (iD .i64) ∧ xs.length ≤ 1000000000000, vBool (decide (Jstr.right (xs.map numOf))))
 | _ => none
noncomputable def G_ucf : Gam := Gam.none.add 65 fun a => F_ucf (NT.nz.nzL [.s 1] a)
theorem G_ucf_at (h : Nat → Option AObj) (d : Nat) (a : List AV) : G_ucf 65 h d a = calmE (fun a => F_ucf (NT.nz.nzL [.s 1] a)) h a := rfl
theorem uright_body (l : List Int) (hl : l.length ≤ 1000000000000) : Body Try.prog G_ucf (DRun Try.prog G_ucf) 42 [.d (intsD l)] (vBool (decide (Jstr.right l))) := by
 refine Body.of Try.func42 Try.ntmps42 (by kernel_rfl) rfl rfl rfl ?_
 simp only [intsD, G_ucf_at, calmE, F_ucf, AV.flat, AV.flat.flatL, nums_map, Bool.not_not, List.length_map, goTG_val, goTG_new, goTG_up, goTG_none, goG_none, goG_new, goG_up, ne_eq, evK, evH, retHF, DRun_mk, runT_nil, runT_none, runT_guard, goT_val, goT_new, goT_store, goTH_true, goTH_false, evO, keys, Option.toList_some, Option.toList_none, nzL_nil, nzL_cons, nz_k, nz_sl, nz_nil, nz_agg, startL, evC, evV, goE_val, goE_new, goE_store, goH_true, goH_false, goG_val, lk_cons, lk_nil, lk_func, lk_int, lk_bool, lk_string, lk_slice, lk_agg, look_mk, St.effOf, eff, effCall, effBinC, isConst, effBin, effUn, effConv, effPick, effNil, effFold, fold1, effLoad, effStore, effFieldAddr, effField, fieldOf, sliceOf, effIndexAddr, effIndex, effLen, effExtract, effSlice, dats, bnd, effBuild, placesOf, effBuildSlice, effMakeSlice, effAppend, srcOf, fillA, chunk, seg, toD, toDs, put, eqAV, fieldsEq, leafEq, strip, unw, allB, selP_or, selP_and, tis, TyD.agg, AV.cells, AV.cell, allCell, vInt, vBool, vStr, subL_nil, subL_cons, upIds, AV.ids, AV.ids.idsL, AObj.ids, drops, Hp.get_cons, get_nil, retF, resL, one, fz, fz.fzL, List.map_cons, List.map_nil, List.nil_append, List.append_nil, List.cons_append, List.all_cons, List.all_nil, List.length_cons, List.length_nil, List.getElem?_cons_zero, List.getElem?_cons_succ, List.getD_cons_zero, List.getD_cons_succ, List.take_succ_cons, List.take_zero, List.drop_succ_cons, List.drop_zero, List.take_nil, List.drop_nil, List.contains_cons, List.contains_nil, Option.getD_some, Option.getD_none, Option.map_some, Option.map_none, if_true, if_false, true_and, and_true, and_self, or_self, or_false, false_or, false_and, and_false, reduceCtorEq, sel_and, sel_or, decide_eq_true_eq, Bool.and_eq_true, Bool.or_eq_true, Bool.and_true, Bool.true_and, Bool.or_false, Bool.false_or, Bool.true_or, Bool.or_true, Bool.not_true, Bool.not_false, Bool.false_eq_true, implies_true, not_false_eq_true, Nat.reduceLT, Nat.reduceEqDiff, Nat.reduceAdd, Nat.reduceMul, Nat.reduceMod, Nat.reduceLeDiff, Nat.reduceBEq, Nat.zero_add, Nat.add_zero, reduceIte, ↓reduceIte, List.not_mem_nil]
 exact ⟨hl, Sub.refl _⟩
theorem uright_calm : ∀ args sc res, F_uright args = some (sc, res) → sc → Calm Try.prog 42 args res := by
 intro args sc res h hs
 unfold F_uright at h
 split at h <;> cases h
 rename_i xs
 obtain ⟨h1, h2⟩ := hs
 have hb := uright_body (xs.map numOf) (by simpa using h2)
 rw [intsD, ← h1] at hb
 exact ((Known.none _).addC _ ucf_calm).calm mixed rfl rfl hb
theorem ruright_body (l : List Int) (hl : l.length ≤ 1000000000000) : Body Try.prog Gam.none (DRun Try.prog Gam.none) 46 [.d (intsD l)] (vBool (decide (Jstr.right l))) := by
 refine Body.of Try.func46 Try.ntmps46 (by kernel_rfl) rfl rfl rfl ?_
 simp only [intsD, iD, List.length_map, goTG_val, goTG_new, goTG_up, goTG_none, goG_none, goG_new, goG_up, ne_eq, evK, evH, retHF, DRun_mk, runT_nil, runT_none, runT_guard, goT_val, goT_new, goT_store, goTH_true, goTH_false, evO, keys, Option.toList_some, Option.toList_none, nzL_nil, nzL_cons, nz_k, nz_sl, nz_nil, nz_agg, startL, evC, evV, goE_val, goE_new, goE_store, goH_true, goH_false, goG_val, lk_cons, lk_nil, lk_func, lk_int, lk_bool, lk_string, lk_slice, lk_agg, look_mk, St.effOf, eff, effCall, effBinC, isConst, effBin, effUn, effConv, effPick, effNil, effFold, fold1, effLoad, effStore, effFieldAddr, effField, fieldOf, sliceOf, effIndexAddr, effIndex, effLen, effExtract, effSlice, dats, bnd, effBuild, placesOf, effBuildSlice, effMakeSlice, effAppend, srcOf, fillA, chunk, seg, toD, toDs, put, eqAV, fieldsEq, leafEq, strip, unw, allB, selP_or, selP_and, tis, TyD.agg, AV.cells, AV.cell, allCell, vInt, vBool, vStr, subL_nil, subL_cons, upIds, AV.ids, AV.ids.idsL, AObj.ids, drops, Hp.get_cons, get_nil, retF, resL, one, fz, fz.fzL, List.map_cons, List.map_nil, List.nil_append, List.append_nil, List.cons_append, List.all_cons, List.all_nil, List.length_cons, List.length_nil, List.getElem?_cons_zero, List.getElem?_cons_succ, List.getD_cons_zero, List.getD_cons_succ, List.take_succ_cons, List.take_zero, List.drop_succ_cons, List.drop_zero, List.take_nil, List.drop_nil, List.contains_cons, List.contains_nil, Option.getD_some, Option.getD_none, Option.map_some, Option.map_none, if_true, if_false, true_and, and_true, and_self, or_self, or_false, false_or, false_and, and_false, reduceCtorEq, sel_and, sel_or, decide_eq_true_eq, Bool.and_eq_true, Bool.or_eq_true, Bool.and_true, Bool.true_and, Bool.or_false, Bool.false_or, Bool.true_or, Bool.or_true, Bool.not_true, Bool.not_false, Bool.false_eq_true, implies_true, not_false_eq_true, Nat.reduceLT, Nat.reduceEqDiff, Nat.reduceAdd, Nat.reduceMul, Nat.reduceMod, Nat.reduceLeDiff, Nat.reduceBEq, Nat.zero_add, Nat.add_zero, reduceIte, ↓reduceIte, List.not_mem_nil]
 refine wpc_loop (fun j : Nat => ⟨22, [], [(0, .d (intsD l)), (3, vInt .i64 j)], []⟩) (fun j => j ≤ l.length ∧ ∀ k, k < j → ∀ d, l[k]? = some d → 0 ≤ d ∧ d ≤ 65535) (fun j => l.length - j) 0 ⟨Nat.zero_le _, fun k hk => absurd hk (Nat.not_lt_zero k)⟩ ?_ ?_
 ·refine Le.of id [] ?_
  simp only [intsD, List.length_map, Mt_tup, Mt_agg, Mt_fn, forall_eq, forall_eq_or_imp, ne_eq, List.all_cons, List.all_nil, pr, Nat.reduceLeDiff, slR_nil, slR_cons, hpR_nil, hpR_cells, hpR_row, idsR_nil, idsR_cons, mtE_v, mtE_sl, mtE_nil, mtE_refl, mtE_row, mtE_born, mtE_ptr, mtE_rp, mtE_agg, mtE_tup, mtE_fn, mtE_ep, MtL_nil, MtL_cons, Mt_v, Mt_sl, Mt_nil, Mt_refl, Mt_row, Mt_born, Mt_ptr, MtO_cells, MtO_row, liveIds, distinct, Dat.v.injEq, Dat.sl.injEq, Value.int.injEq, Value.bool.injEq, Value.string.injEq, lk_cons, lk_nil, subL_nil, subL_cons, upIds, AV.ids, AV.ids.idsL, AObj.ids, Hp.get_cons, get_nil, allCell, AV.cell, vInt, vBool, vStr, id, true_and, and_true, and_self, List.append_nil, List.nil_append, List.not_mem_nil, List.mem_cons, or_false, false_or, or_self, not_true_eq_false, not_false_eq_true, false_imp_iff, false_implies, List.map_nil, not_false_eq_true, List.contains_cons, List.contains_nil, Bool.or_false, Bool.false_or, Bool.true_or, Bool.or_true, Bool.and_true, Bool.true_and, implies_true, if_true, if_false, reduceCtorEq, Nat.reduceEqDiff, Nat.reduceBEq, Nat.reduceAdd, reduceIte, ↓reduceIte]
  rfl
 ·rintro j ⟨hj, hk⟩
  by_cases hj2 : (j : Int) < l.length
  ·obtain ⟨d, hd⟩ : ∃ d, l[j]? = some d := ⟨_, List.getElem?_eq_getElem (by omega)⟩
   have hg : ∀ z, (l.map (iD .i64)).getD (j : Int).toNat z = iD .i64 d := getD_map hd
   simp only [intsD, hg, iD, List.length_map, goTG_val, goTG_new, goTG_up, goTG_none, goG_none, goG_new, goG_up, ne_eq, evK, evH, retHF, DRun_mk, runT_nil, runT_none, runT_guard, goT_val, goT_new, goT_store, goTH_true, goTH_false, evO, keys, Option.toList_some, Option.toList_none, nzL_nil, nzL_cons, nz_k, nz_sl, nz_nil, nz_agg, startL, evC, evV, goE_val, goE_new, goE_store, goH_true, goH_false, goG_val, lk_cons, lk_nil, lk_func, lk_int, lk_bool, lk_string, lk_slice, lk_agg, look_mk, St.effOf, eff, effCall, effBinC, isConst, effBin, effUn, effConv, effPick, effNil, effFold, fold1, effLoad, effStore, effFieldAddr, effField, fieldOf, sliceOf, effIndexAddr, effIndex, effLen, effExtract, effSlice, dats, bnd, effBuild, placesOf, effBuildSlice, effMakeSlice, effAppend, srcOf, fillA, chunk, seg, toD, toDs, put, eqAV, fieldsEq, leafEq, strip, unw, allB, selP_or, selP_and, tis, TyD.agg, AV.cells, AV.cell, allCell, vInt, vBool, vStr, subL_nil, subL_cons, upIds, AV.ids, AV.ids.idsL, AObj.ids, drops, Hp.get_cons, get_nil, retF, resL, one, fz, fz.fzL, List.map_cons, List.map_nil, List.nil_append, List.append_nil, List.cons_append, List.all_cons, List.all_nil, List.length_cons, List.length_nil, List.getElem?_cons_zero, List.getElem?_cons_succ, List.getD_cons_zero, List.getD_cons_succ, List.take_succ_cons, List.take_zero, List.drop_succ_cons, List.drop_zero, List.take_nil, List.drop_nil, List.contains_cons, List.contains_nil, Option.getD_some, Option.getD_none, Option.map_some, Option.map_none, if_true, if_false, true_and, and_true, and_self, or_self, or_false, false_or, false_and, and_false, reduceCtorEq, sel_and, sel_or, decide_eq_true_eq, Bool.and_eq_true, Bool.or_eq_true, Bool.and_true, Bool.true_and, Bool.or_false, Bool.false_or, Bool.true_or, Bool.or_true, Bool.not_true, Bool.not_false, Bool.false_eq_true, implies_true, not_false_eq_true, Nat.reduceLT, Nat.reduceEqDiff, Nat.reduceAdd, Nat.reduceMul, Nat.reduceMod, Nat.reduceLeDiff, Nat.reduceBEq, Nat.zero_add, Nat.add_zero, reduceIte, ↓reduceIte, List.not_mem_nil]
   rw [if_pos hj2]
   refine ⟨by omega, fun _ => by omega, ?_⟩
   by_cases hb : d < 0 ∨ d > 65535
   ·rw [if_pos hb]
    have : ¬ Jstr.right l := fun h => by have := h d (List.mem_of_getElem? hd); omega
    rw [decide_eq_false this]
   ·rw [if_neg hb]
    refine ⟨j + 1, by omega, ⟨by omega, fun k hk2 d' hd' => ?_⟩, Le.of id [] ?_⟩
    ·rcases Nat.lt_succ_iff_lt_or_eq.mp hk2 with h | rfl
     ·exact hk k h d' hd'
     ·rw [hd] at hd'; cases hd'; omega
    ·simp only [intsD, Mt_tup, Mt_agg, Mt_fn, forall_eq, forall_eq_or_imp, ne_eq, List.all_cons, List.all_nil, pr, Nat.reduceLeDiff, slR_nil, slR_cons, hpR_nil, hpR_cells, hpR_row, idsR_nil, idsR_cons, mtE_v, mtE_sl, mtE_nil, mtE_refl, mtE_row, mtE_born, mtE_ptr, mtE_rp, mtE_agg, mtE_tup, mtE_fn, mtE_ep, MtL_nil, MtL_cons, Mt_v, Mt_sl, Mt_nil, Mt_refl, Mt_row, Mt_born, Mt_ptr, MtO_cells, MtO_row, liveIds, distinct, Dat.v.injEq, Dat.sl.injEq, Value.int.injEq, Value.bool.injEq, Value.string.injEq, lk_cons, lk_nil, subL_nil, subL_cons, upIds, AV.ids, AV.ids.idsL, AObj.ids, Hp.get_cons, get_nil, allCell, AV.cell, vInt, vBool, vStr, id, true_and, and_true, and_self, List.append_nil, List.nil_append, List.not_mem_nil, List.mem_cons, or_false, false_or, or_self, not_true_eq_false, not_false_eq_true, false_imp_iff, false_implies, List.map_nil, not_false_eq_true, List.contains_cons, List.contains_nil, Bool.or_false, Bool.false_or, Bool.true_or, Bool.or_true, Bool.and_true, Bool.true_and, implies_true, if_true, if_false, reduceCtorEq, Nat.reduceEqDiff, Nat.reduceBEq, Nat.reduceAdd, reduceIte, ↓reduceIte]
     exact w64 (by omega) (by omega)
  ·simp only [intsD, iD, List.length_map, goTG_val, goTG_new, goTG_up, goTG_none, goG_none, goG_new, goG_up, ne_eq, evK, evH, retHF, DRun_mk, runT_nil, runT_none, runT_guard, goT_val, goT_new, goT_store, goTH_true, goTH_false, evO, keys, Option.toList_some, Option.toList_none, nzL_nil, nzL_cons, nz_k, nz_sl, nz_nil, nz_agg, startL, evC, evV, goE_val, goE_new, goE_store, goH_true, goH_false, goG_val, lk_cons, lk_nil, lk_func, lk_int, lk_bool, lk_string, lk_slice, lk_agg, look_mk, St.effOf, eff, effCall, effBinC, isConst, effBin, effUn, effConv, effPick, effNil, effFold, fold1, effLoad, effStore, effFieldAddr, effField, fieldOf, sliceOf, effIndexAddr, effIndex, effLen, effExtract, effSlice, dats, bnd, effBuild, placesOf, effBuildSlice, effMakeSlice, effAppend, srcOf, fillA, chunk, seg, toD, toDs, put, eqAV, fieldsEq, leafEq, strip, unw, allB, selP_or, selP_and, tis, TyD.agg, AV.cells, AV.cell, allCell, vInt, vBool, vStr, subL_nil, subL_cons, upIds, AV.ids, AV.ids.idsL, AObj.ids, drops, Hp.get_cons, get_nil, retF, resL, one, fz, fz.fzL, List.map_cons, List.map_nil, List.nil_append, List.append_nil, List.cons_append, List.all_cons, List.all_nil, List.length_cons, List.length_nil, List.getElem?_cons_zero, List.getElem?_cons_succ, List.getD_cons_zero, List.getD_cons_succ, List.take_succ_cons, List.take_zero, List.drop_succ_cons, List.drop_zero, List.take_nil, List.drop_nil, List.contains_cons, List.contains_nil, Option.getD_some, Option.getD_none, Option.map_some, Option.map_none, if_true, if_false, true_and, and_true, and_self, or_self, or_false, false_or, false_and, and_false, reduceCtorEq, sel_and, sel_or, decide_eq_true_eq, Bool.and_eq_true, Bool.or_eq_true, Bool.and_true, Bool.true_and, Bool.or_false, Bool.false_or, Bool.true_or, Bool.or_true, Bool.not_true, Bool.not_false, Bool.false_eq_true, implies_true, not_false_eq_true, Nat.reduceLT, Nat.reduceEqDiff, Nat.reduceAdd, Nat.reduceMul, Nat.reduceMod, Nat.reduceLeDiff, Nat.reduceBEq, Nat.zero_add, Nat.add_zero, reduceIte, ↓reduceIte, List.not_mem_nil]
   rw [if_neg hj2]
   have : Jstr.right l := fun x hx => by
    obtain ⟨k, hk2⟩ := List.getElem?_of_mem hx
    exact hk k (by have := (List.getElem?_eq_some_iff.mp hk2).1; omega) x hk2
   rw [decide_eq_true this]
theorem pairs_body (l : List Int) (hl : l.length ≤ 1000000000000) : Body Try.prog Gam.none (DRun Try.prog Gam.none) 43 [.d (intsD l)] (.d (intsD (Jstr.pairs l))) := by
 refine Body.of Try.func43 Try.ntmps43 (by kernel_rfl) rfl rfl rfl ?_
 simp only [intsD, iD, List.length_map, goTG_val, goTG_new, goTG_up, goTG_none, goG_none, goG_new, goG_up, ne_eq, evK, evH, retHF, DRun_mk, runT_nil, runT_none, runT_guard, goT_val, goT_new, goT_store, goTH_true, goTH_false, evO, keys, Option.toList_some, Option.toList_none, nzL_nil, nzL_cons, nz_k, nz_sl, nz_nil, nz_agg, startL, evC, evV, goE_val, goE_new, goE_store, goH_true, goH_false, goG_val, lk_cons, lk_nil, lk_func, lk_int, lk_bool, lk_string, lk_slice, lk_agg, look_mk, St.effOf, eff, effCall, effBinC, isConst, effBin, effUn, effConv, effPick, effNil, effFold, fold1, effLoad, effStore, effFieldAddr, effField, fieldOf, sliceOf, effIndexAddr, effIndex, effLen, effExtract, effSlice, dats, bnd, effBuild, placesOf, effBuildSlice, effMakeSlice, effAppend, srcOf, fillA, chunk, seg, toD, toDs, put, eqAV, fieldsEq, leafEq, strip, unw, allB, selP_or, selP_and, tis, TyD.agg, AV.cells, AV.cell, allCell, vInt, vBool, vStr, subL_nil, subL_cons, upIds, AV.ids, AV.ids.idsL, AObj.ids, drops, Hp.get_cons, get_nil, retF, resL, one, fz, fz.fzL, List.map_cons, List.map_nil, List.nil_append, List.append_nil, List.cons_append, List.all_cons, List.all_nil, List.length_cons, List.length_nil, List.getElem?_cons_zero, List.getElem?_cons_succ, List.getD_cons_zero, List.getD_cons_succ, List.take_succ_cons, List.take_zero, List.drop_succ_cons, List.drop_zero, List.take_nil, List.drop_nil, List.contains_cons, List.contains_nil, Option.getD_some, Option.getD_none, Option.map_some, Option.map_none, if_true, if_false, true_and, and_true, and_self, or_self, or_false, false_or, false_and, and_false, reduceCtorEq, sel_and, sel_or, decide_eq_true_eq, Bool.and_eq_true, Bool.or_eq_true, Bool.and_true, Bool.true_and, Bool.or_false, Bool.false_or, Bool.true_or, Bool.or_true, Bool.not_true, Bool.not_false, Bool.false_eq_true, implies_true, not_false_eq_true, Nat.reduceLT, Nat.reduceEqDiff, Nat.reduceAdd, Nat.reduceMul, Nat.reduceMod, Nat.reduceLeDiff, Nat.reduceBEq, Nat.zero_add, Nat.add_zero, reduceIte, ↓reduceIte, List.not_mem_nil]
 refine wpc_loop (fun q : List Int × Nat => ⟨62, [100], [(0, .d (intsD l)), (3, .row 100 q.1.length), (4, vInt .i64 q.2)], [(100, some (.row 3 1 (q.1.map (iD .i64))))]⟩) (fun q => q.2 ≤ l.length ∧ q.1.length ≤ q.2 ∧ q.1 ++ Jstr.pairs (l.drop q.2) = Jstr.pairs l) (fun q => l.length - q.2) ([], 0) ⟨Nat.zero_le _, Nat.le_refl _, rfl⟩ ?_ ?_
 ·refine Le.of id [100] ?_
  simp only [intsD, List.length_nil, List.map_nil, List.length_map, Mt_tup, Mt_agg, Mt_fn, forall_eq, forall_eq_or_imp, ne_eq, List.all_cons, List.all_nil, pr, Nat.reduceLeDiff, slR_nil, slR_cons, hpR_nil, hpR_cells, hpR_row, idsR_nil, idsR_cons, mtE_v, mtE_sl, mtE_nil, mtE_refl, mtE_row, mtE_born, mtE_ptr, mtE_rp, mtE_agg, mtE_tup, mtE_fn, mtE_ep, MtL_nil, MtL_cons, Mt_v, Mt_sl, Mt_nil, Mt_refl, Mt_row, Mt_born, Mt_ptr, MtO_cells, MtO_row, liveIds, distinct, Dat.v.injEq, Dat.sl.injEq, Value.int.injEq, Value.bool.injEq, Value.string.injEq, lk_cons, lk_nil, subL_nil, subL_cons, upIds, AV.ids, AV.ids.idsL, AObj.ids, Hp.get_cons, get_nil, allCell, AV.cell, vInt, vBool, vStr, id, true_and, and_true, and_self, List.append_nil, List.nil_append, List.not_mem_nil, List.mem_cons, or_false, false_or, or_self, not_true_eq_false, not_false_eq_true, false_imp_iff, false_implies, List.map_nil, not_false_eq_true, List.contains_cons, List.contains_nil, Bool.or_false, Bool.false_or, Bool.true_or, Bool.or_true, Bool.and_true, Bool.true_and, implies_true, if_true, if_false, reduceCtorEq, Nat.reduceEqDiff, Nat.reduceBEq, Nat.reduceAdd, reduceIte, ↓reduceIte]
  rfl
 ·rintro ⟨o, i⟩ ⟨hi, ho, he⟩
  simp only [] at hi ho he
  by_cases hi2 : (i : Int) < l.length
  ·obtain ⟨d, hd⟩ : ∃ d, l[i]? = some d := ⟨_, List.getElem?_eq_getElem (by omega)⟩
   have hg : ∀ z, (l.map (iD .i64)).getD (i : Int).toNat z = iD .i64 d := getD_map hd
   have hw : IntKind.i64.wrap ((i : Int) + 1) = ((i + 1 : Nat) : Int) := w64 (by omega) (by omega)
   have hdd : l.getD i 0 = d := by rw [List.getD_eq_getElem?_getD, hd]; rfl
   have hdr : l.drop i = d :: l.drop (i + 1) := drop_at hd
   have hp10 : (2 : Int) ^ min (Int.toNat 10) IntKind.i64.bits = 1024 := by decide
   have hin : i + 1 < l.length → l.drop (i + 1) = l.getD (i + 1) 0 :: l.drop (i + 2) := fun h => by
    have : l[i + 1]? = some (l.getD (i + 1) 0) := by rw [List.getD_eq_getElem?_getD, List.getElem?_eq_getElem h]; rfl
    exact drop_at this
   simp only [intsD, hg, hw, getD_iD, Int.toNat_natCast, hdd, hp10, iD, List.length_map, goTG_val, goTG_new, goTG_up, goTG_none, goG_none, goG_new, goG_up, ne_eq, evK, evH, retHF, DRun_mk, runT_nil, runT_none, runT_guard, goT_val, goT_new, goT_store, goTH_true, goTH_false, evO, keys, Option.toList_some, Option.toList_none, nzL_nil, nzL_cons, nz_k, nz_sl, nz_nil, nz_agg, startL, evC, evV, goE_val, goE_new, goE_store, goH_true, goH_false, goG_val, lk_cons, lk_nil, lk_func, lk_int, lk_bool, lk_string, lk_slice, lk_agg, look_mk, St.effOf, eff, effCall, effBinC, isConst, effBin, effUn, effConv, effPick, effNil, effFold, fold1, effLoad, effStore, effFieldAddr, effField, fieldOf, sliceOf, effIndexAddr, effIndex, effLen, effExtract, effSlice, dats, bnd, effBuild, placesOf, effBuildSlice, effMakeSlice, effAppend, srcOf, fillA, chunk, seg, toD, toDs, put, eqAV, fieldsEq, leafEq, strip, unw, allB, selP_or, selP_and, tis, TyD.agg, AV.cells, AV.cell, allCell, vInt, vBool, vStr, subL_nil, subL_cons, upIds, AV.ids, AV.ids.idsL, AObj.ids, drops, Hp.get_cons, get_nil, retF, resL, one, fz, fz.fzL, List.map_cons, List.map_nil, List.nil_append, List.append_nil, List.cons_append, List.all_cons, List.all_nil, List.length_cons, List.length_nil, List.getElem?_cons_zero, List.getElem?_cons_succ, List.getD_cons_zero, List.getD_cons_succ, List.take_succ_cons, List.take_zero, List.drop_succ_cons, List.drop_zero, List.take_nil, List.drop_nil, List.contains_cons, List.contains_nil, Option.getD_some, Option.getD_none, Option.map_some, Option.map_none, if_true, if_false, true_and, and_true, and_self, or_self, or_false, false_or, false_and, and_false, reduceCtorEq, sel_and, sel_or, decide_eq_true_eq, Bool.and_eq_true, Bool.or_eq_true, Bool.and_true, Bool.true_and, Bool.or_false, Bool.false_or, Bool.true_or, Bool.or_true, Bool.not_true, Bool.not_false, Bool.false_eq_true, implies_true, not_false_eq_true, Nat.reduceLT, Nat.reduceEqDiff, Nat.reduceAdd, Nat.reduceMul, Nat.reduceMod, Nat.reduceLeDiff, Nat.reduceBEq, Nat.zero_add, Nat.add_zero, reduceIte, ↓reduceIte, List.not_mem_nil]
   rw [if_pos hi2]
   generalize l.getD (i + 1) 0 = e at hin ⊢
   refine ⟨by omega, fun h => by omega, fun h => by omega, ?_⟩
   by_cases c : (((d ≥ 55296 ∧ d < 56320) ∧ ((i + 1 : Nat) : Int) < l.length) ∧ e ≥ 56320) ∧ e < 57344
   ·rw [if_pos c]
    have e1 := hin (by omega)
    rw [hdr, e1, Jstr.pairs, if_pos (by omega)] at he
    rw [w64 (n := d - 55296) (by omega) (by omega), w64 (n := (d - 55296) * 1024) (by omega) (by omega), w64 (n := 65536 + (d - 55296) * 1024) (by omega) (by omega), w64 (n := 65536 + (d - 55296) * 1024 + e) (by omega) (by omega), w64 (n := 65536 + (d - 55296) * 1024 + e - 56320) (by omega) (by omega)]
    refine ⟨by decide, by omega, by omega, (o ++ [65536 + (d - 55296) * 1024 + e - 56320], i + 2), by simp only []; omega, ⟨by simp only []; omega, by simp only [List.length_append, List.length_singleton]; omega, by simp only [List.append_assoc, List.singleton_append]; exact he⟩, Le.of (fun _ => 60) [] ?_⟩
    simp only [intsD, iD, List.map_append, List.map_cons, List.map_nil, List.length_append, List.length_map, List.length_cons, List.length_nil, Mt_tup, Mt_agg, Mt_fn, forall_eq, forall_eq_or_imp, ne_eq, List.all_cons, List.all_nil, pr, Nat.reduceLeDiff, slR_nil, slR_cons, hpR_nil, hpR_cells, hpR_row, idsR_nil, idsR_cons, mtE_v, mtE_sl, mtE_nil, mtE_refl, mtE_row, mtE_born, mtE_ptr, mtE_rp, mtE_agg, mtE_tup, mtE_fn, mtE_ep, MtL_nil, MtL_cons, Mt_v, Mt_sl, Mt_nil, Mt_refl, Mt_row, Mt_born, Mt_ptr, MtO_cells, MtO_row, liveIds, distinct, Dat.v.injEq, Dat.sl.injEq, Value.int.injEq, Value.bool.injEq, Value.string.injEq, lk_cons, lk_nil, subL_nil, subL_cons, upIds, AV.ids, AV.ids.idsL, AObj.ids, Hp.get_cons, get_nil, allCell, AV.cell, vInt, vBool, vStr, id, true_and, and_true, and_self, List.append_nil, List.nil_append, List.not_mem_nil, List.mem_cons, or_false, false_or, or_self, not_true_eq_false, not_false_eq_true, false_imp_iff, false_implies, List.map_nil, not_false_eq_true, List.contains_cons, List.contains_nil, Bool.or_false, Bool.false_or, Bool.true_or, Bool.or_true, Bool.and_true, Bool.true_and, implies_true, if_true, if_false, reduceCtorEq, Nat.reduceEqDiff, Nat.reduceBEq, Nat.reduceAdd, reduceIte, ↓reduceIte]
    exact w64 (by omega) (by omega)
   ·rw [if_neg c]
    have e1 : Jstr.pairs (l.drop i) = d :: Jstr.pairs (l.drop (i + 1)) := by
     rw [hdr]
     by_cases h : i + 1 < l.length
     ·rw [hin h, Jstr.pairs, if_neg (by omega)]
     ·rw [List.drop_of_length_le (by omega)]; rfl
    rw [e1] at he
    refine ⟨by omega, (o ++ [d], i + 1), by simp only []; omega, ⟨by simp only []; omega, by simp only [List.length_append, List.length_singleton]; omega, by simp only [List.append_assoc, List.singleton_append]; exact he⟩, Le.of (fun _ => 60) [] ?_⟩
    simp only [intsD, iD, List.map_append, List.map_cons, List.map_nil, List.length_append, List.length_map, List.length_cons, List.length_nil, Mt_tup, Mt_agg, Mt_fn, forall_eq, forall_eq_or_imp, ne_eq, List.all_cons, List.all_nil, pr, Nat.reduceLeDiff, slR_nil, slR_cons, hpR_nil, hpR_cells, hpR_row, idsR_nil, idsR_cons, mtE_v, mtE_sl, mtE_nil, mtE_refl, mtE_row, mtE_born, mtE_ptr, mtE_rp, mtE_agg, mtE_tup, mtE_fn, mtE_ep, MtL_nil, MtL_cons, Mt_v, Mt_sl, Mt_nil, Mt_refl, Mt_row, Mt_born, Mt_ptr, MtO_cells, MtO_row, liveIds, distinct, Dat.v.injEq, Dat.sl.injEq, Value.int.injEq, Value.bool.injEq, Value.string.injEq, lk_cons, lk_nil, subL_nil, subL_cons, upIds, AV.ids, AV.ids.idsL, AObj.ids, Hp.get_cons, get_nil, allCell, AV.cell, vInt, vBool, vStr, id, true_and, and_true, and_self, List.append_nil, List.nil_append, List.not_mem_nil, List.mem_cons, or_false, false_or, or_self, not_true_eq_false, not_false_eq_true, false_imp_iff, false_implies, List.map_nil, not_false_eq_true, List.contains_cons, List.contains_nil, Bool.or_false, Bool.false_or, Bool.true_or, Bool.or_true, Bool.and_true, Bool.true_and, implies_true, if_true, if_false, reduceCtorEq, Nat.reduceEqDiff, Nat.reduceBEq, Nat.reduceAdd, reduceIte, ↓reduceIte]
  ·simp only [intsD, iD, List.length_map, goTG_val, goTG_new, goTG_up, goTG_none, goG_none, goG_new, goG_up, ne_eq, evK, evH, retHF, DRun_mk, runT_nil, runT_none, runT_guard, goT_val, goT_new, goT_store, goTH_true, goTH_false, evO, keys, Option.toList_some, Option.toList_none, nzL_nil, nzL_cons, nz_k, nz_sl, nz_nil, nz_agg, startL, evC, evV, goE_val, goE_new, goE_store, goH_true, goH_false, goG_val, lk_cons, lk_nil, lk_func, lk_int, lk_bool, lk_string, lk_slice, lk_agg, look_mk, St.effOf, eff, effCall, effBinC, isConst, effBin, effUn, effConv, effPick, effNil, effFold, fold1, effLoad, effStore, effFieldAddr, effField, fieldOf, sliceOf, effIndexAddr, effIndex, effLen, effExtract, effSlice, dats, bnd, effBuild, placesOf, effBuildSlice, effMakeSlice, effAppend, srcOf, fillA, chunk, seg, toD, toDs, put, eqAV, fieldsEq, leafEq, strip, unw, allB, selP_or, selP_and, tis, TyD.agg, AV.cells, AV.cell, allCell, vInt, vBool, vStr, subL_nil, subL_cons, upIds, AV.ids, AV.ids.idsL, AObj.ids, drops, Hp.get_cons, get_nil, retF, resL, one, fz, fz.fzL, List.map_cons, List.map_nil, List.nil_append, List.append_nil, List.cons_append, List.all_cons, List.all_nil, List.length_cons, List.length_nil, List.getElem?_cons_zero, List.getElem?_cons_succ, List.getD_cons_zero, List.getD_cons_succ, List.take_succ_cons, List.take_zero, List.drop_succ_cons, List.drop_zero, List.take_nil, List.drop_nil, List.contains_cons, List.contains_nil, Option.getD_some, Option.getD_none, Option.map_some, Option.map_none, if_true, if_false, true_and, and_true, and_self, or_self, or_false, false_or, false_and, and_false, reduceCtorEq, sel_and, sel_or, decide_eq_true_eq, Bool.and_eq_true, Bool.or_eq_true, Bool.and_true, Bool.true_and, Bool.or_false, Bool.false_or, Bool.true_or, Bool.or_true, Bool.not_true, Bool.not_false, Bool.false_eq_true, implies_true, not_false_eq_true, Nat.reduceLT, Nat.reduceEqDiff, Nat.reduceAdd, Nat.reduceMul, Nat.reduceMod, Nat.reduceLeDiff, Nat.reduceBEq, Nat.zero_add, Nat.add_zero, reduceIte, ↓reduceIte, List.not_mem_nil]
   rw [if_neg hi2]
   rw [List.drop_of_length_le (by omega)] at he
   simp only [Jstr.pairs, List.append_nil] at he
   rw [he]
def hexS : ByteArray := ⟨#[48, 49, 50, 51, 52, 53, 54, 55, 56, 57, 97, 98, 99, 100, 101, 102]⟩
def digs : Nat → Nat → List Int
 | 0, _ => []
 | k + 1, n => Jstr.hexd ((n / 16 ^ k % 16 : Nat) : Int) :: digs k n
theorem digs_succ (k n : Nat) : digs (k + 1) n = [Jstr.hexd ((n / 16 ^ k % 16 : Nat) : Int)] ++ digs k n := rfl
theorem digs_len : ∀ k n : Nat, (digs k n).length = k
 | 0, _ => rfl
 | k + 1, n => by rw [digs, List.length_cons, digs_len k n]
theorem tmod16 (a : Nat) : (a : Int).tmod 16 = ((a % 16 : Nat) : Int) := by rw [Int.tmod_eq_emod_of_nonneg (by omega)]; omega
theorem tdiv16 (a : Nat) : (a : Int).tdiv 16 = ((a / 16 : Nat) : Int) := by rw [Int.tdiv_eq_ediv_of_nonneg (by omega)]; omega
theorem digs_four {n : Nat} (hn : n < 65536) : digs 4 n = Jstr.four n := by
 simp only [digs, Jstr.four]
 rw [show ((n / 16 ^ 3 % 16 : Nat) : Int) = (n : Int) / 4096 by omega, show ((n / 16 ^ 2 % 16 : Nat) : Int) = (n : Int) / 256 % 16 by omega, show ((n / 16 ^ 1 % 16 : Nat) : Int) = (n : Int) / 16 % 16 by omega, show ((n / 16 ^ 0 % 16 : Nat) : Int) = (n : Int) % 16 by omega]
theorem hexS_at {k : Nat} (h : k < 16) : hexS.extract k (k + 1) = strOfNums [Jstr.hexd (k : Int)] := by
 have key : ∀ k : Fin 16, hexS.extract k.val (k.val + 1) = strOfNums [Jstr.hexd (k.val : Int)] := by decide +kernel
 exact key ⟨k, h⟩
theorem str_app (a b : List Int) : strOfNums a ++ strOfNums b = strOfNums (a ++ b) := by
 apply ByteArray.ext
 simp [strOfNums]
theorem str_size (a : List Int) : (strOfNums a).size = a.length := by
 rw [strOfNums, ByteArray.size]; simp
theorem digits_body (n : Nat) (hn : n < 65536) : Body Try.prog Gam.none (DRun Try.prog Gam.none) 68 [vInt .i64 n] (vStr (strOfNums (Jstr.four n))) := by
 refine Body.of Try.func68 Try.ntmps68 (by kernel_rfl) rfl rfl rfl ?_
 simp only [show (⟨#[48, 49, 50, 51, 52, 53, 54, 55, 56, 57, 97, 98, 99, 100, 101, 102]⟩ : ByteArray) = hexS from rfl, List.length_map, goTG_val, goTG_new, goTG_up, goTG_none, goG_none, goG_new, goG_up, ne_eq, evK, evH, retHF, DRun_mk, runT_nil, runT_none, runT_guard, goT_val, goT_new, goT_store, goTH_true, goTH_false, evO, keys, Option.toList_some, Option.toList_none, nzL_nil, nzL_cons, nz_k, nz_sl, nz_nil, nz_agg, startL, evC, evV, goE_val, goE_new, goE_store, goH_true, goH_false, goG_val, lk_cons, lk_nil, lk_func, lk_int, lk_bool, lk_string, lk_slice, lk_agg, look_mk, St.effOf, eff, effCall, effBinC, isConst, effBin, effUn, effConv, effPick, effNil, effFold, fold1, effLoad, effStore, effFieldAddr, effField, fieldOf, sliceOf, effIndexAddr, effIndex, effLen, effExtract, effSlice, dats, bnd, effBuild, placesOf, effBuildSlice, effMakeSlice, effAppend, srcOf, fillA, chunk, seg, toD, toDs, put, eqAV, fieldsEq, leafEq, strip, unw, allB, selP_or, selP_and, tis, TyD.agg, AV.cells, AV.cell, allCell, vInt, vBool, vStr, subL_nil, subL_cons, upIds, AV.ids, AV.ids.idsL, AObj.ids, drops, Hp.get_cons, get_nil, retF, resL, one, fz, fz.fzL, List.map_cons, List.map_nil, List.nil_append, List.append_nil, List.cons_append, List.all_cons, List.all_nil, List.length_cons, List.length_nil, List.getElem?_cons_zero, List.getElem?_cons_succ, List.getD_cons_zero, List.getD_cons_succ, List.take_succ_cons, List.take_zero, List.drop_succ_cons, List.drop_zero, List.take_nil, List.drop_nil, List.contains_cons, List.contains_nil, Option.getD_some, Option.getD_none, Option.map_some, Option.map_none, if_true, if_false, true_and, and_true, and_self, or_self, or_false, false_or, false_and, and_false, reduceCtorEq, sel_and, sel_or, decide_eq_true_eq, Bool.and_eq_true, Bool.or_eq_true, Bool.and_true, Bool.true_and, Bool.or_false, Bool.false_or, Bool.true_or, Bool.or_true, Bool.not_true, Bool.not_false, Bool.false_eq_true, implies_true, not_false_eq_true, Nat.reduceLT, Nat.reduceEqDiff, Nat.reduceAdd, Nat.reduceMul, Nat.reduceMod, Nat.reduceLeDiff, Nat.reduceBEq, Nat.zero_add, Nat.add_zero, reduceIte, ↓reduceIte, List.not_mem_nil]
 refine wpc_loop (fun k : Nat => ⟨18, [], [(0, vInt .i64 ((n / 16 ^ k : Nat) : Int)), (3, vStr (strOfNums (digs k n))), (4, vInt .i64 k)], []⟩) (fun k => k ≤ 4) (fun k => 4 - k) 0 (Nat.zero_le _) ?_ ?_
 ·refine Le.of id [] ?_
  simp only [digs, Nat.pow_zero, Nat.div_one, Mt_tup, Mt_agg, Mt_fn, forall_eq, forall_eq_or_imp, ne_eq, List.all_cons, List.all_nil, pr, Nat.reduceLeDiff, slR_nil, slR_cons, hpR_nil, hpR_cells, hpR_row, idsR_nil, idsR_cons, mtE_v, mtE_sl, mtE_nil, mtE_refl, mtE_row, mtE_born, mtE_ptr, mtE_rp, mtE_agg, mtE_tup, mtE_fn, mtE_ep, MtL_nil, MtL_cons, Mt_v, Mt_sl, Mt_nil, Mt_refl, Mt_row, Mt_born, Mt_ptr, MtO_cells, MtO_row, liveIds, distinct, Dat.v.injEq, Dat.sl.injEq, Value.int.injEq, Value.bool.injEq, Value.string.injEq, lk_cons, lk_nil, subL_nil, subL_cons, upIds, AV.ids, AV.ids.idsL, AObj.ids, Hp.get_cons, get_nil, allCell, AV.cell, vInt, vBool, vStr, id, true_and, and_true, and_self, List.append_nil, List.nil_append, List.not_mem_nil, List.mem_cons, or_false, false_or, or_self, not_true_eq_false, not_false_eq_true, false_imp_iff, false_implies, List.map_nil, not_false_eq_true, List.contains_cons, List.contains_nil, Bool.or_false, Bool.false_or, Bool.true_or, Bool.or_true, Bool.and_true, Bool.true_and, implies_true, if_true, if_false, reduceCtorEq, Nat.reduceEqDiff, Nat.reduceBEq, Nat.reduceAdd, reduceIte, ↓reduceIte]
  first | rfl | exact ⟨rfl, rfl⟩
 ·intro k hk
  have hlt : n / 16 ^ k < 65536 := Nat.lt_of_le_of_lt (Nat.div_le_self _ _) hn
  have em := tmod16 (n / 16 ^ k)
  have ed := tdiv16 (n / 16 ^ k)
  have hs := digs_succ k n
  have hdl := digs_len k n
  have hpw : n / 16 ^ (k + 1) = n / 16 ^ k / 16 := by rw [Nat.pow_succ, ← Nat.div_div_eq_div_mul]
  generalize n / 16 ^ k = a at hlt em ed hs hpw ⊢
  have hw : IntKind.i64.wrap (((a % 16 : Nat) : Int) + 1) = ((a % 16 + 1 : Nat) : Int) := w64 (by omega) (by omega)
  simp only [show (⟨#[48, 49, 50, 51, 52, 53, 54, 55, 56, 57, 97, 98, 99, 100, 101, 102]⟩ : ByteArray) = hexS from rfl, em, ed, hw, Int.toNat_natCast, List.length_map, goTG_val, goTG_new, goTG_up, goTG_none, goG_none, goG_new, goG_up, ne_eq, evK, evH, retHF, DRun_mk, runT_nil, runT_none, runT_guard, goT_val, goT_new, goT_store, goTH_true, goTH_false, evO, keys, Option.toList_some, Option.toList_none, nzL_nil, nzL_cons, nz_k, nz_sl, nz_nil, nz_agg, startL, evC, evV, goE_val, goE_new, goE_store, goH_true, goH_false, goG_val, lk_cons, lk_nil, lk_func, lk_int, lk_bool, lk_string, lk_slice, lk_agg, look_mk, St.effOf, eff, effCall, effBinC, isConst, effBin, effUn, effConv, effPick, effNil, effFold, fold1, effLoad, effStore, effFieldAddr, effField, fieldOf, sliceOf, effIndexAddr, effIndex, effLen, effExtract, effSlice, dats, bnd, effBuild, placesOf, effBuildSlice, effMakeSlice, effAppend, srcOf, fillA, chunk, seg, toD, toDs, put, eqAV, fieldsEq, leafEq, strip, unw, allB, selP_or, selP_and, tis, TyD.agg, AV.cells, AV.cell, allCell, vInt, vBool, vStr, subL_nil, subL_cons, upIds, AV.ids, AV.ids.idsL, AObj.ids, drops, Hp.get_cons, get_nil, retF, resL, one, fz, fz.fzL, List.map_cons, List.map_nil, List.nil_append, List.append_nil, List.cons_append, List.all_cons, List.all_nil, List.length_cons, List.length_nil, List.getElem?_cons_zero, List.getElem?_cons_succ, List.getD_cons_zero, List.getD_cons_succ, List.take_succ_cons, List.take_zero, List.drop_succ_cons, List.drop_zero, List.take_nil, List.drop_nil, List.contains_cons, List.contains_nil, Option.getD_some, Option.getD_none, Option.map_some, Option.map_none, if_true, if_false, true_and, and_true, and_self, or_self, or_false, false_or, false_and, and_false, reduceCtorEq, sel_and, sel_or, decide_eq_true_eq, Bool.and_eq_true, Bool.or_eq_true, Bool.and_true, Bool.true_and, Bool.or_false, Bool.false_or, Bool.true_or, Bool.or_true, Bool.not_true, Bool.not_false, Bool.false_eq_true, implies_true, not_false_eq_true, Nat.reduceLT, Nat.reduceEqDiff, Nat.reduceAdd, Nat.reduceMul, Nat.reduceMod, Nat.reduceLeDiff, Nat.reduceBEq, Nat.zero_add, Nat.add_zero, reduceIte, ↓reduceIte, List.not_mem_nil]
  by_cases hk2 : (k : Int) < 4
  ·rw [if_pos hk2]
   have h16 : a % 16 < 16 := by omega
   rw [hexS_at h16, str_app, ← hs, str_size, str_size]
   refine ⟨by decide, by decide, ⟨by omega, by omega, by show ((a % 16 + 1 : Nat) : Int) ≤ 16; omega⟩, by simp only [List.length_singleton]; omega, by decide, k + 1, by omega, by omega, Le.of id [] ?_⟩
   rw [hpw]
   simp only [Mt_tup, Mt_agg, Mt_fn, forall_eq, forall_eq_or_imp, ne_eq, List.all_cons, List.all_nil, pr, Nat.reduceLeDiff, slR_nil, slR_cons, hpR_nil, hpR_cells, hpR_row, idsR_nil, idsR_cons, mtE_v, mtE_sl, mtE_nil, mtE_refl, mtE_row, mtE_born, mtE_ptr, mtE_rp, mtE_agg, mtE_tup, mtE_fn, mtE_ep, MtL_nil, MtL_cons, Mt_v, Mt_sl, Mt_nil, Mt_refl, Mt_row, Mt_born, Mt_ptr, MtO_cells, MtO_row, liveIds, distinct, Dat.v.injEq, Dat.sl.injEq, Value.int.injEq, Value.bool.injEq, Value.string.injEq, lk_cons, lk_nil, subL_nil, subL_cons, upIds, AV.ids, AV.ids.idsL, AObj.ids, Hp.get_cons, get_nil, allCell, AV.cell, vInt, vBool, vStr, id, true_and, and_true, and_self, List.append_nil, List.nil_append, List.not_mem_nil, List.mem_cons, or_false, false_or, or_self, not_true_eq_false, not_false_eq_true, false_imp_iff, false_implies, List.map_nil, not_false_eq_true, List.contains_cons, List.contains_nil, Bool.or_false, Bool.false_or, Bool.true_or, Bool.or_true, Bool.and_true, Bool.true_and, implies_true, if_true, if_false, reduceCtorEq, Nat.reduceEqDiff, Nat.reduceBEq, Nat.reduceAdd, reduceIte, ↓reduceIte]
   exact ⟨w64 (by omega) (by omega), w64 (by omega) (by omega)⟩
  ·rw [if_neg hk2]
   obtain rfl : k = 4 := by omega
   rw [digs_four hn]
def F_dig : List AV → Option (Prop × AV)
 | [.d (.v (.int .i64 n))] => some (0 ≤ n ∧ n < 65536, vStr (strOfNums (Jstr.four n)))
 | _ => none
noncomputable def G_spell : Gam := ((Gam.none.add 67 fun a => F_ib (NT.nz.nzL [] a)).add 68 fun a => F_dig (NT.nz.nzL [] a)).add 69 fun a => F_Text (NT.nz.nzL [.s 1] a)
theorem G_spell_at : (∀ h d a, G_spell 67 h d a = calmE (fun a => F_ib (NT.nz.nzL [] a)) h a) ∧ (∀ h d a, G_spell 68 h d a = calmE (fun a => F_dig (NT.nz.nzL [] a)) h a) ∧ (∀ h d a, G_spell 69 h d a = calmE (fun a => F_Text (NT.nz.nzL [.s 1] a)) h a) := ⟨fun _ _ _ => rfl, fun _ _ _ => rfl, fun _ _ _ => rfl⟩
theorem spell_body (r : Int) (h0 : 0 ≤ r) (h1 : r ≤ 1114111) : Body Try.prog G_spell (DRun Try.prog G_spell) 44 [vInt .i64 r] (vStr (strOfNums (Jstr.spell r))) := by
 refine Body.of Try.func44 Try.ntmps44 (by kernel_rfl) rfl rfl rfl ?_
 simp only [G_spell_at, calmE, F_ib, F_dig, F_Text, AV.flat, AV.flat.flatL, numOf, List.map_cons, List.map_nil, List.length_map, goTG_val, goTG_new, goTG_up, goTG_none, goG_none, goG_new, goG_up, ne_eq, evK, evH, retHF, DRun_mk, runT_nil, runT_none, runT_guard, goT_val, goT_new, goT_store, goTH_true, goTH_false, evO, keys, Option.toList_some, Option.toList_none, nzL_nil, nzL_cons, nz_k, nz_sl, nz_nil, nz_agg, startL, evC, evV, goE_val, goE_new, goE_store, goH_true, goH_false, goG_val, lk_cons, lk_nil, lk_func, lk_int, lk_bool, lk_string, lk_slice, lk_agg, look_mk, St.effOf, eff, effCall, effBinC, isConst, effBin, effUn, effConv, effPick, effNil, effFold, fold1, effLoad, effStore, effFieldAddr, effField, fieldOf, sliceOf, effIndexAddr, effIndex, effLen, effExtract, effSlice, dats, bnd, effBuild, placesOf, effBuildSlice, effMakeSlice, effAppend, srcOf, fillA, chunk, seg, toD, toDs, put, eqAV, fieldsEq, leafEq, strip, unw, allB, selP_or, selP_and, tis, TyD.agg, AV.cells, AV.cell, allCell, vInt, vBool, vStr, subL_nil, subL_cons, upIds, AV.ids, AV.ids.idsL, AObj.ids, drops, Hp.get_cons, get_nil, retF, resL, one, fz, fz.fzL, List.map_cons, List.map_nil, List.nil_append, List.append_nil, List.cons_append, List.all_cons, List.all_nil, List.length_cons, List.length_nil, List.getElem?_cons_zero, List.getElem?_cons_succ, List.getD_cons_zero, List.getD_cons_succ, List.take_succ_cons, List.take_zero, List.drop_succ_cons, List.drop_zero, List.take_nil, List.drop_nil, List.contains_cons, List.contains_nil, Option.getD_some, Option.getD_none, Option.map_some, Option.map_none, if_true, if_false, true_and, and_true, and_self, or_self, or_false, false_or, false_and, and_false, reduceCtorEq, sel_and, sel_or, decide_eq_true_eq, Bool.and_eq_true, Bool.or_eq_true, Bool.and_true, Bool.true_and, Bool.or_false, Bool.false_or, Bool.true_or, Bool.or_true, Bool.not_true, Bool.not_false, Bool.false_eq_true, implies_true, not_false_eq_true, Nat.reduceLT, Nat.reduceEqDiff, Nat.reduceAdd, Nat.reduceMul, Nat.reduceMod, Nat.reduceLeDiff, Nat.reduceBEq, Nat.zero_add, Nat.add_zero, reduceIte, ↓reduceIte, List.not_mem_nil]
 have hm : IntKind.u8.wrap (mn r 127) = ((min r.toNat 127 : Nat) : Int) := by
  have : mn r 127 = ((min r.toNat 127 : Nat) : Int) := by unfold mn; split <;> omega
  rw [this, IntKind.wrap_u8]; omega
 rw [hm, Int.toNat_natCast]
 have key : ∀ k : Fin 128, (match Jstr.short (k.val : Int) with
  | some c => decide (0 ≤ Lib.indexByte [34, 92, 8, 12, 10, 13, 9] k.val.toUInt8 ∧ Lib.indexByte [34, 92, 8, 12, 10, 13, 9] k.val.toUInt8 < 7 ∧ (⟨#[34, 92, 98, 102, 110, 114, 116]⟩ : ByteArray).extract (Lib.indexByte [34, 92, 8, 12, 10, 13, 9] k.val.toUInt8).toNat (Lib.indexByte [34, 92, 8, 12, 10, 13, 9] k.val.toUInt8 + 1).toNat = strOfNums [c])
  | none => decide (Lib.indexByte [34, 92, 8, 12, 10, 13, 9] k.val.toUInt8 < 0)) = true := by decide +kernel
 have k1 := key ⟨min r.toNat 127, by omega⟩
 have e : Jstr.short ((min r.toNat 127 : Nat) : Int) = Jstr.short r := by
  by_cases h : r ≤ 127
  ·rw [show ((min r.toNat 127 : Nat) : Int) = r by omega]
  ·unfold Jstr.short
   simp only [show min r.toNat 127 = 127 by omega]
   repeat rw [if_neg (by omega)]
   repeat rw [if_neg (by omega)]
 simp only [] at k1
 rw [e] at k1
 generalize Lib.indexByte [34, 92, 8, 12, 10, 13, 9] (min r.toNat 127).toUInt8 = ix at k1 ⊢
 unfold Jstr.spell
 cases hs : Jstr.short r with
 | some c =>
  rw [hs] at k1
  obtain ⟨a1, a2, a3⟩ := of_decide_eq_true k1
  rw [if_pos (by omega), w64 (by omega) (by omega), a3]
  refine ⟨⟨by omega, by omega, by show ix + 1 ≤ 7; omega⟩, by rw [str_size]; show ((2 : Nat) : Int) ≤ 9223372036854775807; decide, ?_⟩
  rw [show (⟨#[92]⟩ : ByteArray) = strOfNums [92] from rfl, str_app]
  exact Sub.refl _
 | none =>
  rw [hs] at k1
  have k1 := of_decide_eq_true k1
  rw [if_neg (by omega)]
  simp only []
  by_cases c : r < 32 ∨ r ≥ 55296 ∧ r < 57344
  ·rw [if_pos c, if_pos c]
   refine ⟨by omega, by rw [str_size]; show ((6 : Nat) : Int) ≤ 9223372036854775807; decide, ?_⟩
   rw [show (⟨#[92, 117]⟩ : ByteArray) = strOfNums [92, 117] from rfl, str_app]
   exact Sub.refl _
  ·rw [if_neg c, if_neg c]
   refine ⟨rfl, ?_⟩
   rw [show puts [r] = Utf.put r by simp [puts]]
def F_pairs : List AV → Option (Prop × AV)
 | [.d (.sl 1 xs)] => some (xs = (xs.map numOf).map (iD .i64) ∧ xs.length ≤ 1000000000000, .d (intsD (Jstr.pairs (xs.map numOf))))
 | _ => none
theorem pairs_calm : ∀ args sc res, F_pairs args = some (sc, res) → sc → Calm Try.prog 43 args res := by
 intro args sc res h hs
 unfold F_pairs at h
 split at h <;> cases h
 rename_i xs
 obtain ⟨h1, h2⟩ := hs
 have hb := pairs_body (xs.map numOf) (by simpa using h2)
 rw [intsD, ← h1] at hb
 exact (Known.none _).calm mixed rfl rfl hb
theorem dig_calm : ∀ args sc res, F_dig args = some (sc, res) → sc → Calm Try.prog 68 args res := by
 intro args sc res h hs
 unfold F_dig at h
 split at h <;> cases h
 rename_i n
 obtain ⟨h1, h2⟩ := hs
 obtain ⟨n, rfl⟩ := Int.eq_ofNat_of_zero_le h1
 exact (Known.none _).calm mixed rfl rfl (digits_body n (by omega))
def F_jspell : List AV → Option (Prop × AV)
 | [.d (.v (.int .i64 r))] => some (0 ≤ r ∧ r ≤ 1114111, vStr (strOfNums (Jstr.spell r)))
 | _ => none
theorem jspell_calm : ∀ args sc res, F_jspell args = some (sc, res) → sc → Calm Try.prog 44 args res := by
 intro args sc res h hs
 unfold F_jspell at h
 split at h <;> cases h
 exact ((((Known.none _).addC _ ib_calm).addC _ dig_calm).addC _ Text_calm).calm mixed rfl rfl (spell_body _ hs.1 hs.2)
def u8s (l : List Int) : List UInt8 := l.map fun x => UInt8.ofNat x.toNat
theorem str_u8s (l : List Int) : strOfNums l = ⟨(u8s l).toArray⟩ := rfl
noncomputable def G_Spell : Gam := ((((Gam.none.addH 19 F_ws).addH 22 F_str).add 42 fun a => F_uright (NT.nz.nzL [.s 1] a)).add 43 fun a => F_pairs (NT.nz.nzL [.s 1] a)).add 44 fun a => F_jspell (NT.nz.nzL [] a)
theorem gok_Spell : Gok Try.prog G_Spell := by
 refine ((((str_ok (ws_ok (Known.none _).ok)).add fun args sc res h hs _ => ?_).add fun args sc res h hs _ => ?_).add fun args sc res h hs _ => ?_)
 ·exact (uright_calm _ sc res h hs).nz
 ·exact (pairs_calm _ sc res h hs).nz
 ·exact (jspell_calm _ sc res h hs).nz
theorem G_Spell_at : (∀ h d a, G_Spell 19 h d a = F_ws h d a) ∧ (∀ h d a, G_Spell 22 h d a = F_str h d a) ∧ (∀ h d a, G_Spell 42 h d a = calmE (fun a => F_uright (NT.nz.nzL [.s 1] a)) h a) ∧ (∀ h d a, G_Spell 43 h d a = calmE (fun a => F_pairs (NT.nz.nzL [.s 1] a)) h a) ∧ (∀ h d a, G_Spell 44 h d a = calmE (fun a => F_jspell (NT.nz.nzL [] a)) h a) := ⟨fun _ _ _ => rfl, fun _ _ _ => rfl, fun _ _ _ => rfl, fun _ _ _ => rfl, fun _ _ _ => rfl⟩
theorem Spell_body (l : List Int) (hl : l.length ≤ 1000000000000) : Body Try.prog G_Spell (DRun Try.prog Gam.none) 25 [.d (intsD l)] (if Jstr.right l then vStr (strOfNums (Jstr.spelled l)) else vStr ByteArray.empty) := by
 refine Body.of Try.func25 Try.ntmps25 (by kernel_rfl) rfl rfl rfl ?_
 simp only [intsD, nums_map, G_Spell_at, calmE, F_uright, F_pairs, F_jspell, F_ws, F_str, AV.flat, AV.flat.flatL, List.length_map, goTG_val, goTG_new, goTG_up, goTG_none, goG_none, goG_new, goG_up, ne_eq, evK, evH, retHF, DRun_mk, runT_nil, runT_none, runT_guard, goT_val, goT_new, goT_store, goTH_true, goTH_false, evO, keys, Option.toList_some, Option.toList_none, nzL_nil, nzL_cons, nz_k, nz_sl, nz_nil, nz_agg, startL, evC, evV, goE_val, goE_new, goE_store, goH_true, goH_false, goG_val, lk_cons, lk_nil, lk_func, lk_int, lk_bool, lk_string, lk_slice, lk_agg, look_mk, St.effOf, eff, effCall, effBinC, isConst, effBin, effUn, effConv, effPick, effNil, effFold, fold1, effLoad, effStore, effFieldAddr, effField, fieldOf, sliceOf, effIndexAddr, effIndex, effLen, effExtract, effSlice, dats, bnd, effBuild, placesOf, effBuildSlice, effMakeSlice, effAppend, srcOf, fillA, chunk, seg, toD, toDs, put, eqAV, fieldsEq, leafEq, strip, unw, allB, selP_or, selP_and, tis, TyD.agg, AV.cells, AV.cell, allCell, vInt, vBool, vStr, subL_nil, subL_cons, upIds, AV.ids, AV.ids.idsL, AObj.ids, drops, Hp.get_cons, get_nil, retF, resL, one, fz, fz.fzL, List.map_cons, List.map_nil, List.nil_append, List.append_nil, List.cons_append, List.all_cons, List.all_nil, List.length_cons, List.length_nil, List.getElem?_cons_zero, List.getElem?_cons_succ, List.getD_cons_zero, List.getD_cons_succ, List.take_succ_cons, List.take_zero, List.drop_succ_cons, List.drop_zero, List.take_nil, List.drop_nil, List.contains_cons, List.contains_nil, Option.getD_some, Option.getD_none, Option.map_some, Option.map_none, if_true, if_false, true_and, and_true, and_self, or_self, or_false, false_or, false_and, and_false, reduceCtorEq, sel_and, sel_or, decide_eq_true_eq, Bool.and_eq_true, Bool.or_eq_true, Bool.and_true, Bool.true_and, Bool.or_false, Bool.false_or, Bool.true_or, Bool.or_true, Bool.not_true, Bool.not_false, Bool.false_eq_true, implies_true, not_false_eq_true, Nat.reduceLT, Nat.reduceEqDiff, Nat.reduceAdd, Nat.reduceMul, Nat.reduceMod, Nat.reduceLeDiff, Nat.reduceBEq, Nat.zero_add, Nat.add_zero, reduceIte, ↓reduceIte, List.not_mem_nil]
 refine ⟨hl, ?_⟩
 by_cases hr : Jstr.right l
 rotate_left
 ·rw [if_pos (by simp [hr]), if_neg hr]
  exact Sub.refl _
 rw [if_neg (by simp [hr]), if_pos hr]
 have hpl := Jstr.pairs_len l
 have hpr := Jstr.pairs_range hr
 rw [show Jstr.spelled l = 34 :: ((Jstr.pairs l).flatMap Jstr.spell ++ [34]) from rfl]
 generalize Jstr.pairs l = ps at hpl hpr ⊢
 refine ⟨by decide, hl, ?_⟩
 have hfl : ∀ j, (34 :: (ps.take j).flatMap Jstr.spell).length ≤ 6 * j + 1 := fun j => by
  have := Jstr.flat_len (ps.take j)
  rw [List.length_take] at this
  simp only [List.length_cons]; omega
 refine wpc_loop (fun j : Nat => ⟨23, [3, 100], [(3, .ptr 3 0), (11, .d (intsD ps)), (12, vInt .i64 ps.length), (13, vInt .i64 j)], [(3, some (.cells 55 [.ptr 3 0, .row 100 ((u8s (34 :: (ps.take j).flatMap Jstr.spell)).map byteRow).length])), (100, some (.row 5 1 ((u8s (34 :: (ps.take j).flatMap Jstr.spell)).map byteRow)))]⟩) (fun j => j ≤ ps.length) (fun j => ps.length - j) 0 (Nat.zero_le _) ?_ ?_
 ·refine Le.of (fun o => if o = 100 then 9 else o) [] ?_
  simp only [intsD, List.take_zero, List.flatMap_nil, u8s, List.map_cons, List.map_nil, List.length_cons, List.length_nil, List.length_map, Mt_tup, Mt_agg, Mt_fn, forall_eq, forall_eq_or_imp, ne_eq, List.all_cons, List.all_nil, pr, Nat.reduceLeDiff, slR_nil, slR_cons, hpR_nil, hpR_cells, hpR_row, idsR_nil, idsR_cons, mtE_v, mtE_sl, mtE_nil, mtE_refl, mtE_row, mtE_born, mtE_ptr, mtE_rp, mtE_agg, mtE_tup, mtE_fn, mtE_ep, MtL_nil, MtL_cons, Mt_v, Mt_sl, Mt_nil, Mt_refl, Mt_row, Mt_born, Mt_ptr, MtO_cells, MtO_row, liveIds, distinct, Dat.v.injEq, Dat.sl.injEq, Value.int.injEq, Value.bool.injEq, Value.string.injEq, lk_cons, lk_nil, subL_nil, subL_cons, upIds, AV.ids, AV.ids.idsL, AObj.ids, Hp.get_cons, get_nil, allCell, AV.cell, vInt, vBool, vStr, id, true_and, and_true, and_self, List.append_nil, List.nil_append, List.not_mem_nil, List.mem_cons, or_false, false_or, or_self, not_true_eq_false, not_false_eq_true, false_imp_iff, false_implies, List.map_nil, not_false_eq_true, List.contains_cons, List.contains_nil, Bool.or_false, Bool.false_or, Bool.true_or, Bool.or_true, Bool.and_true, Bool.true_and, implies_true, if_true, if_false, reduceCtorEq, Nat.reduceEqDiff, Nat.reduceBEq, Nat.reduceAdd, reduceIte, ↓reduceIte]
  exact ⟨rfl, rfl, rfl⟩
 ·intro j hj
  have hlj := hfl j
  have hul : ∀ a : List Int, (u8s a).length = a.length := fun a => by rw [u8s, List.length_map]
  by_cases hj2 : (j : Int) < ps.length
  ·obtain ⟨d, hd⟩ : ∃ d, ps[j]? = some d := ⟨_, List.getElem?_eq_getElem (by omega)⟩
   have hg : ∀ z, (ps.map (iD .i64)).getD (j : Int).toNat z = iD .i64 d := getD_map hd
   have hdr := hpr d (List.mem_of_getElem? hd)
   have hsl := Jstr.spell_len d
   simp only [intsD, hg, iD, str_u8s, ba_size, G_Spell_at, calmE, F_uright, F_pairs, F_jspell, F_ws, F_str, AV.flat, AV.flat.flatL, List.length_map, goTG_val, goTG_new, goTG_up, goTG_none, goG_none, goG_new, goG_up, ne_eq, evK, evH, retHF, DRun_mk, runT_nil, runT_none, runT_guard, goT_val, goT_new, goT_store, goTH_true, goTH_false, evO, keys, Option.toList_some, Option.toList_none, nzL_nil, nzL_cons, nz_k, nz_sl, nz_nil, nz_agg, startL, evC, evV, goE_val, goE_new, goE_store, goH_true, goH_false, goG_val, lk_cons, lk_nil, lk_func, lk_int, lk_bool, lk_string, lk_slice, lk_agg, look_mk, St.effOf, eff, effCall, effBinC, isConst, effBin, effUn, effConv, effPick, effNil, effFold, fold1, effLoad, effStore, effFieldAddr, effField, fieldOf, sliceOf, effIndexAddr, effIndex, effLen, effExtract, effSlice, dats, bnd, effBuild, placesOf, effBuildSlice, effMakeSlice, effAppend, srcOf, fillA, chunk, seg, toD, toDs, put, eqAV, fieldsEq, leafEq, strip, unw, allB, selP_or, selP_and, tis, TyD.agg, AV.cells, AV.cell, allCell, vInt, vBool, vStr, subL_nil, subL_cons, upIds, AV.ids, AV.ids.idsL, AObj.ids, drops, Hp.get_cons, get_nil, retF, resL, one, fz, fz.fzL, List.map_cons, List.map_nil, List.nil_append, List.append_nil, List.cons_append, List.all_cons, List.all_nil, List.length_cons, List.length_nil, List.getElem?_cons_zero, List.getElem?_cons_succ, List.getD_cons_zero, List.getD_cons_succ, List.take_succ_cons, List.take_zero, List.drop_succ_cons, List.drop_zero, List.take_nil, List.drop_nil, List.contains_cons, List.contains_nil, Option.getD_some, Option.getD_none, Option.map_some, Option.map_none, if_true, if_false, true_and, and_true, and_self, or_self, or_false, false_or, false_and, and_false, reduceCtorEq, sel_and, sel_or, decide_eq_true_eq, Bool.and_eq_true, Bool.or_eq_true, Bool.and_true, Bool.true_and, Bool.or_false, Bool.false_or, Bool.true_or, Bool.or_true, Bool.not_true, Bool.not_false, Bool.false_eq_true, implies_true, not_false_eq_true, Nat.reduceLT, Nat.reduceEqDiff, Nat.reduceAdd, Nat.reduceMul, Nat.reduceMod, Nat.reduceLeDiff, Nat.reduceBEq, Nat.zero_add, Nat.add_zero, reduceIte, ↓reduceIte, List.not_mem_nil]
   rw [if_pos hj2]
   refine ⟨by omega, hdr, by rw [hul, hul]; omega, j + 1, by omega, by omega, Le.of (fun o => if o = 100 then 19 else o) [] ?_⟩
   have e : u8s (34 :: (ps.take (j + 1)).flatMap Jstr.spell) = u8s (34 :: (ps.take j).flatMap Jstr.spell) ++ u8s (Jstr.spell d) := by
    rw [take_at hd, u8s, u8s, u8s, ← List.map_append]; simp
   simp only [intsD, e, List.map_append, List.length_append, List.length_map, Mt_tup, Mt_agg, Mt_fn, forall_eq, forall_eq_or_imp, ne_eq, List.all_cons, List.all_nil, pr, Nat.reduceLeDiff, slR_nil, slR_cons, hpR_nil, hpR_cells, hpR_row, idsR_nil, idsR_cons, mtE_v, mtE_sl, mtE_nil, mtE_refl, mtE_row, mtE_born, mtE_ptr, mtE_rp, mtE_agg, mtE_tup, mtE_fn, mtE_ep, MtL_nil, MtL_cons, Mt_v, Mt_sl, Mt_nil, Mt_refl, Mt_row, Mt_born, Mt_ptr, MtO_cells, MtO_row, liveIds, distinct, Dat.v.injEq, Dat.sl.injEq, Value.int.injEq, Value.bool.injEq, Value.string.injEq, lk_cons, lk_nil, subL_nil, subL_cons, upIds, AV.ids, AV.ids.idsL, AObj.ids, Hp.get_cons, get_nil, allCell, AV.cell, vInt, vBool, vStr, id, true_and, and_true, and_self, List.append_nil, List.nil_append, List.not_mem_nil, List.mem_cons, or_false, false_or, or_self, not_true_eq_false, not_false_eq_true, false_imp_iff, false_implies, List.map_nil, not_false_eq_true, List.contains_cons, List.contains_nil, Bool.or_false, Bool.false_or, Bool.true_or, Bool.or_true, Bool.and_true, Bool.true_and, implies_true, if_true, if_false, reduceCtorEq, Nat.reduceEqDiff, Nat.reduceBEq, Nat.reduceAdd, reduceIte, ↓reduceIte]
   exact ⟨w64 (by omega) (by omega), rfl⟩
  ·obtain rfl : j = ps.length := by omega
   rw [List.take_of_length_le (Nat.le_refl _)] at hlj
   simp only [intsD, List.take_of_length_le (Nat.le_refl ps.length), iD, G_Spell_at, calmE, F_uright, F_pairs, F_jspell, F_ws, F_str, AV.flat, AV.flat.flatL, List.length_map, goTG_val, goTG_new, goTG_up, goTG_none, goG_none, goG_new, goG_up, ne_eq, evK, evH, retHF, DRun_mk, runT_nil, runT_none, runT_guard, goT_val, goT_new, goT_store, goTH_true, goTH_false, evO, keys, Option.toList_some, Option.toList_none, nzL_nil, nzL_cons, nz_k, nz_sl, nz_nil, nz_agg, startL, evC, evV, goE_val, goE_new, goE_store, goH_true, goH_false, goG_val, lk_cons, lk_nil, lk_func, lk_int, lk_bool, lk_string, lk_slice, lk_agg, look_mk, St.effOf, eff, effCall, effBinC, isConst, effBin, effUn, effConv, effPick, effNil, effFold, fold1, effLoad, effStore, effFieldAddr, effField, fieldOf, sliceOf, effIndexAddr, effIndex, effLen, effExtract, effSlice, dats, bnd, effBuild, placesOf, effBuildSlice, effMakeSlice, effAppend, srcOf, fillA, chunk, seg, toD, toDs, put, eqAV, fieldsEq, leafEq, strip, unw, allB, selP_or, selP_and, tis, TyD.agg, AV.cells, AV.cell, allCell, vInt, vBool, vStr, subL_nil, subL_cons, upIds, AV.ids, AV.ids.idsL, AObj.ids, drops, Hp.get_cons, get_nil, retF, resL, one, fz, fz.fzL, List.map_cons, List.map_nil, List.nil_append, List.append_nil, List.cons_append, List.all_cons, List.all_nil, List.length_cons, List.length_nil, List.getElem?_cons_zero, List.getElem?_cons_succ, List.getD_cons_zero, List.getD_cons_succ, List.take_succ_cons, List.take_zero, List.drop_succ_cons, List.drop_zero, List.take_nil, List.drop_nil, List.contains_cons, List.contains_nil, Option.getD_some, Option.getD_none, Option.map_some, Option.map_none, if_true, if_false, true_and, and_true, and_self, or_self, or_false, false_or, false_and, and_false, reduceCtorEq, sel_and, sel_or, decide_eq_true_eq, Bool.and_eq_true, Bool.or_eq_true, Bool.and_true, Bool.true_and, Bool.or_false, Bool.false_or, Bool.true_or, Bool.or_true, Bool.not_true, Bool.not_false, Bool.false_eq_true, implies_true, not_false_eq_true, Nat.reduceLT, Nat.reduceEqDiff, Nat.reduceAdd, Nat.reduceMul, Nat.reduceMod, Nat.reduceLeDiff, Nat.reduceBEq, Nat.zero_add, Nat.add_zero, reduceIte, ↓reduceIte, List.not_mem_nil]
   rw [if_neg hj2]
   have e : (u8s (34 :: ps.flatMap Jstr.spell)).map byteRow ++ [byteRow 34] = (u8s (34 :: (ps.flatMap Jstr.spell ++ [34]))).map byteRow := by
    simp [u8s]
   rw [e]
   exact ⟨by rw [hul]; show _ + 1 ≤ _; omega, (byteRows_ok _).1, by rw [(byteRows_ok _).2]; exact Sub.refl _⟩
noncomputable def spellS (l : List Int) : ByteArray := if Jstr.right l then strOfNums (Jstr.spelled l) else ByteArray.empty
noncomputable def F_Spell : List AV → Option (Prop × AV)
 | [.d (.sl 1 xs)] => some (xs = (xs.map numOf).map (iD .i64) ∧ xs.length ≤ 1000000000000, vStr (spellS (xs.map numOf)))
 | _ => none
theorem Spell_calm : ∀ args sc res, F_Spell args = some (sc, res) → sc → Calm Try.prog 25 args res := by
 intro args sc res h hs
 unfold F_Spell at h
 split at h <;> cases h
 rename_i xs
 obtain ⟨h1, h2⟩ := hs
 have hb := Spell_body (xs.map numOf) (by simpa using h2)
 rw [intsD, ← h1] at hb
 have e : (if Jstr.right (xs.map numOf) then vStr (strOfNums (Jstr.spelled (xs.map numOf))) else vStr ByteArray.empty) = vStr (spellS (xs.map numOf)) := by unfold spellS; split <;> rfl
 rw [e] at hb
 exact Body.calm gok_Spell (draws0 _) rfl rfl hb
def unit2 (r : Int) : List Int := if r < 65536 then [r] else [55296 + (r - 65536) / 1024, 56320 + (r - 65536) % 1024]
def unitsS (s : ByteArray) : List Int := (alls s.size (sB s)).flatMap unit2
theorem unit2_len (r : Int) : 1 ≤ (unit2 r).length ∧ (unit2 r).length ≤ 2 := by unfold unit2; split <;> simp
theorem units2_len (l : List Int) : (l.flatMap unit2).length ≤ 2 * l.length := by
 induction l with
 | nil => exact Nat.le_refl _
 | cons a l ih => have := unit2_len a; simp only [List.flatMap_cons, List.length_append, List.length_cons]; omega
theorem dec_range {l : List Int} (hb : Bytes l) (h : l ≠ []) : 0 ≤ (Utf.dec l).1 ∧ (Utf.dec l).1 ≤ 1114111 := by
 rcases hd : Utf.dec l with ⟨r, n, ok⟩
 cases ok with
 | true =>
  obtain ⟨hr, -, -⟩ := Utf.enc_dec hb hd
  exact ⟨hr.1, hr.2.1⟩
 | false =>
  have := Utf.dec_false h (by rw [hd])
  rw [hd] at this
  simp only [Utf.bad, Prod.mk.injEq] at this
  simp only []; omega
theorem alls_range : ∀ (n : Nat) (l : List Int), Bytes l → ∀ x ∈ alls n l, 0 ≤ x ∧ x ≤ 1114111
 | 0, _, _, _, h => by simp [alls] at h
 | n + 1, l, hb, x, h => by
  unfold alls at h
  split at h
  ·simp at h
  ·rename_i hl
   rcases List.mem_cons.mp h with rfl | h
   ·exact dec_range hb hl
   ·exact alls_range n _ (fun y hy => hb y (List.mem_of_mem_drop hy)) x h
theorem unit2_right {r : Int} (h0 : 0 ≤ r) (h1 : r ≤ 1114111) : ∀ x ∈ unit2 r, 0 ≤ x ∧ x ≤ 65535 := fun x hx => by
 unfold unit2 at hx
 split at hx
 ·simp at hx; omega
 ·simp at hx; omega
theorem unitsS_right (s : ByteArray) : Jstr.right (unitsS s) := fun x hx => by
 obtain ⟨r, hr, hx⟩ := List.mem_flatMap.mp hx
 have := alls_range _ _ (sB_bytes s) r hr
 exact unit2_right this.1 this.2 x hx
theorem unitsS_len (s : ByteArray) : (unitsS s).length ≤ 2 * s.size := by
 have := units2_len (alls s.size (sB s))
 have := alls_len s.size (sB s)
 unfold unitsS; omega
theorem wraps62j (n : Int) (h0 : 0 ≤ n) (h1 : n < 2 ^ 62) : IntKind.i64.wrap n = n := by rw [IntKind.wrap_i64]; omega
theorem and1k {x : Int} (h0 : 0 ≤ x) (h1 : x < 2 ^ 62) : bits .and .i64 x 1023 = x % 1024 := bits_mask .i64 62 (by decide) wraps62j 10 (by decide) x h0 h1
noncomputable def G_un : Gam := Gam.none.add 45 fun a => F_All (NT.nz.nzL [] a)
theorem G_un_at (h : Nat → Option AObj) (d : Nat) (a : List AV) : G_un 45 h d a = calmE (fun a => F_All (NT.nz.nzL [] a)) h a := rfl
theorem units_sbody (s : ByteArray) (hl : s.size ≤ 1000000000) : Body Try.prog G_un (DRun Try.prog G_un) 26 [.d (.v (.string s))] (.d (intsD (unitsS s))) := by
 refine Body.of Try.func26 Try.ntmps26 (by kernel_rfl) rfl rfl rfl ?_
 simp only [intsD, G_un_at, calmE, F_All, AV.flat, AV.flat.flatL, List.length_map, goTG_val, goTG_new, goTG_up, goTG_none, goG_none, goG_new, goG_up, ne_eq, evK, evH, retHF, DRun_mk, runT_nil, runT_none, runT_guard, goT_val, goT_new, goT_store, goTH_true, goTH_false, evO, keys, Option.toList_some, Option.toList_none, nzL_nil, nzL_cons, nz_k, nz_sl, nz_nil, nz_agg, startL, evC, evV, goE_val, goE_new, goE_store, goH_true, goH_false, goG_val, lk_cons, lk_nil, lk_func, lk_int, lk_bool, lk_string, lk_slice, lk_agg, look_mk, St.effOf, eff, effCall, effBinC, isConst, effBin, effUn, effConv, effPick, effNil, effFold, fold1, effLoad, effStore, effFieldAddr, effField, fieldOf, sliceOf, effIndexAddr, effIndex, effLen, effExtract, effSlice, dats, bnd, effBuild, placesOf, effBuildSlice, effMakeSlice, effAppend, srcOf, fillA, chunk, seg, toD, toDs, put, eqAV, fieldsEq, leafEq, strip, unw, allB, selP_or, selP_and, tis, TyD.agg, AV.cells, AV.cell, allCell, vInt, vBool, vStr, subL_nil, subL_cons, upIds, AV.ids, AV.ids.idsL, AObj.ids, drops, Hp.get_cons, get_nil, retF, resL, one, fz, fz.fzL, List.map_cons, List.map_nil, List.nil_append, List.append_nil, List.cons_append, List.all_cons, List.all_nil, List.length_cons, List.length_nil, List.getElem?_cons_zero, List.getElem?_cons_succ, List.getD_cons_zero, List.getD_cons_succ, List.take_succ_cons, List.take_zero, List.drop_succ_cons, List.drop_zero, List.take_nil, List.drop_nil, List.contains_cons, List.contains_nil, Option.getD_some, Option.getD_none, Option.map_some, Option.map_none, if_true, if_false, true_and, and_true, and_self, or_self, or_false, false_or, false_and, and_false, reduceCtorEq, sel_and, sel_or, decide_eq_true_eq, Bool.and_eq_true, Bool.or_eq_true, Bool.and_true, Bool.true_and, Bool.or_false, Bool.false_or, Bool.true_or, Bool.or_true, Bool.not_true, Bool.not_false, Bool.false_eq_true, implies_true, not_false_eq_true, Nat.reduceLT, Nat.reduceEqDiff, Nat.reduceAdd, Nat.reduceMul, Nat.reduceMod, Nat.reduceLeDiff, Nat.reduceBEq, Nat.zero_add, Nat.add_zero, reduceIte, ↓reduceIte, List.not_mem_nil]
 refine ⟨by omega, ?_⟩
 unfold unitsS
 have har := alls_range s.size (sB s) (sB_bytes s)
 have hal := alls_len s.size (sB s)
 generalize alls s.size (sB s) = cs at har hal ⊢
 refine wpc_loop (fun j : Nat => ⟨32, [100], [(3, .row 100 ((cs.take j).flatMap unit2).length), (7, .d (intsD cs)), (8, vInt .i64 cs.length), (9, vInt .i64 j)], [(100, some (.row 3 1 (((cs.take j).flatMap unit2).map (iD .i64))))]⟩) (fun j => j ≤ cs.length) (fun j => cs.length - j) 0 (Nat.zero_le _) ?_ ?_
 ·refine Le.of id [100] ?_
  simp only [intsD, List.take_zero, List.flatMap_nil, List.length_nil, List.map_nil, List.length_map, Mt_tup, Mt_agg, Mt_fn, forall_eq, forall_eq_or_imp, ne_eq, List.all_cons, List.all_nil, pr, Nat.reduceLeDiff, slR_nil, slR_cons, hpR_nil, hpR_cells, hpR_row, idsR_nil, idsR_cons, mtE_v, mtE_sl, mtE_nil, mtE_refl, mtE_row, mtE_born, mtE_ptr, mtE_rp, mtE_agg, mtE_tup, mtE_fn, mtE_ep, MtL_nil, MtL_cons, Mt_v, Mt_sl, Mt_nil, Mt_refl, Mt_row, Mt_born, Mt_ptr, MtO_cells, MtO_row, liveIds, distinct, Dat.v.injEq, Dat.sl.injEq, Value.int.injEq, Value.bool.injEq, Value.string.injEq, lk_cons, lk_nil, subL_nil, subL_cons, upIds, AV.ids, AV.ids.idsL, AObj.ids, Hp.get_cons, get_nil, allCell, AV.cell, vInt, vBool, vStr, id, true_and, and_true, and_self, List.append_nil, List.nil_append, List.not_mem_nil, List.mem_cons, or_false, false_or, or_self, not_true_eq_false, not_false_eq_true, false_imp_iff, false_implies, List.map_nil, not_false_eq_true, List.contains_cons, List.contains_nil, Bool.or_false, Bool.false_or, Bool.true_or, Bool.or_true, Bool.and_true, Bool.true_and, implies_true, if_true, if_false, reduceCtorEq, Nat.reduceEqDiff, Nat.reduceBEq, Nat.reduceAdd, reduceIte, ↓reduceIte]
  rfl
 ·intro j hj
  by_cases hj2 : (j : Int) < cs.length
  ·obtain ⟨d, hd⟩ : ∃ d, cs[j]? = some d := ⟨_, List.getElem?_eq_getElem (by omega)⟩
   have hg : ∀ z, (cs.map (iD .i64)).getD (j : Int).toNat z = iD .i64 d := getD_map hd
   have hdr := har d (List.mem_of_getElem? hd)
   have hl2 := units2_len (cs.take j)
   rw [List.length_take] at hl2
   have hdec : ∀ x : Int, Int.fdiv x (2 ^ min (Int.toNat 10) IntKind.i64.bits) = x / 1024 := fun x => by rw [Int.fdiv_eq_ediv_of_nonneg _ (by decide)]; rfl
   simp only [intsD, hg, hdec, iD, G_un_at, calmE, F_All, AV.flat, AV.flat.flatL, List.length_map, goTG_val, goTG_new, goTG_up, goTG_none, goG_none, goG_new, goG_up, ne_eq, evK, evH, retHF, DRun_mk, runT_nil, runT_none, runT_guard, goT_val, goT_new, goT_store, goTH_true, goTH_false, evO, keys, Option.toList_some, Option.toList_none, nzL_nil, nzL_cons, nz_k, nz_sl, nz_nil, nz_agg, startL, evC, evV, goE_val, goE_new, goE_store, goH_true, goH_false, goG_val, lk_cons, lk_nil, lk_func, lk_int, lk_bool, lk_string, lk_slice, lk_agg, look_mk, St.effOf, eff, effCall, effBinC, isConst, effBin, effUn, effConv, effPick, effNil, effFold, fold1, effLoad, effStore, effFieldAddr, effField, fieldOf, sliceOf, effIndexAddr, effIndex, effLen, effExtract, effSlice, dats, bnd, effBuild, placesOf, effBuildSlice, effMakeSlice, effAppend, srcOf, fillA, chunk, seg, toD, toDs, put, eqAV, fieldsEq, leafEq, strip, unw, allB, selP_or, selP_and, tis, TyD.agg, AV.cells, AV.cell, allCell, vInt, vBool, vStr, subL_nil, subL_cons, upIds, AV.ids, AV.ids.idsL, AObj.ids, drops, Hp.get_cons, get_nil, retF, resL, one, fz, fz.fzL, List.map_cons, List.map_nil, List.nil_append, List.append_nil, List.cons_append, List.all_cons, List.all_nil, List.length_cons, List.length_nil, List.getElem?_cons_zero, List.getElem?_cons_succ, List.getD_cons_zero, List.getD_cons_succ, List.take_succ_cons, List.take_zero, List.drop_succ_cons, List.drop_zero, List.take_nil, List.drop_nil, List.contains_cons, List.contains_nil, Option.getD_some, Option.getD_none, Option.map_some, Option.map_none, if_true, if_false, true_and, and_true, and_self, or_self, or_false, false_or, false_and, and_false, reduceCtorEq, sel_and, sel_or, decide_eq_true_eq, Bool.and_eq_true, Bool.or_eq_true, Bool.and_true, Bool.true_and, Bool.or_false, Bool.false_or, Bool.true_or, Bool.or_true, Bool.not_true, Bool.not_false, Bool.false_eq_true, implies_true, not_false_eq_true, Nat.reduceLT, Nat.reduceEqDiff, Nat.reduceAdd, Nat.reduceMul, Nat.reduceMod, Nat.reduceLeDiff, Nat.reduceBEq, Nat.zero_add, Nat.add_zero, reduceIte, ↓reduceIte, List.not_mem_nil]
   rw [if_pos hj2]
   refine ⟨by omega, ?_⟩
   have ef : (cs.take (j + 1)).flatMap unit2 = (cs.take j).flatMap unit2 ++ unit2 d := by rw [take_at hd]; simp
   by_cases c : d < 65536
   ·rw [if_pos c]
    have eu : unit2 d = [d] := if_pos c
    refine ⟨by omega, j + 1, by omega, by omega, Le.of (fun _ => 18) [] ?_⟩
    simp only [intsD, ef, eu, iD, List.map_append, List.map_cons, List.map_nil, List.length_append, List.length_map, List.length_cons, List.length_nil, Mt_tup, Mt_agg, Mt_fn, forall_eq, forall_eq_or_imp, ne_eq, List.all_cons, List.all_nil, pr, Nat.reduceLeDiff, slR_nil, slR_cons, hpR_nil, hpR_cells, hpR_row, idsR_nil, idsR_cons, mtE_v, mtE_sl, mtE_nil, mtE_refl, mtE_row, mtE_born, mtE_ptr, mtE_rp, mtE_agg, mtE_tup, mtE_fn, mtE_ep, MtL_nil, MtL_cons, Mt_v, Mt_sl, Mt_nil, Mt_refl, Mt_row, Mt_born, Mt_ptr, MtO_cells, MtO_row, liveIds, distinct, Dat.v.injEq, Dat.sl.injEq, Value.int.injEq, Value.bool.injEq, Value.string.injEq, lk_cons, lk_nil, subL_nil, subL_cons, upIds, AV.ids, AV.ids.idsL, AObj.ids, Hp.get_cons, get_nil, allCell, AV.cell, vInt, vBool, vStr, id, true_and, and_true, and_self, List.append_nil, List.nil_append, List.not_mem_nil, List.mem_cons, or_false, false_or, or_self, not_true_eq_false, not_false_eq_true, false_imp_iff, false_implies, List.map_nil, not_false_eq_true, List.contains_cons, List.contains_nil, Bool.or_false, Bool.false_or, Bool.true_or, Bool.or_true, Bool.and_true, Bool.true_and, implies_true, if_true, if_false, reduceCtorEq, Nat.reduceEqDiff, Nat.reduceBEq, Nat.reduceAdd, reduceIte, ↓reduceIte]
    exact w64 (by omega) (by omega)
   ·rw [if_neg c]
    have eu : unit2 d = [55296 + (d - 65536) / 1024, 56320 + (d - 65536) % 1024] := if_neg c
    rw [w64 (n := d - 65536) (by omega) (by omega), and1k (by omega) (by omega), w64 (n := 55296 + (d - 65536) / 1024) (by omega) (by omega), w64 (n := 56320 + (d - 65536) % 1024) (by omega) (by omega)]
    refine ⟨by decide, by omega, j + 1, by omega, by omega, Le.of (fun _ => 29) [] ?_⟩
    simp only [intsD, ef, eu, iD, List.map_append, List.map_cons, List.map_nil, List.length_append, List.length_map, List.length_cons, List.length_nil, Mt_tup, Mt_agg, Mt_fn, forall_eq, forall_eq_or_imp, ne_eq, List.all_cons, List.all_nil, pr, Nat.reduceLeDiff, slR_nil, slR_cons, hpR_nil, hpR_cells, hpR_row, idsR_nil, idsR_cons, mtE_v, mtE_sl, mtE_nil, mtE_refl, mtE_row, mtE_born, mtE_ptr, mtE_rp, mtE_agg, mtE_tup, mtE_fn, mtE_ep, MtL_nil, MtL_cons, Mt_v, Mt_sl, Mt_nil, Mt_refl, Mt_row, Mt_born, Mt_ptr, MtO_cells, MtO_row, liveIds, distinct, Dat.v.injEq, Dat.sl.injEq, Value.int.injEq, Value.bool.injEq, Value.string.injEq, lk_cons, lk_nil, subL_nil, subL_cons, upIds, AV.ids, AV.ids.idsL, AObj.ids, Hp.get_cons, get_nil, allCell, AV.cell, vInt, vBool, vStr, id, true_and, and_true, and_self, List.append_nil, List.nil_append, List.not_mem_nil, List.mem_cons, or_false, false_or, or_self, not_true_eq_false, not_false_eq_true, false_imp_iff, false_implies, List.map_nil, not_false_eq_true, List.contains_cons, List.contains_nil, Bool.or_false, Bool.false_or, Bool.true_or, Bool.or_true, Bool.and_true, Bool.true_and, implies_true, if_true, if_false, reduceCtorEq, Nat.reduceEqDiff, Nat.reduceBEq, Nat.reduceAdd, reduceIte, ↓reduceIte]
    exact w64 (by omega) (by omega)
  ·simp only [intsD, iD, G_un_at, calmE, F_All, AV.flat, AV.flat.flatL, List.length_map, goTG_val, goTG_new, goTG_up, goTG_none, goG_none, goG_new, goG_up, ne_eq, evK, evH, retHF, DRun_mk, runT_nil, runT_none, runT_guard, goT_val, goT_new, goT_store, goTH_true, goTH_false, evO, keys, Option.toList_some, Option.toList_none, nzL_nil, nzL_cons, nz_k, nz_sl, nz_nil, nz_agg, startL, evC, evV, goE_val, goE_new, goE_store, goH_true, goH_false, goG_val, lk_cons, lk_nil, lk_func, lk_int, lk_bool, lk_string, lk_slice, lk_agg, look_mk, St.effOf, eff, effCall, effBinC, isConst, effBin, effUn, effConv, effPick, effNil, effFold, fold1, effLoad, effStore, effFieldAddr, effField, fieldOf, sliceOf, effIndexAddr, effIndex, effLen, effExtract, effSlice, dats, bnd, effBuild, placesOf, effBuildSlice, effMakeSlice, effAppend, srcOf, fillA, chunk, seg, toD, toDs, put, eqAV, fieldsEq, leafEq, strip, unw, allB, selP_or, selP_and, tis, TyD.agg, AV.cells, AV.cell, allCell, vInt, vBool, vStr, subL_nil, subL_cons, upIds, AV.ids, AV.ids.idsL, AObj.ids, drops, Hp.get_cons, get_nil, retF, resL, one, fz, fz.fzL, List.map_cons, List.map_nil, List.nil_append, List.append_nil, List.cons_append, List.all_cons, List.all_nil, List.length_cons, List.length_nil, List.getElem?_cons_zero, List.getElem?_cons_succ, List.getD_cons_zero, List.getD_cons_succ, List.take_succ_cons, List.take_zero, List.drop_succ_cons, List.drop_zero, List.take_nil, List.drop_nil, List.contains_cons, List.contains_nil, Option.getD_some, Option.getD_none, Option.map_some, Option.map_none, if_true, if_false, true_and, and_true, and_self, or_self, or_false, false_or, false_and, and_false, reduceCtorEq, sel_and, sel_or, decide_eq_true_eq, Bool.and_eq_true, Bool.or_eq_true, Bool.and_true, Bool.true_and, Bool.or_false, Bool.false_or, Bool.true_or, Bool.or_true, Bool.not_true, Bool.not_false, Bool.false_eq_true, implies_true, not_false_eq_true, Nat.reduceLT, Nat.reduceEqDiff, Nat.reduceAdd, Nat.reduceMul, Nat.reduceMod, Nat.reduceLeDiff, Nat.reduceBEq, Nat.zero_add, Nat.add_zero, reduceIte, ↓reduceIte, List.not_mem_nil]
   rw [if_neg hj2, List.take_of_length_le (by omega)]
noncomputable def G_run : Gam := Gam.none.add 29 fun a => F_Next (NT.nz.nzL [.s 1, .k] a)
theorem G_run_at (h : Nat → Option AObj) (d : Nat) (a : List AV) : G_run 29 h d a = calmE (fun a => F_Next (NT.nz.nzL [.s 1, .k] a)) h a := rfl
theorem units_rbody (s : ByteArray) (hl : s.size ≤ 1000000000) : Body Try.prog G_run (DRun Try.prog G_run) 28 [.d (.v (.string s))] (.d (intsD (unitsS s))) := by
 refine Body.of Try.func28 Try.ntmps28 (by kernel_rfl) rfl rfl rfl ?_
 have hb := sB_bytes s
 have hn := sB_len s
 have har := alls_range s.size (sB s) (sB_bytes s)
 unfold unitsS
 simp only [intsD, bytesD, sB_rows, G_run_at, calmE, F_Next, AV.flat, AV.flat.flatL, getD_iD, iD, num_iD, List.length_map, ← hn, goTG_val, goTG_new, goTG_up, goTG_none, goG_none, goG_new, goG_up, ne_eq, evK, evH, retHF, DRun_mk, runT_nil, runT_none, runT_guard, goT_val, goT_new, goT_store, goTH_true, goTH_false, evO, keys, Option.toList_some, Option.toList_none, nzL_nil, nzL_cons, nz_k, nz_sl, nz_nil, nz_agg, startL, evC, evV, goE_val, goE_new, goE_store, goH_true, goH_false, goG_val, lk_cons, lk_nil, lk_func, lk_int, lk_bool, lk_string, lk_slice, lk_agg, look_mk, St.effOf, eff, effCall, effBinC, isConst, effBin, effUn, effConv, effPick, effNil, effFold, fold1, effLoad, effStore, effFieldAddr, effField, fieldOf, sliceOf, effIndexAddr, effIndex, effLen, effExtract, effSlice, dats, bnd, effBuild, placesOf, effBuildSlice, effMakeSlice, effAppend, srcOf, fillA, chunk, seg, toD, toDs, put, eqAV, fieldsEq, leafEq, strip, unw, allB, selP_or, selP_and, tis, TyD.agg, AV.cells, AV.cell, allCell, vInt, vBool, vStr, subL_nil, subL_cons, upIds, AV.ids, AV.ids.idsL, AObj.ids, drops, Hp.get_cons, get_nil, retF, resL, one, fz, fz.fzL, List.map_cons, List.map_nil, List.nil_append, List.append_nil, List.cons_append, List.all_cons, List.all_nil, List.length_cons, List.length_nil, List.getElem?_cons_zero, List.getElem?_cons_succ, List.getD_cons_zero, List.getD_cons_succ, List.take_succ_cons, List.take_zero, List.drop_succ_cons, List.drop_zero, List.take_nil, List.drop_nil, List.contains_cons, List.contains_nil, Option.getD_some, Option.getD_none, Option.map_some, Option.map_none, if_true, if_false, true_and, and_true, and_self, or_self, or_false, false_or, false_and, and_false, reduceCtorEq, sel_and, sel_or, decide_eq_true_eq, Bool.and_eq_true, Bool.or_eq_true, Bool.and_true, Bool.true_and, Bool.or_false, Bool.false_or, Bool.true_or, Bool.or_true, Bool.not_true, Bool.not_false, Bool.false_eq_true, implies_true, not_false_eq_true, Nat.reduceLT, Nat.reduceEqDiff, Nat.reduceAdd, Nat.reduceMul, Nat.reduceMod, Nat.reduceLeDiff, Nat.reduceBEq, Nat.zero_add, Nat.add_zero, reduceIte, ↓reduceIte, List.not_mem_nil]
 rw [← hn] at hl har
 generalize sB s = l at hb hn hl har ⊢
 clear hn
 refine wpc_loop (fun p : List Int × Nat => ⟨43, [100], [(3, .row 100 (p.1.flatMap unit2).length), (4, .d (bytesD l)), (5, vInt .i64 p.2)], [(100, some (.row 3 1 ((p.1.flatMap unit2).map (iD .i64))))]⟩)
  (fun p => p.2 ≤ l.length ∧ p.1.length ≤ p.2 ∧ ∀ n, l.length - p.2 ≤ n → p.1 ++ alls n (l.drop p.2) = alls l.length l) (fun p => l.length - p.2) ([], 0) ⟨Nat.zero_le _, Nat.le_refl _, fun n hn => ?_⟩ ?_ ?_
 ·rw [List.nil_append, List.drop_zero]
  exact alls_fuel _ _ _ hb hn (Nat.le_refl _)
 ·refine Le.of id [100] ?_
  simp only [bytesD, List.flatMap_nil, List.length_nil, List.length_map, List.map_nil, Mt_tup, Mt_agg, Mt_fn, forall_eq, forall_eq_or_imp, ne_eq, List.all_cons, List.all_nil, pr, Nat.reduceLeDiff, slR_nil, slR_cons, hpR_nil, hpR_cells, hpR_row, idsR_nil, idsR_cons, mtE_v, mtE_sl, mtE_nil, mtE_refl, mtE_row, mtE_born, mtE_ptr, mtE_rp, mtE_agg, mtE_tup, mtE_fn, mtE_ep, MtL_nil, MtL_cons, Mt_v, Mt_sl, Mt_nil, Mt_refl, Mt_row, Mt_born, Mt_ptr, MtO_cells, MtO_row, liveIds, distinct, Dat.v.injEq, Dat.sl.injEq, Value.int.injEq, Value.bool.injEq, Value.string.injEq, lk_cons, lk_nil, subL_nil, subL_cons, upIds, AV.ids, AV.ids.idsL, AObj.ids, Hp.get_cons, get_nil, allCell, AV.cell, vInt, vBool, vStr, id, true_and, and_true, and_self, List.append_nil, List.nil_append, List.not_mem_nil, List.mem_cons, or_false, false_or, or_self, not_true_eq_false, not_false_eq_true, false_imp_iff, false_implies, List.map_nil, not_false_eq_true, List.contains_cons, List.contains_nil, Bool.or_false, Bool.false_or, Bool.true_or, Bool.or_true, Bool.and_true, Bool.true_and, implies_true, if_true, if_false, reduceCtorEq, Nat.reduceEqDiff, Nat.reduceBEq, Nat.reduceAdd, reduceIte, ↓reduceIte]
  rfl
 ·rintro ⟨o, i⟩ ⟨hi, ho, hr⟩
  simp only [] at hi ho hr
  have hl2 := units2_len o
  have hdec : ∀ x : Int, Int.fdiv x (2 ^ min (Int.toNat 10) IntKind.i64.bits) = x / 1024 := fun x => by rw [Int.fdiv_eq_ediv_of_nonneg _ (by decide)]; rfl
  simp only [intsD, bytesD, hdec, G_run_at, calmE, F_Next, AV.flat, AV.flat.flatL, getD_iD, iD, num_iD, List.length_map, goTG_val, goTG_new, goTG_up, goTG_none, goG_none, goG_new, goG_up, ne_eq, evK, evH, retHF, DRun_mk, runT_nil, runT_none, runT_guard, goT_val, goT_new, goT_store, goTH_true, goTH_false, evO, keys, Option.toList_some, Option.toList_none, nzL_nil, nzL_cons, nz_k, nz_sl, nz_nil, nz_agg, startL, evC, evV, goE_val, goE_new, goE_store, goH_true, goH_false, goG_val, lk_cons, lk_nil, lk_func, lk_int, lk_bool, lk_string, lk_slice, lk_agg, look_mk, St.effOf, eff, effCall, effBinC, isConst, effBin, effUn, effConv, effPick, effNil, effFold, fold1, effLoad, effStore, effFieldAddr, effField, fieldOf, sliceOf, effIndexAddr, effIndex, effLen, effExtract, effSlice, dats, bnd, effBuild, placesOf, effBuildSlice, effMakeSlice, effAppend, srcOf, fillA, chunk, seg, toD, toDs, put, eqAV, fieldsEq, leafEq, strip, unw, allB, selP_or, selP_and, tis, TyD.agg, AV.cells, AV.cell, allCell, vInt, vBool, vStr, subL_nil, subL_cons, upIds, AV.ids, AV.ids.idsL, AObj.ids, drops, Hp.get_cons, get_nil, retF, resL, one, fz, fz.fzL, List.map_cons, List.map_nil, List.nil_append, List.append_nil, List.cons_append, List.all_cons, List.all_nil, List.length_cons, List.length_nil, List.getElem?_cons_zero, List.getElem?_cons_succ, List.getD_cons_zero, List.getD_cons_succ, List.take_succ_cons, List.take_zero, List.drop_succ_cons, List.drop_zero, List.take_nil, List.drop_nil, List.contains_cons, List.contains_nil, Option.getD_some, Option.getD_none, Option.map_some, Option.map_none, if_true, if_false, true_and, and_true, and_self, or_self, or_false, false_or, false_and, and_false, reduceCtorEq, sel_and, sel_or, decide_eq_true_eq, Bool.and_eq_true, Bool.or_eq_true, Bool.and_true, Bool.true_and, Bool.or_false, Bool.false_or, Bool.true_or, Bool.or_true, Bool.not_true, Bool.not_false, Bool.false_eq_true, implies_true, not_false_eq_true, Nat.reduceLT, Nat.reduceEqDiff, Nat.reduceAdd, Nat.reduceMul, Nat.reduceMod, Nat.reduceLeDiff, Nat.reduceBEq, Nat.zero_add, Nat.add_zero, reduceIte, ↓reduceIte, List.not_mem_nil]
  by_cases h1 : (i : Int) < l.length
  ·rw [if_pos h1]
   refine ⟨⟨hb, by omega⟩, ?_⟩
   obtain ⟨r, k, ok, e, k1, k2, k3⟩ := all_step hb (by omega) hr
   simp only [e]
   have hrr := har r (by rw [← k3 l.length (by omega)]; simp)
   by_cases c : r ≥ 65536
   ·rw [if_pos c]
    have eu : unit2 r = [55296 + (r - 65536) / 1024, 56320 + (r - 65536) % 1024] := if_neg (by omega)
    rw [w64 (n := r - 65536) (by omega) (by omega), and1k (by omega) (by omega), w64 (n := 55296 + (r - 65536) / 1024) (by omega) (by omega), w64 (n := 56320 + (r - 65536) % 1024) (by omega) (by omega)]
    refine ⟨by decide, by omega, (o ++ [r], i + k), by simp only []; omega, ⟨k2, by simp only [List.length_append, List.length_singleton]; omega, k3⟩, Le.of (fun _ => 34) [] ?_⟩
    simp only [intsD, List.flatMap_append, List.flatMap_cons, List.flatMap_nil, List.append_nil, eu, iD, List.map_append, List.map_cons, List.map_nil, List.length_append, List.length_map, List.length_cons, List.length_nil, Mt_tup, Mt_agg, Mt_fn, forall_eq, forall_eq_or_imp, ne_eq, List.all_cons, List.all_nil, pr, Nat.reduceLeDiff, slR_nil, slR_cons, hpR_nil, hpR_cells, hpR_row, idsR_nil, idsR_cons, mtE_v, mtE_sl, mtE_nil, mtE_refl, mtE_row, mtE_born, mtE_ptr, mtE_rp, mtE_agg, mtE_tup, mtE_fn, mtE_ep, MtL_nil, MtL_cons, Mt_v, Mt_sl, Mt_nil, Mt_refl, Mt_row, Mt_born, Mt_ptr, MtO_cells, MtO_row, liveIds, distinct, Dat.v.injEq, Dat.sl.injEq, Value.int.injEq, Value.bool.injEq, Value.string.injEq, lk_cons, lk_nil, subL_nil, subL_cons, upIds, AV.ids, AV.ids.idsL, AObj.ids, Hp.get_cons, get_nil, allCell, AV.cell, vInt, vBool, vStr, id, true_and, and_true, and_self, List.append_nil, List.nil_append, List.not_mem_nil, List.mem_cons, or_false, false_or, or_self, not_true_eq_false, not_false_eq_true, false_imp_iff, false_implies, List.map_nil, not_false_eq_true, List.contains_cons, List.contains_nil, Bool.or_false, Bool.false_or, Bool.true_or, Bool.or_true, Bool.and_true, Bool.true_and, implies_true, if_true, if_false, reduceCtorEq, Nat.reduceEqDiff, Nat.reduceBEq, Nat.reduceAdd, reduceIte, ↓reduceIte]
    rw [w64 (by omega) (by omega)]
    omega
   ·rw [if_neg c]
    have eu : unit2 r = [r] := if_pos (by omega)
    refine ⟨by omega, (o ++ [r], i + k), by simp only []; omega, ⟨k2, by simp only [List.length_append, List.length_singleton]; omega, k3⟩, Le.of (fun _ => 38) [] ?_⟩
    simp only [intsD, List.flatMap_append, List.flatMap_cons, List.flatMap_nil, List.append_nil, eu, iD, List.map_append, List.map_cons, List.map_nil, List.length_append, List.length_map, List.length_cons, List.length_nil, Mt_tup, Mt_agg, Mt_fn, forall_eq, forall_eq_or_imp, ne_eq, List.all_cons, List.all_nil, pr, Nat.reduceLeDiff, slR_nil, slR_cons, hpR_nil, hpR_cells, hpR_row, idsR_nil, idsR_cons, mtE_v, mtE_sl, mtE_nil, mtE_refl, mtE_row, mtE_born, mtE_ptr, mtE_rp, mtE_agg, mtE_tup, mtE_fn, mtE_ep, MtL_nil, MtL_cons, Mt_v, Mt_sl, Mt_nil, Mt_refl, Mt_row, Mt_born, Mt_ptr, MtO_cells, MtO_row, liveIds, distinct, Dat.v.injEq, Dat.sl.injEq, Value.int.injEq, Value.bool.injEq, Value.string.injEq, lk_cons, lk_nil, subL_nil, subL_cons, upIds, AV.ids, AV.ids.idsL, AObj.ids, Hp.get_cons, get_nil, allCell, AV.cell, vInt, vBool, vStr, id, true_and, and_true, and_self, List.append_nil, List.nil_append, List.not_mem_nil, List.mem_cons, or_false, false_or, or_self, not_true_eq_false, not_false_eq_true, false_imp_iff, false_implies, List.map_nil, not_false_eq_true, List.contains_cons, List.contains_nil, Bool.or_false, Bool.false_or, Bool.true_or, Bool.or_true, Bool.and_true, Bool.true_and, implies_true, if_true, if_false, reduceCtorEq, Nat.reduceEqDiff, Nat.reduceBEq, Nat.reduceAdd, reduceIte, ↓reduceIte]
    rw [w64 (by omega) (by omega)]
    omega
  ·rw [if_neg h1]
   have h2 := hr 0 (by omega)
   rw [List.drop_eq_nil_of_le (by omega), alls_nil, List.append_nil] at h2
   rw [h2]
end Go.Proofs.Ytgbialeahdoelaa.Eng

end
