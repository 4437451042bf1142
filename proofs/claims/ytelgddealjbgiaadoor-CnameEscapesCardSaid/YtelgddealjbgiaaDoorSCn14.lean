/- CnameTells, on the small machine. -/
import Derived.Test.YtelgddealjbgiaaDoorSCn13
import Derived.Test.YtelgddealjbgiaaDoorEngLaw
namespace Go.Proofs.YtelgddealjbgiaaDoor.Eng
open Go Go.Proofs.YtelgddealjbgiaaDoor.Base Go.Proofs.YtelgddealjbgiaaDoor.Cinput
set_option maxRecDepth 100000
set_option linter.unusedSimpArgs false
set_option linter.unusedVariables false
instance (l : List (Int × Int)) : Decidable (okR l) := by unfold okR; infer_instance
def F_lpts : List AV → Option (Prop × AV)
  | [.d (.sl 2 xs)] => some (xs = (xs.map runeOf).map rD ∧ xs.length ≤ 1000000, vBool (decide (okR (xs.map runeOf))))
  | _ => none
theorem lpts_body (l : List (Int × Int)) (hl : l.length ≤ 1000000) : Body Tryd.prog Gam.none (DRun Tryd.prog Gam.none) 9 [.d (runesD l)] (vBool (decide (okR l))) := by
  refine Body.of Tryd.func9 Tryd.ntmps9 (by kernel_rfl) rfl rfl rfl ?_
  simp only [runesD, List.length_map, goTG_val, goTG_new, goTG_up, goTG_none, goG_none, goG_new, goG_up, ne_eq, evK, evH, retHF, DRun_mk, runT_nil, runT_none, runT_guard, goT_val, goT_new, goT_store, goTH_true, goTH_false, evO, keys, Option.toList_some, Option.toList_none, nzL_nil, nzL_cons, nz_k, nz_sl, nz_nil, nz_agg, startL, evC, evV, goE_val, goE_new, goE_store, goH_true, goH_false, goG_val, lk_cons, lk_nil, lk_func, lk_int, lk_bool, lk_string, lk_slice, lk_agg, look_mk, St.effOf, eff, effCall, effBinC, isConst, effBin, effUn, effConv, effPick, effNil, effFold, fold1, effLoad, effStore, effFieldAddr, effField, fieldOf, sliceOf, effIndexAddr, effIndex, effLen, effExtract, effSlice, dats, bnd, effBuild, placesOf, effBuildSlice, effMakeSlice, effAppend, srcOf, fillA, chunk, seg, toD, toDs, put, eqAV, fieldsEq, leafEq, strip, unw, allB, selP_or, selP_and, tis, TyD.agg, AV.cells, AV.cell, allCell, vInt, vBool, vStr, subL_nil, subL_cons, upIds, AV.ids, AV.ids.idsL, AObj.ids, drops, Hp.get_cons, get_nil, retF, resL, one, fz, fz.fzL, List.map_cons, List.map_nil, List.nil_append, List.append_nil, List.cons_append, List.all_cons, List.all_nil, List.length_cons, List.length_nil, List.getElem?_cons_zero, List.getElem?_cons_succ, List.getD_cons_zero, List.getD_cons_succ, List.take_succ_cons, List.take_zero, List.drop_succ_cons, List.drop_zero, List.take_nil, List.drop_nil, List.contains_cons, List.contains_nil, Option.getD_some, Option.getD_none, Option.map_some, Option.map_none, if_true, if_false, true_and, and_true, and_self, or_self, or_false, false_or, false_and, and_false, reduceCtorEq, sel_and, sel_or, decide_eq_true_eq, Bool.and_eq_true, Bool.or_eq_true, Bool.and_true, Bool.true_and, Bool.or_false, Bool.false_or, Bool.true_or, Bool.or_true, Bool.not_true, Bool.not_false, Bool.false_eq_true, implies_true, not_false_eq_true, Nat.reduceLT, Nat.reduceEqDiff, Nat.reduceAdd, Nat.reduceMul, Nat.reduceMod, Nat.reduceLeDiff, Nat.reduceBEq, Nat.zero_add, Nat.add_zero, reduceIte, ↓reduceIte, List.not_mem_nil]
  refine wpc_loop (fun j : Nat => ⟨24, [], [(0, .d (runesD l)), (3, vInt .i64 j)], []⟩) (fun j => j ≤ l.length ∧ okR (l.take j)) (fun j => l.length - j) 0 ⟨Nat.zero_le _, by simp [okR]⟩ ?_ ?_
  · refine Le.of id [] ?_
    simp only [runesD, Mt_tup, Mt_agg, Mt_fn, forall_eq, forall_eq_or_imp, ne_eq, List.all_cons, List.all_nil, pr, Nat.reduceLeDiff, slR_nil, slR_cons, hpR_nil, hpR_cells, hpR_row, idsR_nil, idsR_cons, mtE_v, mtE_sl, mtE_nil, mtE_refl, mtE_row, mtE_born, mtE_ptr, mtE_rp, mtE_agg, mtE_tup, mtE_fn, mtE_ep, MtL_nil, MtL_cons, Mt_v, Mt_sl, Mt_nil, Mt_refl, Mt_row, Mt_born, Mt_ptr, MtO_cells, MtO_row, liveIds, distinct, Dat.v.injEq, Dat.sl.injEq, Value.int.injEq, Value.bool.injEq, Value.string.injEq, lk_cons, lk_nil, subL_nil, subL_cons, upIds, AV.ids, AV.ids.idsL, AObj.ids, Hp.get_cons, get_nil, allCell, AV.cell, vInt, vBool, vStr, id, true_and, and_true, and_self, List.append_nil, List.nil_append, List.not_mem_nil, List.mem_cons, or_false, false_or, or_self, not_true_eq_false, not_false_eq_true, false_imp_iff, false_implies, List.map_nil, not_false_eq_true, List.contains_cons, List.contains_nil, Bool.or_false, Bool.false_or, Bool.true_or, Bool.or_true, Bool.and_true, Bool.true_and, implies_true, if_true, if_false, reduceCtorEq, Nat.reduceEqDiff, Nat.reduceBEq, Nat.reduceAdd, reduceIte, ↓reduceIte]
    try rfl
  · rintro j ⟨hj, ho⟩
    by_cases c0 : (j : Int) < l.length
    · obtain ⟨x, hx⟩ : ∃ x, l[j]? = some x := ⟨_, List.getElem?_eq_getElem (by omega)⟩
      have hg : ∀ z, (l.map rD).getD (j : Int).toNat z = rD x := getD_map hx
      have hok : okR (l.take (j + 1)) ↔ (0 ≤ x.1 ∧ x.1 ≤ 1114111) := by
        rw [take_at hx]
        constructor
        · intro h; exact h x (by simp)
        · intro h y hy
          rcases List.mem_append.mp hy with hy | hy
          · exact ho y hy
          · rcases List.mem_singleton.mp hy with rfl; exact h
      simp only [runesD, hg, rD, List.length_map, Int.reduceLE, Int.reduceLT, Int.reduceGT, Int.reduceGE, Int.reduceBEq, Int.reduceBNe, Int.reduceEq, Int.reduceToNat, Int.reduceSub, Int.reduceAdd, Int.reduceMul, Int.reducePow, Int.reduceNeg, goTG_val, goTG_new, goTG_up, goTG_none, goG_none, goG_new, goG_up, ne_eq, evK, evH, retHF, DRun_mk, runT_nil, runT_none, runT_guard, goT_val, goT_new, goT_store, goTH_true, goTH_false, evO, keys, Option.toList_some, Option.toList_none, nzL_nil, nzL_cons, nz_k, nz_sl, nz_nil, nz_agg, startL, evC, evV, goE_val, goE_new, goE_store, goH_true, goH_false, goG_val, lk_cons, lk_nil, lk_func, lk_int, lk_bool, lk_string, lk_slice, lk_agg, look_mk, St.effOf, eff, effCall, effBinC, isConst, effBin, effUn, effConv, effPick, effNil, effFold, fold1, effLoad, effStore, effFieldAddr, effField, fieldOf, sliceOf, effIndexAddr, effIndex, effLen, effExtract, effSlice, dats, bnd, effBuild, placesOf, effBuildSlice, effMakeSlice, effAppend, srcOf, fillA, chunk, seg, toD, toDs, put, eqAV, fieldsEq, leafEq, strip, unw, allB, selP_or, selP_and, tis, TyD.agg, AV.cells, AV.cell, allCell, vInt, vBool, vStr, subL_nil, subL_cons, upIds, AV.ids, AV.ids.idsL, AObj.ids, drops, Hp.get_cons, get_nil, retF, resL, one, fz, fz.fzL, List.map_cons, List.map_nil, List.nil_append, List.append_nil, List.cons_append, List.all_cons, List.all_nil, List.length_cons, List.length_nil, List.getElem?_cons_zero, List.getElem?_cons_succ, List.getD_cons_zero, List.getD_cons_succ, List.take_succ_cons, List.take_zero, List.drop_succ_cons, List.drop_zero, List.take_nil, List.drop_nil, List.contains_cons, List.contains_nil, Option.getD_some, Option.getD_none, Option.map_some, Option.map_none, if_true, if_false, true_and, and_true, and_self, or_self, or_false, false_or, false_and, and_false, reduceCtorEq, sel_and, sel_or, decide_eq_true_eq, Bool.and_eq_true, Bool.or_eq_true, Bool.and_true, Bool.true_and, Bool.or_false, Bool.false_or, Bool.true_or, Bool.or_true, Bool.not_true, Bool.not_false, Bool.false_eq_true, implies_true, not_false_eq_true, Nat.reduceLT, Nat.reduceEqDiff, Nat.reduceAdd, Nat.reduceMul, Nat.reduceMod, Nat.reduceLeDiff, Nat.reduceBEq, Nat.zero_add, Nat.add_zero, reduceIte, ↓reduceIte, List.not_mem_nil]
      rw [if_pos c0]
      refine ⟨⟨by omega, by omega⟩, fun _ => ⟨by omega, by omega⟩, ?_⟩
      by_cases c1 : x.1 < 0 ∨ x.1 > 1114111
      · rw [if_pos c1]
        refine Sub.eq ?_
        rw [decide_eq_false (fun h : okR l => by have := h x (List.mem_of_getElem? hx); omega)]
      · rw [if_neg c1]
        refine ⟨j + 1, by omega, ⟨by omega, hok.mpr (by omega)⟩, Le.of id [] ?_⟩
        simp only [runesD, Mt_tup, Mt_agg, Mt_fn, forall_eq, forall_eq_or_imp, ne_eq, List.all_cons, List.all_nil, pr, Nat.reduceLeDiff, slR_nil, slR_cons, hpR_nil, hpR_cells, hpR_row, idsR_nil, idsR_cons, mtE_v, mtE_sl, mtE_nil, mtE_refl, mtE_row, mtE_born, mtE_ptr, mtE_rp, mtE_agg, mtE_tup, mtE_fn, mtE_ep, MtL_nil, MtL_cons, Mt_v, Mt_sl, Mt_nil, Mt_refl, Mt_row, Mt_born, Mt_ptr, MtO_cells, MtO_row, liveIds, distinct, Dat.v.injEq, Dat.sl.injEq, Value.int.injEq, Value.bool.injEq, Value.string.injEq, lk_cons, lk_nil, subL_nil, subL_cons, upIds, AV.ids, AV.ids.idsL, AObj.ids, Hp.get_cons, get_nil, allCell, AV.cell, vInt, vBool, vStr, id, true_and, and_true, and_self, List.append_nil, List.nil_append, List.not_mem_nil, List.mem_cons, or_false, false_or, or_self, not_true_eq_false, not_false_eq_true, false_imp_iff, false_implies, List.map_nil, not_false_eq_true, List.contains_cons, List.contains_nil, Bool.or_false, Bool.false_or, Bool.true_or, Bool.or_true, Bool.and_true, Bool.true_and, implies_true, if_true, if_false, reduceCtorEq, Nat.reduceEqDiff, Nat.reduceBEq, Nat.reduceAdd, reduceIte, ↓reduceIte]
        rw [w64 (by omega) (by omega)]
        omega
    · simp only [runesD, List.length_map, Int.reduceLE, Int.reduceLT, Int.reduceGT, Int.reduceGE, Int.reduceBEq, Int.reduceBNe, Int.reduceEq, Int.reduceToNat, Int.reduceSub, Int.reduceAdd, Int.reduceMul, Int.reducePow, Int.reduceNeg, goTG_val, goTG_new, goTG_up, goTG_none, goG_none, goG_new, goG_up, ne_eq, evK, evH, retHF, DRun_mk, runT_nil, runT_none, runT_guard, goT_val, goT_new, goT_store, goTH_true, goTH_false, evO, keys, Option.toList_some, Option.toList_none, nzL_nil, nzL_cons, nz_k, nz_sl, nz_nil, nz_agg, startL, evC, evV, goE_val, goE_new, goE_store, goH_true, goH_false, goG_val, lk_cons, lk_nil, lk_func, lk_int, lk_bool, lk_string, lk_slice, lk_agg, look_mk, St.effOf, eff, effCall, effBinC, isConst, effBin, effUn, effConv, effPick, effNil, effFold, fold1, effLoad, effStore, effFieldAddr, effField, fieldOf, sliceOf, effIndexAddr, effIndex, effLen, effExtract, effSlice, dats, bnd, effBuild, placesOf, effBuildSlice, effMakeSlice, effAppend, srcOf, fillA, chunk, seg, toD, toDs, put, eqAV, fieldsEq, leafEq, strip, unw, allB, selP_or, selP_and, tis, TyD.agg, AV.cells, AV.cell, allCell, vInt, vBool, vStr, subL_nil, subL_cons, upIds, AV.ids, AV.ids.idsL, AObj.ids, drops, Hp.get_cons, get_nil, retF, resL, one, fz, fz.fzL, List.map_cons, List.map_nil, List.nil_append, List.append_nil, List.cons_append, List.all_cons, List.all_nil, List.length_cons, List.length_nil, List.getElem?_cons_zero, List.getElem?_cons_succ, List.getD_cons_zero, List.getD_cons_succ, List.take_succ_cons, List.take_zero, List.drop_succ_cons, List.drop_zero, List.take_nil, List.drop_nil, List.contains_cons, List.contains_nil, Option.getD_some, Option.getD_none, Option.map_some, Option.map_none, if_true, if_false, true_and, and_true, and_self, or_self, or_false, false_or, false_and, and_false, reduceCtorEq, sel_and, sel_or, decide_eq_true_eq, Bool.and_eq_true, Bool.or_eq_true, Bool.and_true, Bool.true_and, Bool.or_false, Bool.false_or, Bool.true_or, Bool.or_true, Bool.not_true, Bool.not_false, Bool.false_eq_true, implies_true, not_false_eq_true, Nat.reduceLT, Nat.reduceEqDiff, Nat.reduceAdd, Nat.reduceMul, Nat.reduceMod, Nat.reduceLeDiff, Nat.reduceBEq, Nat.zero_add, Nat.add_zero, reduceIte, ↓reduceIte, List.not_mem_nil]
      rw [if_neg c0]
      rw [List.take_of_length_le (by omega)] at ho
      refine Sub.eq ?_
      rw [decide_eq_true ho]
theorem lpts_calm : ∀ args sc res, F_lpts args = some (sc, res) → sc → Calm Tryd.prog 9 args res := by
  intro args sc res h hs
  unfold F_lpts at h
  split at h <;> cases h
  rename_i xs
  have hb := lpts_body (xs.map runeOf) (by simpa using hs.2)
  rw [runesD, ← hs.1] at hb
  exact (Known.none _).calm mixed rfl rfl hb
/- The law's example. -/
noncomputable def G_al14 : Gam := (((((((Gam.none.add 25 fun a => F_Runes (NT.nz.nzL [.s 1] a)).add 10 fun a => F_take (NT.nz.nzL [.s 2] a)).add 18 fun a => F_name (NT.nz.nzL [] a)).add 12 fun a => F_start (NT.nz.nzL [] a)).add 14 fun a => F_in (NT.nz.nzL [] a)).add 16 fun a => F_beg (NT.nz.nzL [.s 2] a)).add 22 fun a => F_txt (NT.nz.nzL [] a)).add 20 fun a => F_rest (NT.nz.nzL [] a)
theorem known_al14 : Known Tryd.prog G_al14 := ((((((((Known.none _).addC _ Runes_calm).addC _ takeI_calm).addC _ name_calm).addC _ startI_calm).addC _ inI_calm).addC _ begI_calm).addC _ txt_calm).addC _ rest_calm
theorem G_al14_at : (∀ h d a, G_al14 25 h d a = calmE (fun a => F_Runes (NT.nz.nzL [.s 1] a)) h a) ∧ (∀ h d a, G_al14 10 h d a = calmE (fun a => F_take (NT.nz.nzL [.s 2] a)) h a) ∧ (∀ h d a, G_al14 18 h d a = calmE (fun a => F_name (NT.nz.nzL [] a)) h a) ∧ (∀ h d a, G_al14 12 h d a = calmE (fun a => F_start (NT.nz.nzL [] a)) h a) ∧ (∀ h d a, G_al14 14 h d a = calmE (fun a => F_in (NT.nz.nzL [] a)) h a) ∧ (∀ h d a, G_al14 16 h d a = calmE (fun a => F_beg (NT.nz.nzL [.s 2] a)) h a) ∧ (∀ h d a, G_al14 22 h d a = calmE (fun a => F_txt (NT.nz.nzL [] a)) h a) ∧ (∀ h d a, G_al14 20 h d a = calmE (fun a => F_rest (NT.nz.nzL [] a)) h a) := ⟨fun _ _ _ => rfl, fun _ _ _ => rfl, fun _ _ _ => rfl, fun _ _ _ => rfl, fun _ _ _ => rfl, fun _ _ _ => rfl, fun _ _ _ => rfl, fun _ _ _ => rfl⟩
theorem al_runes : runes 4 [97, 49, 32, 98] 0 = [(97, 0), (49, 1), (32, 2), (98, 3)] ∧ runes 2 [45, 97] 0 = [(45, 0), (97, 1)] := by decide +kernel
theorem alive14_body : Body Tryd.prog G_al14 (DRun Tryd.prog G_al14) 8 [] (vBool true) := by
  refine Body.of Tryd.func8 Tryd.ntmps8 (by kernel_rfl) rfl rfl rfl ?_
  have b1 : (⟨#[97, 49, 32, 98]⟩ : ByteArray).data.toList.map byteRow = [97, 49, 32, 98].map (iD .u8) := rfl
  have b2 : (⟨#[45, 97]⟩ : ByteArray).data.toList.map byteRow = [45, 97].map (iD .u8) := rfl
  have k1 : (sB (strOfNums (nameL (sB ⟨#[97, 32, 98]⟩))) = sB ⟨#[97, 92, 32, 98]⟩) = True := eq_true (by decide +kernel)
  have k2 : (sB (strOfNums (puts (takeV [(97, 0), (49, 1), (32, 2), (98, 3)] 0).1)) = sB ⟨#[97, 49]⟩) = True := eq_true (by decide +kernel)
  have k3 : ((takeV [(97, 0), (49, 1), (32, 2), (98, 3)] 0).2 == 2) = true := by decide +kernel
  have k4 : startP 97 = True := eq_true (by decide)
  have k5 : inP 49 = True := eq_true (by decide)
  have k6 : begP [(45, 0), (97, 1)] 0 = True := eq_true (by decide +kernel)
  have k7 : (sB (strOfNums (textL (sB ⟨#[97]⟩))) = sB ⟨#[34, 97, 34]⟩) = True := eq_true (by decide +kernel)
  have k8 : (sB (strOfNums (restL (sB ⟨#[49]⟩))) = sB ⟨#[49]⟩) = True := eq_true (by decide +kernel)
  have k9 : okR [(97, 0), (49, 1), (32, 2), (98, 3)] = True := eq_true (by decide)
  have k10 : okR [(45, 0), (97, 1)] = True := eq_true (by decide)
  have l1 : ([97, 49, 32, 98] : List Int).length = 4 := rfl
  have l2 : ([45, 97] : List Int).length = 2 := rfl
  have nz2 : ∀ xs, (NT.s 2).nz (.d (.sl 2 xs)) = .d (.sl 2 xs) := fun xs => rfl
  simp only [b1, b2, k1, k2, k3, k4, k5, k6, k7, k8, k9, k10, numOf, rD, runeOf, iD, num_iD, l1, l2, al_runes.1, al_runes.2, runesD, rD_runeOf, nz2, eq_sB, G_al14_at, calmE, F_Runes, F_take, F_name, F_start, F_in, F_beg, F_txt, F_rest, AV.flat, AV.flat.flatL, List.length_map, Int.reduceLE, Int.reduceLT, Int.reduceGT, Int.reduceGE, Int.reduceBEq, Int.reduceBNe, Int.reduceEq, Int.reduceToNat, Int.reduceSub, Int.reduceAdd, Int.reduceMul, Int.reducePow, Int.reduceNeg, goTG_val, goTG_new, goTG_up, goTG_none, goG_none, goG_new, goG_up, ne_eq, evK, evH, retHF, DRun_mk, runT_nil, runT_none, runT_guard, goT_val, goT_new, goT_store, goTH_true, goTH_false, evO, keys, Option.toList_some, Option.toList_none, nzL_nil, nzL_cons, nz_k, nz_sl, nz_nil, nz_agg, startL, evC, evV, goE_val, goE_new, goE_store, goH_true, goH_false, goG_val, lk_cons, lk_nil, lk_func, lk_int, lk_bool, lk_string, lk_slice, lk_agg, look_mk, St.effOf, eff, effCall, effBinC, isConst, effBin, effUn, effConv, effPick, effNil, effFold, fold1, effLoad, effStore, effFieldAddr, effField, fieldOf, sliceOf, effIndexAddr, effIndex, effLen, effExtract, effSlice, dats, bnd, effBuild, placesOf, effBuildSlice, effMakeSlice, effAppend, srcOf, fillA, chunk, seg, toD, toDs, put, eqAV, fieldsEq, leafEq, strip, unw, allB, selP_or, selP_and, tis, TyD.agg, AV.cells, AV.cell, allCell, vInt, vBool, vStr, subL_nil, subL_cons, upIds, AV.ids, AV.ids.idsL, AObj.ids, drops, Hp.get_cons, get_nil, retF, resL, one, fz, fz.fzL, List.map_cons, List.map_nil, List.nil_append, List.append_nil, List.cons_append, List.all_cons, List.all_nil, List.length_cons, List.length_nil, List.getElem?_cons_zero, List.getElem?_cons_succ, List.getD_cons_zero, List.getD_cons_succ, List.take_succ_cons, List.take_zero, List.drop_succ_cons, List.drop_zero, List.take_nil, List.drop_nil, List.contains_cons, List.contains_nil, Option.getD_some, Option.getD_none, Option.map_some, Option.map_none, if_true, if_false, true_and, and_true, and_self, or_self, or_false, false_or, false_and, and_false, reduceCtorEq, sel_and, sel_or, decide_eq_true_eq, Bool.and_eq_true, Bool.or_eq_true, Bool.and_true, Bool.true_and, Bool.or_false, Bool.false_or, Bool.true_or, Bool.or_true, Bool.not_true, Bool.not_false, Bool.false_eq_true, implies_true, not_false_eq_true, Nat.reduceLT, Nat.reduceEqDiff, Nat.reduceAdd, Nat.reduceMul, Nat.reduceMod, Nat.reduceLeDiff, Nat.reduceBEq, Nat.zero_add, Nat.add_zero, reduceIte, ↓reduceIte, List.not_mem_nil]
  have hby : ∀ l : List Int, (l.all fun x => decide (0 ≤ x ∧ x < 256)) = true → Bytes l := fun l h x hx => of_decide_eq_true (List.all_eq_true.mp h x hx)
  exact ⟨hby _ (by decide), by decide, fun _ => hby _ (by decide), fun _ => by decide, fun _ => by decide, Sub.refl _⟩
theorem alive14_calm : Calm Tryd.prog 8 [] (vBool true) := known_al14.calm mixed rfl rfl alive14_body
def F_alive14 : List AV → Option (Prop × AV)
  | [] => some (True, vBool true)
  | _ => none
theorem alive14_c : ∀ args sc res, F_alive14 args = some (sc, res) → sc → Calm Tryd.prog 8 args res := fun args sc res h _ => by
  unfold F_alive14 at h
  split at h <;> cases h
  exact alive14_calm
end Go.Proofs.YtelgddealjbgiaaDoor.Eng
