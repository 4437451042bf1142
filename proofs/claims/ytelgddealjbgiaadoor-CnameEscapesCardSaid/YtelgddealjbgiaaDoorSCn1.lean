/- Names of CSS: the small questions, on the small machine. -/
import Derived.Test.YtelgddealjbgiaaDoorSAll
import Derived.Test.YtelgddealjbgiaaDoorSRef2
namespace Go.Proofs.YtelgddealjbgiaaDoor.Eng
open Go Go.Proofs.YtelgddealjbgiaaDoor.Base
set_option maxRecDepth 100000
set_option linter.unusedSimpArgs false
set_option linter.unusedVariables false
def rD (x : Int × Int) : List Dat := [.v (.int .i64 x.1), .v (.int .i64 x.2)]
def runesD (l : List (Int × Int)) : Dat := .sl 2 (l.map rD)
def runeOf : List Dat → Int × Int
  | [.v (.int .i64 a), .v (.int .i64 b)] => (a, b)
  | _ => (0, 0)
theorem rD_runeOf (l : List (Int × Int)) : (l.map rD).map runeOf = l := by
  rw [List.map_map]; exact (List.map_congr_left fun x _ => rfl).trans (List.map_id l)
/- What is what. -/
def startP (r : Int) : Prop := (97 ≤ r ∧ r ≤ 122) ∨ (65 ≤ r ∧ r ≤ 90) ∨ r = 95 ∨ 128 ≤ r
def digP (r : Int) : Prop := 48 ≤ r ∧ r ≤ 57
def inP (r : Int) : Prop := startP r ∨ digP r ∨ r = 45
def hexP (r : Int) : Prop := digP r ∨ (97 ≤ r ∧ r ≤ 102) ∨ (65 ≤ r ∧ r ≤ 70)
def blankC (r : Int) : Prop := r = 32 ∨ r = 9 ∨ r = 10
instance (r : Int) : Decidable (startP r) := by unfold startP; infer_instance
instance (r : Int) : Decidable (digP r) := by unfold digP; infer_instance
instance (r : Int) : Decidable (inP r) := by unfold inP; infer_instance
instance (r : Int) : Decidable (hexP r) := by unfold hexP; infer_instance
instance (r : Int) : Decidable (blankC r) := by unfold blankC; infer_instance
/-- The code point of a place. -/
def atR (l : List (Int × Int)) (i : Int) : Int := if i < 0 ∨ i ≥ l.length then -1 else (l.getD i.toNat (0, 0)).1
def escP (l : List (Int × Int)) (i : Int) : Prop := atR l i = 92 ∧ atR l (i + 1) ≠ 10
instance (l : List (Int × Int)) (i : Int) : Decidable (escP l i) := by unfold escP; infer_instance
/-- A digit's number; below 0: it is none. -/
def hexV (r : Int) : Int := if digP r then r - 48 else if 97 ≤ r ∧ r ≤ 102 then r - 87 else if 65 ≤ r ∧ r ≤ 70 then r - 55 else -1
def F_hexv : List AV → Option (Prop × AV)
  | [.d (.v (.int .i64 r))] => some (-1000 ≤ r ∧ r ≤ 2000000, vInt .i64 (hexV r))
  | _ => none
def F_start : List AV → Option (Prop × AV)
  | [.d (.v (.int .i64 r))] => some (True, vBool (decide (startP r)))
  | _ => none
def F_dig : List AV → Option (Prop × AV)
  | [.d (.v (.int .i64 r))] => some (True, vBool (decide (digP r)))
  | _ => none
def F_in : List AV → Option (Prop × AV)
  | [.d (.v (.int .i64 r))] => some (True, vBool (decide (inP r)))
  | _ => none
def F_hexc : List AV → Option (Prop × AV)
  | [.d (.v (.int .i64 r))] => some (True, vBool (decide (hexP r)))
  | _ => none
def F_blankc : List AV → Option (Prop × AV)
  | [.d (.v (.int .i64 r))] => some (True, vBool (decide (blankC r)))
  | _ => none
theorem one_calm {g : Nat} {F : List AV → Option (Prop × AV)} {p : Int → Bool} {Γ : Gam} (K : Known Tryd.prog Γ) (hF : ∀ args sc res, F args = some (sc, res) → ∃ r, args = [vInt .i64 r] ∧ res = vBool (p r)) (hb : ∀ r, Body Tryd.prog Γ (DRun Tryd.prog Γ) g [vInt .i64 r] (vBool (p r))) : ∀ args sc res, F args = some (sc, res) → sc → Calm Tryd.prog g args res := by
  intro args sc res h _
  obtain ⟨r, rfl, rfl⟩ := hF _ _ _ h
  exact K.calm mixed rfl rfl (hb r)
theorem startI_body (r : Int) : Body Tryd.prog Gam.none (DRun Tryd.prog Gam.none) 12 [vInt .i64 r] (vBool (decide (startP r))) := by
  refine Body.of Tryd.func12 Tryd.ntmps12 (by kernel_rfl) rfl rfl rfl ?_
  simp only [goTG_val, goTG_new, goTG_up, goTG_none, goG_none, goG_new, goG_up, ne_eq, evK, evH, retHF, DRun_mk, runT_nil, runT_none, runT_guard, goT_val, goT_new, goT_store, goTH_true, goTH_false, evO, keys, Option.toList_some, Option.toList_none, nzL_nil, nzL_cons, nz_k, nz_sl, nz_nil, nz_agg, startL, evC, evV, goE_val, goE_new, goE_store, goH_true, goH_false, goG_val, lk_cons, lk_nil, lk_func, lk_int, lk_bool, lk_string, lk_slice, lk_agg, look_mk, St.effOf, eff, effCall, effBinC, isConst, effBin, effUn, effConv, effPick, effNil, effFold, fold1, effLoad, effStore, effFieldAddr, effField, fieldOf, sliceOf, effIndexAddr, effIndex, effLen, effExtract, effSlice, dats, bnd, effBuild, placesOf, effBuildSlice, effMakeSlice, effAppend, srcOf, fillA, chunk, seg, toD, toDs, put, eqAV, fieldsEq, leafEq, strip, unw, allB, selP_or, selP_and, tis, TyD.agg, AV.cells, AV.cell, allCell, vInt, vBool, vStr, subL_nil, subL_cons, upIds, AV.ids, AV.ids.idsL, AObj.ids, drops, Hp.get_cons, get_nil, retF, resL, one, fz, fz.fzL, List.map_cons, List.map_nil, List.nil_append, List.append_nil, List.cons_append, List.all_cons, List.all_nil, List.length_cons, List.length_nil, List.getElem?_cons_zero, List.getElem?_cons_succ, List.getD_cons_zero, List.getD_cons_succ, List.take_succ_cons, List.take_zero, List.drop_succ_cons, List.drop_zero, List.take_nil, List.drop_nil, List.contains_cons, List.contains_nil, Option.getD_some, Option.getD_none, Option.map_some, Option.map_none, if_true, if_false, true_and, and_true, and_self, or_self, or_false, false_or, false_and, and_false, reduceCtorEq, sel_and, sel_or, decide_eq_true_eq, Bool.and_eq_true, Bool.or_eq_true, Bool.and_true, Bool.true_and, Bool.or_false, Bool.false_or, Bool.true_or, Bool.or_true, Bool.not_true, Bool.not_false, Bool.false_eq_true, implies_true, not_false_eq_true, Nat.reduceLT, Nat.reduceEqDiff, Nat.reduceAdd, Nat.reduceMul, Nat.reduceMod, Nat.reduceLeDiff, Nat.reduceBEq, Nat.zero_add, Nat.add_zero, reduceIte, ↓reduceIte, List.not_mem_nil]
  refine Sub.eq ?_
  congr 3
  rw [Bool.eq_iff_iff, decide_eq_true_eq]
  unfold startP
  repeat' split
  all_goals
    simp only [startP, digP, beq_iff_eq, decide_eq_true_eq, Bool.false_eq_true, true_iff, false_iff, Bool.or_eq_true, Bool.and_eq_true] at *
    try omega
theorem startI_calm : ∀ args sc res, F_start args = some (sc, res) → sc → Calm Tryd.prog 12 args res :=
  one_calm (Known.none _) (fun args sc res h => by
    unfold F_start at h
    split at h <;> cases h
    exact ⟨_, rfl, rfl⟩) startI_body
theorem digI_body (r : Int) : Body Tryd.prog Gam.none (DRun Tryd.prog Gam.none) 34 [vInt .i64 r] (vBool (decide (digP r))) := by
  refine Body.of Tryd.func34 Tryd.ntmps34 (by kernel_rfl) rfl rfl rfl ?_
  simp only [goTG_val, goTG_new, goTG_up, goTG_none, goG_none, goG_new, goG_up, ne_eq, evK, evH, retHF, DRun_mk, runT_nil, runT_none, runT_guard, goT_val, goT_new, goT_store, goTH_true, goTH_false, evO, keys, Option.toList_some, Option.toList_none, nzL_nil, nzL_cons, nz_k, nz_sl, nz_nil, nz_agg, startL, evC, evV, goE_val, goE_new, goE_store, goH_true, goH_false, goG_val, lk_cons, lk_nil, lk_func, lk_int, lk_bool, lk_string, lk_slice, lk_agg, look_mk, St.effOf, eff, effCall, effBinC, isConst, effBin, effUn, effConv, effPick, effNil, effFold, fold1, effLoad, effStore, effFieldAddr, effField, fieldOf, sliceOf, effIndexAddr, effIndex, effLen, effExtract, effSlice, dats, bnd, effBuild, placesOf, effBuildSlice, effMakeSlice, effAppend, srcOf, fillA, chunk, seg, toD, toDs, put, eqAV, fieldsEq, leafEq, strip, unw, allB, selP_or, selP_and, tis, TyD.agg, AV.cells, AV.cell, allCell, vInt, vBool, vStr, subL_nil, subL_cons, upIds, AV.ids, AV.ids.idsL, AObj.ids, drops, Hp.get_cons, get_nil, retF, resL, one, fz, fz.fzL, List.map_cons, List.map_nil, List.nil_append, List.append_nil, List.cons_append, List.all_cons, List.all_nil, List.length_cons, List.length_nil, List.getElem?_cons_zero, List.getElem?_cons_succ, List.getD_cons_zero, List.getD_cons_succ, List.take_succ_cons, List.take_zero, List.drop_succ_cons, List.drop_zero, List.take_nil, List.drop_nil, List.contains_cons, List.contains_nil, Option.getD_some, Option.getD_none, Option.map_some, Option.map_none, if_true, if_false, true_and, and_true, and_self, or_self, or_false, false_or, false_and, and_false, reduceCtorEq, sel_and, sel_or, decide_eq_true_eq, Bool.and_eq_true, Bool.or_eq_true, Bool.and_true, Bool.true_and, Bool.or_false, Bool.false_or, Bool.true_or, Bool.or_true, Bool.not_true, Bool.not_false, Bool.false_eq_true, implies_true, not_false_eq_true, Nat.reduceLT, Nat.reduceEqDiff, Nat.reduceAdd, Nat.reduceMul, Nat.reduceMod, Nat.reduceLeDiff, Nat.reduceBEq, Nat.zero_add, Nat.add_zero, reduceIte, ↓reduceIte, List.not_mem_nil]
  refine Sub.eq ?_
  congr 3
  rw [Bool.eq_iff_iff, decide_eq_true_eq]
  unfold digP
  repeat' split
  all_goals
    simp only [startP, digP, beq_iff_eq, decide_eq_true_eq, Bool.false_eq_true, true_iff, false_iff, Bool.or_eq_true, Bool.and_eq_true] at *
    try omega
theorem digI_calm : ∀ args sc res, F_dig args = some (sc, res) → sc → Calm Tryd.prog 34 args res :=
  one_calm (Known.none _) (fun args sc res h => by
    unfold F_dig at h
    split at h <;> cases h
    exact ⟨_, rfl, rfl⟩) digI_body
theorem blankI_body (r : Int) : Body Tryd.prog Gam.none (DRun Tryd.prog Gam.none) 50 [vInt .i64 r] (vBool (decide (blankC r))) := by
  refine Body.of Tryd.func50 Tryd.ntmps50 (by kernel_rfl) rfl rfl rfl ?_
  simp only [goTG_val, goTG_new, goTG_up, goTG_none, goG_none, goG_new, goG_up, ne_eq, evK, evH, retHF, DRun_mk, runT_nil, runT_none, runT_guard, goT_val, goT_new, goT_store, goTH_true, goTH_false, evO, keys, Option.toList_some, Option.toList_none, nzL_nil, nzL_cons, nz_k, nz_sl, nz_nil, nz_agg, startL, evC, evV, goE_val, goE_new, goE_store, goH_true, goH_false, goG_val, lk_cons, lk_nil, lk_func, lk_int, lk_bool, lk_string, lk_slice, lk_agg, look_mk, St.effOf, eff, effCall, effBinC, isConst, effBin, effUn, effConv, effPick, effNil, effFold, fold1, effLoad, effStore, effFieldAddr, effField, fieldOf, sliceOf, effIndexAddr, effIndex, effLen, effExtract, effSlice, dats, bnd, effBuild, placesOf, effBuildSlice, effMakeSlice, effAppend, srcOf, fillA, chunk, seg, toD, toDs, put, eqAV, fieldsEq, leafEq, strip, unw, allB, selP_or, selP_and, tis, TyD.agg, AV.cells, AV.cell, allCell, vInt, vBool, vStr, subL_nil, subL_cons, upIds, AV.ids, AV.ids.idsL, AObj.ids, drops, Hp.get_cons, get_nil, retF, resL, one, fz, fz.fzL, List.map_cons, List.map_nil, List.nil_append, List.append_nil, List.cons_append, List.all_cons, List.all_nil, List.length_cons, List.length_nil, List.getElem?_cons_zero, List.getElem?_cons_succ, List.getD_cons_zero, List.getD_cons_succ, List.take_succ_cons, List.take_zero, List.drop_succ_cons, List.drop_zero, List.take_nil, List.drop_nil, List.contains_cons, List.contains_nil, Option.getD_some, Option.getD_none, Option.map_some, Option.map_none, if_true, if_false, true_and, and_true, and_self, or_self, or_false, false_or, false_and, and_false, reduceCtorEq, sel_and, sel_or, decide_eq_true_eq, Bool.and_eq_true, Bool.or_eq_true, Bool.and_true, Bool.true_and, Bool.or_false, Bool.false_or, Bool.true_or, Bool.or_true, Bool.not_true, Bool.not_false, Bool.false_eq_true, implies_true, not_false_eq_true, Nat.reduceLT, Nat.reduceEqDiff, Nat.reduceAdd, Nat.reduceMul, Nat.reduceMod, Nat.reduceLeDiff, Nat.reduceBEq, Nat.zero_add, Nat.add_zero, reduceIte, ↓reduceIte, List.not_mem_nil]
  refine Sub.eq ?_
  congr 3
  rw [Bool.eq_iff_iff, decide_eq_true_eq]
  unfold blankC
  repeat' split
  all_goals
    simp only [startP, digP, beq_iff_eq, decide_eq_true_eq, Bool.false_eq_true, true_iff, false_iff, Bool.or_eq_true, Bool.and_eq_true] at *
    try omega
theorem blankI_calm : ∀ args sc res, F_blankc args = some (sc, res) → sc → Calm Tryd.prog 50 args res :=
  one_calm (Known.none _) (fun args sc res h => by
    unfold F_blankc at h
    split at h <;> cases h
    exact ⟨_, rfl, rfl⟩) blankI_body
theorem startR_body (r : Int) : Body Tryd.prog Gam.none (DRun Tryd.prog Gam.none) 13 [vInt .i64 r] (vBool (decide (startP r))) := by
  refine Body.of Tryd.func13 Tryd.ntmps13 (by kernel_rfl) rfl rfl rfl ?_
  simp only [goTG_val, goTG_new, goTG_up, goTG_none, goG_none, goG_new, goG_up, ne_eq, evK, evH, retHF, DRun_mk, runT_nil, runT_none, runT_guard, goT_val, goT_new, goT_store, goTH_true, goTH_false, evO, keys, Option.toList_some, Option.toList_none, nzL_nil, nzL_cons, nz_k, nz_sl, nz_nil, nz_agg, startL, evC, evV, goE_val, goE_new, goE_store, goH_true, goH_false, goG_val, lk_cons, lk_nil, lk_func, lk_int, lk_bool, lk_string, lk_slice, lk_agg, look_mk, St.effOf, eff, effCall, effBinC, isConst, effBin, effUn, effConv, effPick, effNil, effFold, fold1, effLoad, effStore, effFieldAddr, effField, fieldOf, sliceOf, effIndexAddr, effIndex, effLen, effExtract, effSlice, dats, bnd, effBuild, placesOf, effBuildSlice, effMakeSlice, effAppend, srcOf, fillA, chunk, seg, toD, toDs, put, eqAV, fieldsEq, leafEq, strip, unw, allB, selP_or, selP_and, tis, TyD.agg, AV.cells, AV.cell, allCell, vInt, vBool, vStr, subL_nil, subL_cons, upIds, AV.ids, AV.ids.idsL, AObj.ids, drops, Hp.get_cons, get_nil, retF, resL, one, fz, fz.fzL, List.map_cons, List.map_nil, List.nil_append, List.append_nil, List.cons_append, List.all_cons, List.all_nil, List.length_cons, List.length_nil, List.getElem?_cons_zero, List.getElem?_cons_succ, List.getD_cons_zero, List.getD_cons_succ, List.take_succ_cons, List.take_zero, List.drop_succ_cons, List.drop_zero, List.take_nil, List.drop_nil, List.contains_cons, List.contains_nil, Option.getD_some, Option.getD_none, Option.map_some, Option.map_none, if_true, if_false, true_and, and_true, and_self, or_self, or_false, false_or, false_and, and_false, reduceCtorEq, sel_and, sel_or, decide_eq_true_eq, Bool.and_eq_true, Bool.or_eq_true, Bool.and_true, Bool.true_and, Bool.or_false, Bool.false_or, Bool.true_or, Bool.or_true, Bool.not_true, Bool.not_false, Bool.false_eq_true, implies_true, not_false_eq_true, Nat.reduceLT, Nat.reduceEqDiff, Nat.reduceAdd, Nat.reduceMul, Nat.reduceMod, Nat.reduceLeDiff, Nat.reduceBEq, Nat.zero_add, Nat.add_zero, reduceIte, ↓reduceIte, List.not_mem_nil]
  refine Sub.eq ?_
  congr 3
  rw [Bool.eq_iff_iff, decide_eq_true_eq]
  unfold startP
  repeat' split
  all_goals
    simp only [startP, digP, beq_iff_eq, decide_eq_true_eq, Bool.false_eq_true, true_iff, false_iff, Bool.or_eq_true, Bool.and_eq_true] at *
    try omega
theorem startR_calm : ∀ args sc res, F_start args = some (sc, res) → sc → Calm Tryd.prog 13 args res :=
  one_calm (Known.none _) (fun args sc res h => by
    unfold F_start at h
    split at h <;> cases h
    exact ⟨_, rfl, rfl⟩) startR_body
theorem digR_body (r : Int) : Body Tryd.prog Gam.none (DRun Tryd.prog Gam.none) 35 [vInt .i64 r] (vBool (decide (digP r))) := by
  refine Body.of Tryd.func35 Tryd.ntmps35 (by kernel_rfl) rfl rfl rfl ?_
  simp only [goTG_val, goTG_new, goTG_up, goTG_none, goG_none, goG_new, goG_up, ne_eq, evK, evH, retHF, DRun_mk, runT_nil, runT_none, runT_guard, goT_val, goT_new, goT_store, goTH_true, goTH_false, evO, keys, Option.toList_some, Option.toList_none, nzL_nil, nzL_cons, nz_k, nz_sl, nz_nil, nz_agg, startL, evC, evV, goE_val, goE_new, goE_store, goH_true, goH_false, goG_val, lk_cons, lk_nil, lk_func, lk_int, lk_bool, lk_string, lk_slice, lk_agg, look_mk, St.effOf, eff, effCall, effBinC, isConst, effBin, effUn, effConv, effPick, effNil, effFold, fold1, effLoad, effStore, effFieldAddr, effField, fieldOf, sliceOf, effIndexAddr, effIndex, effLen, effExtract, effSlice, dats, bnd, effBuild, placesOf, effBuildSlice, effMakeSlice, effAppend, srcOf, fillA, chunk, seg, toD, toDs, put, eqAV, fieldsEq, leafEq, strip, unw, allB, selP_or, selP_and, tis, TyD.agg, AV.cells, AV.cell, allCell, vInt, vBool, vStr, subL_nil, subL_cons, upIds, AV.ids, AV.ids.idsL, AObj.ids, drops, Hp.get_cons, get_nil, retF, resL, one, fz, fz.fzL, List.map_cons, List.map_nil, List.nil_append, List.append_nil, List.cons_append, List.all_cons, List.all_nil, List.length_cons, List.length_nil, List.getElem?_cons_zero, List.getElem?_cons_succ, List.getD_cons_zero, List.getD_cons_succ, List.take_succ_cons, List.take_zero, List.drop_succ_cons, List.drop_zero, List.take_nil, List.drop_nil, List.contains_cons, List.contains_nil, Option.getD_some, Option.getD_none, Option.map_some, Option.map_none, if_true, if_false, true_and, and_true, and_self, or_self, or_false, false_or, false_and, and_false, reduceCtorEq, sel_and, sel_or, decide_eq_true_eq, Bool.and_eq_true, Bool.or_eq_true, Bool.and_true, Bool.true_and, Bool.or_false, Bool.false_or, Bool.true_or, Bool.or_true, Bool.not_true, Bool.not_false, Bool.false_eq_true, implies_true, not_false_eq_true, Nat.reduceLT, Nat.reduceEqDiff, Nat.reduceAdd, Nat.reduceMul, Nat.reduceMod, Nat.reduceLeDiff, Nat.reduceBEq, Nat.zero_add, Nat.add_zero, reduceIte, ↓reduceIte, List.not_mem_nil]
  refine Sub.eq ?_
  congr 3
  rw [Bool.eq_iff_iff, decide_eq_true_eq]
  unfold digP
  repeat' split
  all_goals
    simp only [startP, digP, beq_iff_eq, decide_eq_true_eq, Bool.false_eq_true, true_iff, false_iff, Bool.or_eq_true, Bool.and_eq_true] at *
    try omega
theorem digR_calm : ∀ args sc res, F_dig args = some (sc, res) → sc → Calm Tryd.prog 35 args res :=
  one_calm (Known.none _) (fun args sc res h => by
    unfold F_dig at h
    split at h <;> cases h
    exact ⟨_, rfl, rfl⟩) digR_body
theorem blankR_body (r : Int) : Body Tryd.prog Gam.none (DRun Tryd.prog Gam.none) 54 [vInt .i64 r] (vBool (decide (blankC r))) := by
  refine Body.of Tryd.func54 Tryd.ntmps54 (by kernel_rfl) rfl rfl rfl ?_
  simp only [goTG_val, goTG_new, goTG_up, goTG_none, goG_none, goG_new, goG_up, ne_eq, evK, evH, retHF, DRun_mk, runT_nil, runT_none, runT_guard, goT_val, goT_new, goT_store, goTH_true, goTH_false, evO, keys, Option.toList_some, Option.toList_none, nzL_nil, nzL_cons, nz_k, nz_sl, nz_nil, nz_agg, startL, evC, evV, goE_val, goE_new, goE_store, goH_true, goH_false, goG_val, lk_cons, lk_nil, lk_func, lk_int, lk_bool, lk_string, lk_slice, lk_agg, look_mk, St.effOf, eff, effCall, effBinC, isConst, effBin, effUn, effConv, effPick, effNil, effFold, fold1, effLoad, effStore, effFieldAddr, effField, fieldOf, sliceOf, effIndexAddr, effIndex, effLen, effExtract, effSlice, dats, bnd, effBuild, placesOf, effBuildSlice, effMakeSlice, effAppend, srcOf, fillA, chunk, seg, toD, toDs, put, eqAV, fieldsEq, leafEq, strip, unw, allB, selP_or, selP_and, tis, TyD.agg, AV.cells, AV.cell, allCell, vInt, vBool, vStr, subL_nil, subL_cons, upIds, AV.ids, AV.ids.idsL, AObj.ids, drops, Hp.get_cons, get_nil, retF, resL, one, fz, fz.fzL, List.map_cons, List.map_nil, List.nil_append, List.append_nil, List.cons_append, List.all_cons, List.all_nil, List.length_cons, List.length_nil, List.getElem?_cons_zero, List.getElem?_cons_succ, List.getD_cons_zero, List.getD_cons_succ, List.take_succ_cons, List.take_zero, List.drop_succ_cons, List.drop_zero, List.take_nil, List.drop_nil, List.contains_cons, List.contains_nil, Option.getD_some, Option.getD_none, Option.map_some, Option.map_none, if_true, if_false, true_and, and_true, and_self, or_self, or_false, false_or, false_and, and_false, reduceCtorEq, sel_and, sel_or, decide_eq_true_eq, Bool.and_eq_true, Bool.or_eq_true, Bool.and_true, Bool.true_and, Bool.or_false, Bool.false_or, Bool.true_or, Bool.or_true, Bool.not_true, Bool.not_false, Bool.false_eq_true, implies_true, not_false_eq_true, Nat.reduceLT, Nat.reduceEqDiff, Nat.reduceAdd, Nat.reduceMul, Nat.reduceMod, Nat.reduceLeDiff, Nat.reduceBEq, Nat.zero_add, Nat.add_zero, reduceIte, ↓reduceIte, List.not_mem_nil]
  refine Sub.eq ?_
  congr 3
  rw [Bool.eq_iff_iff, decide_eq_true_eq]
  unfold blankC
  repeat' split
  all_goals
    simp only [startP, digP, beq_iff_eq, decide_eq_true_eq, Bool.false_eq_true, true_iff, false_iff, Bool.or_eq_true, Bool.and_eq_true] at *
    try omega
theorem blankR_calm : ∀ args sc res, F_blankc args = some (sc, res) → sc → Calm Tryd.prog 54 args res :=
  one_calm (Known.none _) (fun args sc res h => by
    unfold F_blankc at h
    split at h <;> cases h
    exact ⟨_, rfl, rfl⟩) blankR_body
noncomputable def Gc_in : Gam := ((Gam.none.add 12 fun a => F_start (NT.nz.nzL [] a)).add 34 fun a => F_dig (NT.nz.nzL [] a))
theorem known_Gc_in : Known Tryd.prog Gc_in := (((Known.none _).addC _ startI_calm).addC _ digI_calm)
theorem Gc_in_at : (∀ h d a, Gc_in 12 h d a = calmE (fun a => F_start (NT.nz.nzL [] a)) h a) ∧ (∀ h d a, Gc_in 34 h d a = calmE (fun a => F_dig (NT.nz.nzL [] a)) h a) := ⟨fun _ _ _ => rfl, fun _ _ _ => rfl⟩
theorem inI_body (r : Int) : Body Tryd.prog Gc_in (DRun Tryd.prog Gc_in) 14 [vInt .i64 r] (vBool (decide (inP r))) := by
  refine Body.of Tryd.func14 Tryd.ntmps14 (by kernel_rfl) rfl rfl rfl ?_
  simp only [Gc_in_at, calmE, F_start, F_dig, AV.flat, AV.flat.flatL, goTG_val, goTG_new, goTG_up, goTG_none, goG_none, goG_new, goG_up, ne_eq, evK, evH, retHF, DRun_mk, runT_nil, runT_none, runT_guard, goT_val, goT_new, goT_store, goTH_true, goTH_false, evO, keys, Option.toList_some, Option.toList_none, nzL_nil, nzL_cons, nz_k, nz_sl, nz_nil, nz_agg, startL, evC, evV, goE_val, goE_new, goE_store, goH_true, goH_false, goG_val, lk_cons, lk_nil, lk_func, lk_int, lk_bool, lk_string, lk_slice, lk_agg, look_mk, St.effOf, eff, effCall, effBinC, isConst, effBin, effUn, effConv, effPick, effNil, effFold, fold1, effLoad, effStore, effFieldAddr, effField, fieldOf, sliceOf, effIndexAddr, effIndex, effLen, effExtract, effSlice, dats, bnd, effBuild, placesOf, effBuildSlice, effMakeSlice, effAppend, srcOf, fillA, chunk, seg, toD, toDs, put, eqAV, fieldsEq, leafEq, strip, unw, allB, selP_or, selP_and, tis, TyD.agg, AV.cells, AV.cell, allCell, vInt, vBool, vStr, subL_nil, subL_cons, upIds, AV.ids, AV.ids.idsL, AObj.ids, drops, Hp.get_cons, get_nil, retF, resL, one, fz, fz.fzL, List.map_cons, List.map_nil, List.nil_append, List.append_nil, List.cons_append, List.all_cons, List.all_nil, List.length_cons, List.length_nil, List.getElem?_cons_zero, List.getElem?_cons_succ, List.getD_cons_zero, List.getD_cons_succ, List.take_succ_cons, List.take_zero, List.drop_succ_cons, List.drop_zero, List.take_nil, List.drop_nil, List.contains_cons, List.contains_nil, Option.getD_some, Option.getD_none, Option.map_some, Option.map_none, if_true, if_false, true_and, and_true, and_self, or_self, or_false, false_or, false_and, and_false, reduceCtorEq, sel_and, sel_or, decide_eq_true_eq, Bool.and_eq_true, Bool.or_eq_true, Bool.and_true, Bool.true_and, Bool.or_false, Bool.false_or, Bool.true_or, Bool.or_true, Bool.not_true, Bool.not_false, Bool.false_eq_true, implies_true, not_false_eq_true, Nat.reduceLT, Nat.reduceEqDiff, Nat.reduceAdd, Nat.reduceMul, Nat.reduceMod, Nat.reduceLeDiff, Nat.reduceBEq, Nat.zero_add, Nat.add_zero, reduceIte, ↓reduceIte, List.not_mem_nil]
  refine Sub.eq ?_
  congr 3
  rw [Bool.eq_iff_iff, decide_eq_true_eq]
  unfold inP
  repeat' split
  all_goals
    simp only [startP, digP, beq_iff_eq, decide_eq_true_eq, Bool.false_eq_true, true_iff, false_iff, Bool.or_eq_true, Bool.and_eq_true] at *
    try omega
theorem inI_calm : ∀ args sc res, F_in args = some (sc, res) → sc → Calm Tryd.prog 14 args res :=
  one_calm known_Gc_in (fun args sc res h => by
    unfold F_in at h
    split at h <;> cases h
    exact ⟨_, rfl, rfl⟩) inI_body
noncomputable def Gr_in : Gam := ((Gam.none.add 13 fun a => F_start (NT.nz.nzL [] a)).add 35 fun a => F_dig (NT.nz.nzL [] a))
theorem known_Gr_in : Known Tryd.prog Gr_in := (((Known.none _).addC _ startR_calm).addC _ digR_calm)
theorem Gr_in_at : (∀ h d a, Gr_in 13 h d a = calmE (fun a => F_start (NT.nz.nzL [] a)) h a) ∧ (∀ h d a, Gr_in 35 h d a = calmE (fun a => F_dig (NT.nz.nzL [] a)) h a) := ⟨fun _ _ _ => rfl, fun _ _ _ => rfl⟩
theorem inR_body (r : Int) : Body Tryd.prog Gr_in (DRun Tryd.prog Gr_in) 15 [vInt .i64 r] (vBool (decide (inP r))) := by
  refine Body.of Tryd.func15 Tryd.ntmps15 (by kernel_rfl) rfl rfl rfl ?_
  simp only [Gr_in_at, calmE, F_start, F_dig, AV.flat, AV.flat.flatL, goTG_val, goTG_new, goTG_up, goTG_none, goG_none, goG_new, goG_up, ne_eq, evK, evH, retHF, DRun_mk, runT_nil, runT_none, runT_guard, goT_val, goT_new, goT_store, goTH_true, goTH_false, evO, keys, Option.toList_some, Option.toList_none, nzL_nil, nzL_cons, nz_k, nz_sl, nz_nil, nz_agg, startL, evC, evV, goE_val, goE_new, goE_store, goH_true, goH_false, goG_val, lk_cons, lk_nil, lk_func, lk_int, lk_bool, lk_string, lk_slice, lk_agg, look_mk, St.effOf, eff, effCall, effBinC, isConst, effBin, effUn, effConv, effPick, effNil, effFold, fold1, effLoad, effStore, effFieldAddr, effField, fieldOf, sliceOf, effIndexAddr, effIndex, effLen, effExtract, effSlice, dats, bnd, effBuild, placesOf, effBuildSlice, effMakeSlice, effAppend, srcOf, fillA, chunk, seg, toD, toDs, put, eqAV, fieldsEq, leafEq, strip, unw, allB, selP_or, selP_and, tis, TyD.agg, AV.cells, AV.cell, allCell, vInt, vBool, vStr, subL_nil, subL_cons, upIds, AV.ids, AV.ids.idsL, AObj.ids, drops, Hp.get_cons, get_nil, retF, resL, one, fz, fz.fzL, List.map_cons, List.map_nil, List.nil_append, List.append_nil, List.cons_append, List.all_cons, List.all_nil, List.length_cons, List.length_nil, List.getElem?_cons_zero, List.getElem?_cons_succ, List.getD_cons_zero, List.getD_cons_succ, List.take_succ_cons, List.take_zero, List.drop_succ_cons, List.drop_zero, List.take_nil, List.drop_nil, List.contains_cons, List.contains_nil, Option.getD_some, Option.getD_none, Option.map_some, Option.map_none, if_true, if_false, true_and, and_true, and_self, or_self, or_false, false_or, false_and, and_false, reduceCtorEq, sel_and, sel_or, decide_eq_true_eq, Bool.and_eq_true, Bool.or_eq_true, Bool.and_true, Bool.true_and, Bool.or_false, Bool.false_or, Bool.true_or, Bool.or_true, Bool.not_true, Bool.not_false, Bool.false_eq_true, implies_true, not_false_eq_true, Nat.reduceLT, Nat.reduceEqDiff, Nat.reduceAdd, Nat.reduceMul, Nat.reduceMod, Nat.reduceLeDiff, Nat.reduceBEq, Nat.zero_add, Nat.add_zero, reduceIte, ↓reduceIte, List.not_mem_nil]
  refine Sub.eq ?_
  congr 3
  rw [Bool.eq_iff_iff, decide_eq_true_eq]
  unfold inP
  repeat' split
  all_goals
    simp only [startP, digP, beq_iff_eq, decide_eq_true_eq, Bool.false_eq_true, true_iff, false_iff, Bool.or_eq_true, Bool.and_eq_true] at *
    try omega
theorem inR_calm : ∀ args sc res, F_in args = some (sc, res) → sc → Calm Tryd.prog 15 args res :=
  one_calm known_Gr_in (fun args sc res h => by
    unfold F_in at h
    split at h <;> cases h
    exact ⟨_, rfl, rfl⟩) inR_body
noncomputable def Gc_hex : Gam := (Gam.none.add 34 fun a => F_dig (NT.nz.nzL [] a))
theorem known_Gc_hex : Known Tryd.prog Gc_hex := ((Known.none _).addC _ digI_calm)
theorem Gc_hex_at : (∀ h d a, Gc_hex 34 h d a = calmE (fun a => F_dig (NT.nz.nzL [] a)) h a) := fun _ _ _ => rfl
theorem hexI_body (r : Int) : Body Tryd.prog Gc_hex (DRun Tryd.prog Gc_hex) 48 [vInt .i64 r] (vBool (decide (hexP r))) := by
  refine Body.of Tryd.func48 Tryd.ntmps48 (by kernel_rfl) rfl rfl rfl ?_
  simp only [Gc_hex_at, calmE, F_dig, AV.flat, AV.flat.flatL, goTG_val, goTG_new, goTG_up, goTG_none, goG_none, goG_new, goG_up, ne_eq, evK, evH, retHF, DRun_mk, runT_nil, runT_none, runT_guard, goT_val, goT_new, goT_store, goTH_true, goTH_false, evO, keys, Option.toList_some, Option.toList_none, nzL_nil, nzL_cons, nz_k, nz_sl, nz_nil, nz_agg, startL, evC, evV, goE_val, goE_new, goE_store, goH_true, goH_false, goG_val, lk_cons, lk_nil, lk_func, lk_int, lk_bool, lk_string, lk_slice, lk_agg, look_mk, St.effOf, eff, effCall, effBinC, isConst, effBin, effUn, effConv, effPick, effNil, effFold, fold1, effLoad, effStore, effFieldAddr, effField, fieldOf, sliceOf, effIndexAddr, effIndex, effLen, effExtract, effSlice, dats, bnd, effBuild, placesOf, effBuildSlice, effMakeSlice, effAppend, srcOf, fillA, chunk, seg, toD, toDs, put, eqAV, fieldsEq, leafEq, strip, unw, allB, selP_or, selP_and, tis, TyD.agg, AV.cells, AV.cell, allCell, vInt, vBool, vStr, subL_nil, subL_cons, upIds, AV.ids, AV.ids.idsL, AObj.ids, drops, Hp.get_cons, get_nil, retF, resL, one, fz, fz.fzL, List.map_cons, List.map_nil, List.nil_append, List.append_nil, List.cons_append, List.all_cons, List.all_nil, List.length_cons, List.length_nil, List.getElem?_cons_zero, List.getElem?_cons_succ, List.getD_cons_zero, List.getD_cons_succ, List.take_succ_cons, List.take_zero, List.drop_succ_cons, List.drop_zero, List.take_nil, List.drop_nil, List.contains_cons, List.contains_nil, Option.getD_some, Option.getD_none, Option.map_some, Option.map_none, if_true, if_false, true_and, and_true, and_self, or_self, or_false, false_or, false_and, and_false, reduceCtorEq, sel_and, sel_or, decide_eq_true_eq, Bool.and_eq_true, Bool.or_eq_true, Bool.and_true, Bool.true_and, Bool.or_false, Bool.false_or, Bool.true_or, Bool.or_true, Bool.not_true, Bool.not_false, Bool.false_eq_true, implies_true, not_false_eq_true, Nat.reduceLT, Nat.reduceEqDiff, Nat.reduceAdd, Nat.reduceMul, Nat.reduceMod, Nat.reduceLeDiff, Nat.reduceBEq, Nat.zero_add, Nat.add_zero, reduceIte, ↓reduceIte, List.not_mem_nil]
  refine Sub.eq ?_
  congr 3
  rw [Bool.eq_iff_iff, decide_eq_true_eq]
  unfold hexP
  repeat' split
  all_goals
    simp only [startP, digP, beq_iff_eq, decide_eq_true_eq, Bool.false_eq_true, true_iff, false_iff, Bool.or_eq_true, Bool.and_eq_true] at *
    try omega
theorem hexI_calm : ∀ args sc res, F_hexc args = some (sc, res) → sc → Calm Tryd.prog 48 args res :=
  one_calm known_Gc_hex (fun args sc res h => by
    unfold F_hexc at h
    split at h <;> cases h
    exact ⟨_, rfl, rfl⟩) hexI_body
noncomputable def Gr_hex : Gam := (Gam.none.add 35 fun a => F_dig (NT.nz.nzL [] a))
theorem known_Gr_hex : Known Tryd.prog Gr_hex := ((Known.none _).addC _ digR_calm)
theorem Gr_hex_at : (∀ h d a, Gr_hex 35 h d a = calmE (fun a => F_dig (NT.nz.nzL [] a)) h a) := fun _ _ _ => rfl
theorem hexR_body (r : Int) (h0 : -1000 ≤ r) (h1 : r ≤ 2000000) : Body Tryd.prog Gr_hex (DRun Tryd.prog Gr_hex) 53 [vInt .i64 r] (vInt .i64 (hexV r)) := by
  refine Body.of Tryd.func53 Tryd.ntmps53 (by kernel_rfl) rfl rfl rfl ?_
  simp only [Gr_hex_at, calmE, F_dig, AV.flat, AV.flat.flatL, goTG_val, goTG_new, goTG_up, goTG_none, goG_none, goG_new, goG_up, ne_eq, evK, evH, retHF, DRun_mk, runT_nil, runT_none, runT_guard, goT_val, goT_new, goT_store, goTH_true, goTH_false, evO, keys, Option.toList_some, Option.toList_none, nzL_nil, nzL_cons, nz_k, nz_sl, nz_nil, nz_agg, startL, evC, evV, goE_val, goE_new, goE_store, goH_true, goH_false, goG_val, lk_cons, lk_nil, lk_func, lk_int, lk_bool, lk_string, lk_slice, lk_agg, look_mk, St.effOf, eff, effCall, effBinC, isConst, effBin, effUn, effConv, effPick, effNil, effFold, fold1, effLoad, effStore, effFieldAddr, effField, fieldOf, sliceOf, effIndexAddr, effIndex, effLen, effExtract, effSlice, dats, bnd, effBuild, placesOf, effBuildSlice, effMakeSlice, effAppend, srcOf, fillA, chunk, seg, toD, toDs, put, eqAV, fieldsEq, leafEq, strip, unw, allB, selP_or, selP_and, tis, TyD.agg, AV.cells, AV.cell, allCell, vInt, vBool, vStr, subL_nil, subL_cons, upIds, AV.ids, AV.ids.idsL, AObj.ids, drops, Hp.get_cons, get_nil, retF, resL, one, fz, fz.fzL, List.map_cons, List.map_nil, List.nil_append, List.append_nil, List.cons_append, List.all_cons, List.all_nil, List.length_cons, List.length_nil, List.getElem?_cons_zero, List.getElem?_cons_succ, List.getD_cons_zero, List.getD_cons_succ, List.take_succ_cons, List.take_zero, List.drop_succ_cons, List.drop_zero, List.take_nil, List.drop_nil, List.contains_cons, List.contains_nil, Option.getD_some, Option.getD_none, Option.map_some, Option.map_none, if_true, if_false, true_and, and_true, and_self, or_self, or_false, false_or, false_and, and_false, reduceCtorEq, sel_and, sel_or, decide_eq_true_eq, Bool.and_eq_true, Bool.or_eq_true, Bool.and_true, Bool.true_and, Bool.or_false, Bool.false_or, Bool.true_or, Bool.or_true, Bool.not_true, Bool.not_false, Bool.false_eq_true, implies_true, not_false_eq_true, Nat.reduceLT, Nat.reduceEqDiff, Nat.reduceAdd, Nat.reduceMul, Nat.reduceMod, Nat.reduceLeDiff, Nat.reduceBEq, Nat.zero_add, Nat.add_zero, reduceIte, ↓reduceIte, List.not_mem_nil]
  unfold hexV
  by_cases c1 : digP r
  · rw [if_pos (by first | exact c1 | exact decide_eq_true c1), if_pos c1, w64 (by omega) (by omega)]
  · rw [if_neg (by first | exact c1 | simpa using c1), if_neg c1]
    by_cases c2 : 97 ≤ r ∧ r ≤ 102
    · rw [if_pos (by omega), if_pos c2, w64 (n := r - 97) (by omega) (by omega), w64 (by omega) (by omega)]
      exact Sub.eq (by congr 3; omega)
    · rw [if_neg (by omega), if_neg c2]
      by_cases c3 : 65 ≤ r ∧ r ≤ 70
      · rw [if_pos (by omega), if_pos c3, w64 (n := r - 65) (by omega) (by omega), w64 (by omega) (by omega)]
        exact Sub.eq (by congr 3; omega)
      · rw [if_neg (by omega), if_neg c3]
theorem hexR_calm : ∀ args sc res, F_hexv args = some (sc, res) → sc → Calm Tryd.prog 53 args res := by
  intro args sc res h hs
  unfold F_hexv at h
  split at h <;> cases h
  exact known_Gr_hex.calm mixed rfl rfl (hexR_body _ hs.1 hs.2)
/- The code point of a place. -/
def F_at : List AV → Option (Prop × AV)
  | [.d (.sl 2 xs), .d (.v (.int .i64 i))] => some (xs = (xs.map runeOf).map rD, vInt .i64 (atR (xs.map runeOf) i))
  | _ => none
theorem atI_body (l : List (Int × Int)) (i : Int) : Body Tryd.prog Gam.none (DRun Tryd.prog Gam.none) 36 [.d (runesD l), vInt .i64 i] (vInt .i64 (atR l i)) := by
  refine Body.of Tryd.func36 Tryd.ntmps36 (by kernel_rfl) rfl rfl rfl ?_
  simp only [runesD, List.length_map, goTG_val, goTG_new, goTG_up, goTG_none, goG_none, goG_new, goG_up, ne_eq, evK, evH, retHF, DRun_mk, runT_nil, runT_none, runT_guard, goT_val, goT_new, goT_store, goTH_true, goTH_false, evO, keys, Option.toList_some, Option.toList_none, nzL_nil, nzL_cons, nz_k, nz_sl, nz_nil, nz_agg, startL, evC, evV, goE_val, goE_new, goE_store, goH_true, goH_false, goG_val, lk_cons, lk_nil, lk_func, lk_int, lk_bool, lk_string, lk_slice, lk_agg, look_mk, St.effOf, eff, effCall, effBinC, isConst, effBin, effUn, effConv, effPick, effNil, effFold, fold1, effLoad, effStore, effFieldAddr, effField, fieldOf, sliceOf, effIndexAddr, effIndex, effLen, effExtract, effSlice, dats, bnd, effBuild, placesOf, effBuildSlice, effMakeSlice, effAppend, srcOf, fillA, chunk, seg, toD, toDs, put, eqAV, fieldsEq, leafEq, strip, unw, allB, selP_or, selP_and, tis, TyD.agg, AV.cells, AV.cell, allCell, vInt, vBool, vStr, subL_nil, subL_cons, upIds, AV.ids, AV.ids.idsL, AObj.ids, drops, Hp.get_cons, get_nil, retF, resL, one, fz, fz.fzL, List.map_cons, List.map_nil, List.nil_append, List.append_nil, List.cons_append, List.all_cons, List.all_nil, List.length_cons, List.length_nil, List.getElem?_cons_zero, List.getElem?_cons_succ, List.getD_cons_zero, List.getD_cons_succ, List.take_succ_cons, List.take_zero, List.drop_succ_cons, List.drop_zero, List.take_nil, List.drop_nil, List.contains_cons, List.contains_nil, Option.getD_some, Option.getD_none, Option.map_some, Option.map_none, if_true, if_false, true_and, and_true, and_self, or_self, or_false, false_or, false_and, and_false, reduceCtorEq, sel_and, sel_or, decide_eq_true_eq, Bool.and_eq_true, Bool.or_eq_true, Bool.and_true, Bool.true_and, Bool.or_false, Bool.false_or, Bool.true_or, Bool.or_true, Bool.not_true, Bool.not_false, Bool.false_eq_true, implies_true, not_false_eq_true, Nat.reduceLT, Nat.reduceEqDiff, Nat.reduceAdd, Nat.reduceMul, Nat.reduceMod, Nat.reduceLeDiff, Nat.reduceBEq, Nat.zero_add, Nat.add_zero, reduceIte, ↓reduceIte, List.not_mem_nil]
  unfold atR
  by_cases c : i < 0 ∨ i ≥ l.length
  · rw [if_pos c, if_pos c]
  · rw [if_neg c, if_neg c]
    obtain ⟨k, rfl⟩ := Int.eq_ofNat_of_zero_le (show 0 ≤ i by omega)
    obtain ⟨x, hx⟩ : ∃ x, l[k]? = some x := ⟨_, List.getElem?_eq_getElem (by omega)⟩
    have hg : ∀ z, (l.map rD).getD (k : Int).toNat z = rD x := getD_map hx
    have hg2 : l.getD (k : Int).toNat (0, 0) = x := by rw [Int.toNat_natCast, List.getD_eq_getElem?_getD, hx]; rfl
    rw [hg2]
    simp only [hg, rD, goTG_val, goTG_new, goTG_up, goTG_none, goG_none, goG_new, goG_up, ne_eq, evK, evH, retHF, DRun_mk, runT_nil, runT_none, runT_guard, goT_val, goT_new, goT_store, goTH_true, goTH_false, evO, keys, Option.toList_some, Option.toList_none, nzL_nil, nzL_cons, nz_k, nz_sl, nz_nil, nz_agg, startL, evC, evV, goE_val, goE_new, goE_store, goH_true, goH_false, goG_val, lk_cons, lk_nil, lk_func, lk_int, lk_bool, lk_string, lk_slice, lk_agg, look_mk, St.effOf, eff, effCall, effBinC, isConst, effBin, effUn, effConv, effPick, effNil, effFold, fold1, effLoad, effStore, effFieldAddr, effField, fieldOf, sliceOf, effIndexAddr, effIndex, effLen, effExtract, effSlice, dats, bnd, effBuild, placesOf, effBuildSlice, effMakeSlice, effAppend, srcOf, fillA, chunk, seg, toD, toDs, put, eqAV, fieldsEq, leafEq, strip, unw, allB, selP_or, selP_and, tis, TyD.agg, AV.cells, AV.cell, allCell, vInt, vBool, vStr, subL_nil, subL_cons, upIds, AV.ids, AV.ids.idsL, AObj.ids, drops, Hp.get_cons, get_nil, retF, resL, one, fz, fz.fzL, List.map_cons, List.map_nil, List.nil_append, List.append_nil, List.cons_append, List.all_cons, List.all_nil, List.length_cons, List.length_nil, List.getElem?_cons_zero, List.getElem?_cons_succ, List.getD_cons_zero, List.getD_cons_succ, List.take_succ_cons, List.take_zero, List.drop_succ_cons, List.drop_zero, List.take_nil, List.drop_nil, List.contains_cons, List.contains_nil, Option.getD_some, Option.getD_none, Option.map_some, Option.map_none, if_true, if_false, true_and, and_true, and_self, or_self, or_false, false_or, false_and, and_false, reduceCtorEq, sel_and, sel_or, decide_eq_true_eq, Bool.and_eq_true, Bool.or_eq_true, Bool.and_true, Bool.true_and, Bool.or_false, Bool.false_or, Bool.true_or, Bool.or_true, Bool.not_true, Bool.not_false, Bool.false_eq_true, implies_true, not_false_eq_true, Nat.reduceLT, Nat.reduceEqDiff, Nat.reduceAdd, Nat.reduceMul, Nat.reduceMod, Nat.reduceLeDiff, Nat.reduceBEq, Nat.zero_add, Nat.add_zero, reduceIte, ↓reduceIte, List.not_mem_nil]
    refine ⟨by omega, ?_⟩
    try exact Sub.refl _
theorem atI_calm : ∀ args sc res, F_at args = some (sc, res) → sc → Calm Tryd.prog 36 args res := by
  intro args sc res h hs
  unfold F_at at h
  split at h <;> cases h
  rename_i xs i
  have hb := atI_body (xs.map runeOf) i
  rw [runesD, ← hs] at hb
  exact (Known.none _).calm mixed rfl rfl hb
theorem atRf_body (l : List (Int × Int)) (i : Int) : Body Tryd.prog Gam.none (DRun Tryd.prog Gam.none) 37 [.d (runesD l), vInt .i64 i] (vInt .i64 (atR l i)) := by
  refine Body.of Tryd.func37 Tryd.ntmps37 (by kernel_rfl) rfl rfl rfl ?_
  simp only [runesD, List.length_map, goTG_val, goTG_new, goTG_up, goTG_none, goG_none, goG_new, goG_up, ne_eq, evK, evH, retHF, DRun_mk, runT_nil, runT_none, runT_guard, goT_val, goT_new, goT_store, goTH_true, goTH_false, evO, keys, Option.toList_some, Option.toList_none, nzL_nil, nzL_cons, nz_k, nz_sl, nz_nil, nz_agg, startL, evC, evV, goE_val, goE_new, goE_store, goH_true, goH_false, goG_val, lk_cons, lk_nil, lk_func, lk_int, lk_bool, lk_string, lk_slice, lk_agg, look_mk, St.effOf, eff, effCall, effBinC, isConst, effBin, effUn, effConv, effPick, effNil, effFold, fold1, effLoad, effStore, effFieldAddr, effField, fieldOf, sliceOf, effIndexAddr, effIndex, effLen, effExtract, effSlice, dats, bnd, effBuild, placesOf, effBuildSlice, effMakeSlice, effAppend, srcOf, fillA, chunk, seg, toD, toDs, put, eqAV, fieldsEq, leafEq, strip, unw, allB, selP_or, selP_and, tis, TyD.agg, AV.cells, AV.cell, allCell, vInt, vBool, vStr, subL_nil, subL_cons, upIds, AV.ids, AV.ids.idsL, AObj.ids, drops, Hp.get_cons, get_nil, retF, resL, one, fz, fz.fzL, List.map_cons, List.map_nil, List.nil_append, List.append_nil, List.cons_append, List.all_cons, List.all_nil, List.length_cons, List.length_nil, List.getElem?_cons_zero, List.getElem?_cons_succ, List.getD_cons_zero, List.getD_cons_succ, List.take_succ_cons, List.take_zero, List.drop_succ_cons, List.drop_zero, List.take_nil, List.drop_nil, List.contains_cons, List.contains_nil, Option.getD_some, Option.getD_none, Option.map_some, Option.map_none, if_true, if_false, true_and, and_true, and_self, or_self, or_false, false_or, false_and, and_false, reduceCtorEq, sel_and, sel_or, decide_eq_true_eq, Bool.and_eq_true, Bool.or_eq_true, Bool.and_true, Bool.true_and, Bool.or_false, Bool.false_or, Bool.true_or, Bool.or_true, Bool.not_true, Bool.not_false, Bool.false_eq_true, implies_true, not_false_eq_true, Nat.reduceLT, Nat.reduceEqDiff, Nat.reduceAdd, Nat.reduceMul, Nat.reduceMod, Nat.reduceLeDiff, Nat.reduceBEq, Nat.zero_add, Nat.add_zero, reduceIte, ↓reduceIte, List.not_mem_nil]
  unfold atR
  by_cases c : i < 0 ∨ i ≥ l.length
  · rw [if_pos c, if_pos c]
  · rw [if_neg c, if_neg c]
    obtain ⟨k, rfl⟩ := Int.eq_ofNat_of_zero_le (show 0 ≤ i by omega)
    obtain ⟨x, hx⟩ : ∃ x, l[k]? = some x := ⟨_, List.getElem?_eq_getElem (by omega)⟩
    have hg : ∀ z, (l.map rD).getD (k : Int).toNat z = rD x := getD_map hx
    have hg2 : l.getD (k : Int).toNat (0, 0) = x := by rw [Int.toNat_natCast, List.getD_eq_getElem?_getD, hx]; rfl
    rw [hg2]
    simp only [hg, rD, goTG_val, goTG_new, goTG_up, goTG_none, goG_none, goG_new, goG_up, ne_eq, evK, evH, retHF, DRun_mk, runT_nil, runT_none, runT_guard, goT_val, goT_new, goT_store, goTH_true, goTH_false, evO, keys, Option.toList_some, Option.toList_none, nzL_nil, nzL_cons, nz_k, nz_sl, nz_nil, nz_agg, startL, evC, evV, goE_val, goE_new, goE_store, goH_true, goH_false, goG_val, lk_cons, lk_nil, lk_func, lk_int, lk_bool, lk_string, lk_slice, lk_agg, look_mk, St.effOf, eff, effCall, effBinC, isConst, effBin, effUn, effConv, effPick, effNil, effFold, fold1, effLoad, effStore, effFieldAddr, effField, fieldOf, sliceOf, effIndexAddr, effIndex, effLen, effExtract, effSlice, dats, bnd, effBuild, placesOf, effBuildSlice, effMakeSlice, effAppend, srcOf, fillA, chunk, seg, toD, toDs, put, eqAV, fieldsEq, leafEq, strip, unw, allB, selP_or, selP_and, tis, TyD.agg, AV.cells, AV.cell, allCell, vInt, vBool, vStr, subL_nil, subL_cons, upIds, AV.ids, AV.ids.idsL, AObj.ids, drops, Hp.get_cons, get_nil, retF, resL, one, fz, fz.fzL, List.map_cons, List.map_nil, List.nil_append, List.append_nil, List.cons_append, List.all_cons, List.all_nil, List.length_cons, List.length_nil, List.getElem?_cons_zero, List.getElem?_cons_succ, List.getD_cons_zero, List.getD_cons_succ, List.take_succ_cons, List.take_zero, List.drop_succ_cons, List.drop_zero, List.take_nil, List.drop_nil, List.contains_cons, List.contains_nil, Option.getD_some, Option.getD_none, Option.map_some, Option.map_none, if_true, if_false, true_and, and_true, and_self, or_self, or_false, false_or, false_and, and_false, reduceCtorEq, sel_and, sel_or, decide_eq_true_eq, Bool.and_eq_true, Bool.or_eq_true, Bool.and_true, Bool.true_and, Bool.or_false, Bool.false_or, Bool.true_or, Bool.or_true, Bool.not_true, Bool.not_false, Bool.false_eq_true, implies_true, not_false_eq_true, Nat.reduceLT, Nat.reduceEqDiff, Nat.reduceAdd, Nat.reduceMul, Nat.reduceMod, Nat.reduceLeDiff, Nat.reduceBEq, Nat.zero_add, Nat.add_zero, reduceIte, ↓reduceIte, List.not_mem_nil]
    refine ⟨by omega, ?_⟩
    try exact Sub.refl _
theorem atRf_calm : ∀ args sc res, F_at args = some (sc, res) → sc → Calm Tryd.prog 37 args res := by
  intro args sc res h hs
  unfold F_at at h
  split at h <;> cases h
  rename_i xs i
  have hb := atRf_body (xs.map runeOf) i
  rw [runesD, ← hs] at hb
  exact (Known.none _).calm mixed rfl rfl hb
theorem atR_92 {l : List (Int × Int)} {i : Int} (hl : l.length ≤ 140737488355328) (h : atR l i = 92) : 0 ≤ i ∧ i < l.length ∧ IntKind.i64.wrap (i + 1) = i + 1 := by
  unfold atR at h
  split at h
  · cases h
  · exact ⟨by omega, by omega, w64 (by omega) (by omega)⟩
def F_esc : List AV → Option (Prop × AV)
  | [.d (.sl 2 xs), .d (.v (.int .i64 i))] => some (xs = (xs.map runeOf).map rD ∧ xs.length ≤ 1000000, vBool (decide (escP (xs.map runeOf) i)))
  | _ => none
noncomputable def Gc_at : Gam := (Gam.none.add 36 fun a => F_at (NT.nz.nzL [.s 2] a))
theorem known_Gc_at : Known Tryd.prog Gc_at := ((Known.none _).addC _ atI_calm)
theorem Gc_at_at : (∀ h d a, Gc_at 36 h d a = calmE (fun a => F_at (NT.nz.nzL [.s 2] a)) h a) := fun _ _ _ => rfl
theorem escI_body (l : List (Int × Int)) (i : Int) (hl : l.length ≤ 1000000) : Body Tryd.prog Gc_at (DRun Tryd.prog Gc_at) 27 [.d (runesD l), vInt .i64 i] (vBool (decide (escP l i))) := by
  refine Body.of Tryd.func27 Tryd.ntmps27 (by kernel_rfl) rfl rfl rfl ?_
  have nz2 : ∀ xs, (NT.s 2).nz (.d (.sl 2 xs)) = .d (.sl 2 xs) := fun xs => rfl
  simp only [runesD, rD_runeOf, nz2, Gc_at_at, calmE, F_at, AV.flat, AV.flat.flatL, List.length_map, goTG_val, goTG_new, goTG_up, goTG_none, goG_none, goG_new, goG_up, ne_eq, evK, evH, retHF, DRun_mk, runT_nil, runT_none, runT_guard, goT_val, goT_new, goT_store, goTH_true, goTH_false, evO, keys, Option.toList_some, Option.toList_none, nzL_nil, nzL_cons, nz_k, nz_sl, nz_nil, nz_agg, startL, evC, evV, goE_val, goE_new, goE_store, goH_true, goH_false, goG_val, lk_cons, lk_nil, lk_func, lk_int, lk_bool, lk_string, lk_slice, lk_agg, look_mk, St.effOf, eff, effCall, effBinC, isConst, effBin, effUn, effConv, effPick, effNil, effFold, fold1, effLoad, effStore, effFieldAddr, effField, fieldOf, sliceOf, effIndexAddr, effIndex, effLen, effExtract, effSlice, dats, bnd, effBuild, placesOf, effBuildSlice, effMakeSlice, effAppend, srcOf, fillA, chunk, seg, toD, toDs, put, eqAV, fieldsEq, leafEq, strip, unw, allB, selP_or, selP_and, tis, TyD.agg, AV.cells, AV.cell, allCell, vInt, vBool, vStr, subL_nil, subL_cons, upIds, AV.ids, AV.ids.idsL, AObj.ids, drops, Hp.get_cons, get_nil, retF, resL, one, fz, fz.fzL, List.map_cons, List.map_nil, List.nil_append, List.append_nil, List.cons_append, List.all_cons, List.all_nil, List.length_cons, List.length_nil, List.getElem?_cons_zero, List.getElem?_cons_succ, List.getD_cons_zero, List.getD_cons_succ, List.take_succ_cons, List.take_zero, List.drop_succ_cons, List.drop_zero, List.take_nil, List.drop_nil, List.contains_cons, List.contains_nil, Option.getD_some, Option.getD_none, Option.map_some, Option.map_none, if_true, if_false, true_and, and_true, and_self, or_self, or_false, false_or, false_and, and_false, reduceCtorEq, sel_and, sel_or, decide_eq_true_eq, Bool.and_eq_true, Bool.or_eq_true, Bool.and_true, Bool.true_and, Bool.or_false, Bool.false_or, Bool.true_or, Bool.or_true, Bool.not_true, Bool.not_false, Bool.false_eq_true, implies_true, not_false_eq_true, Nat.reduceLT, Nat.reduceEqDiff, Nat.reduceAdd, Nat.reduceMul, Nat.reduceMod, Nat.reduceLeDiff, Nat.reduceBEq, Nat.zero_add, Nat.add_zero, reduceIte, ↓reduceIte, List.not_mem_nil]
  refine Sub.eq ?_
  congr 3
  rw [Bool.eq_iff_iff, decide_eq_true_eq]
  unfold escP
  by_cases h : atR l i = 92
  · obtain ⟨_, _, hw⟩ := atR_92 (by omega) h
    rw [hw]; simp [h]
  · simp [h]
theorem escI_calm : ∀ args sc res, F_esc args = some (sc, res) → sc → Calm Tryd.prog 27 args res := by
  intro args sc res h hs
  unfold F_esc at h
  split at h <;> cases h
  rename_i xs i
  have hb := escI_body (xs.map runeOf) i (by simpa using hs.2)
  rw [runesD, ← hs.1] at hb
  exact known_Gc_at.calm mixed rfl rfl hb
noncomputable def Gr_at : Gam := (Gam.none.add 37 fun a => F_at (NT.nz.nzL [.s 2] a))
theorem known_Gr_at : Known Tryd.prog Gr_at := ((Known.none _).addC _ atRf_calm)
theorem Gr_at_at : (∀ h d a, Gr_at 37 h d a = calmE (fun a => F_at (NT.nz.nzL [.s 2] a)) h a) := fun _ _ _ => rfl
theorem escR_body (l : List (Int × Int)) (i : Int) (hl : l.length ≤ 1000000) : Body Tryd.prog Gr_at (DRun Tryd.prog Gr_at) 32 [.d (runesD l), vInt .i64 i] (vBool (decide (escP l i))) := by
  refine Body.of Tryd.func32 Tryd.ntmps32 (by kernel_rfl) rfl rfl rfl ?_
  have nz2 : ∀ xs, (NT.s 2).nz (.d (.sl 2 xs)) = .d (.sl 2 xs) := fun xs => rfl
  simp only [runesD, rD_runeOf, nz2, Gr_at_at, calmE, F_at, AV.flat, AV.flat.flatL, List.length_map, goTG_val, goTG_new, goTG_up, goTG_none, goG_none, goG_new, goG_up, ne_eq, evK, evH, retHF, DRun_mk, runT_nil, runT_none, runT_guard, goT_val, goT_new, goT_store, goTH_true, goTH_false, evO, keys, Option.toList_some, Option.toList_none, nzL_nil, nzL_cons, nz_k, nz_sl, nz_nil, nz_agg, startL, evC, evV, goE_val, goE_new, goE_store, goH_true, goH_false, goG_val, lk_cons, lk_nil, lk_func, lk_int, lk_bool, lk_string, lk_slice, lk_agg, look_mk, St.effOf, eff, effCall, effBinC, isConst, effBin, effUn, effConv, effPick, effNil, effFold, fold1, effLoad, effStore, effFieldAddr, effField, fieldOf, sliceOf, effIndexAddr, effIndex, effLen, effExtract, effSlice, dats, bnd, effBuild, placesOf, effBuildSlice, effMakeSlice, effAppend, srcOf, fillA, chunk, seg, toD, toDs, put, eqAV, fieldsEq, leafEq, strip, unw, allB, selP_or, selP_and, tis, TyD.agg, AV.cells, AV.cell, allCell, vInt, vBool, vStr, subL_nil, subL_cons, upIds, AV.ids, AV.ids.idsL, AObj.ids, drops, Hp.get_cons, get_nil, retF, resL, one, fz, fz.fzL, List.map_cons, List.map_nil, List.nil_append, List.append_nil, List.cons_append, List.all_cons, List.all_nil, List.length_cons, List.length_nil, List.getElem?_cons_zero, List.getElem?_cons_succ, List.getD_cons_zero, List.getD_cons_succ, List.take_succ_cons, List.take_zero, List.drop_succ_cons, List.drop_zero, List.take_nil, List.drop_nil, List.contains_cons, List.contains_nil, Option.getD_some, Option.getD_none, Option.map_some, Option.map_none, if_true, if_false, true_and, and_true, and_self, or_self, or_false, false_or, false_and, and_false, reduceCtorEq, sel_and, sel_or, decide_eq_true_eq, Bool.and_eq_true, Bool.or_eq_true, Bool.and_true, Bool.true_and, Bool.or_false, Bool.false_or, Bool.true_or, Bool.or_true, Bool.not_true, Bool.not_false, Bool.false_eq_true, implies_true, not_false_eq_true, Nat.reduceLT, Nat.reduceEqDiff, Nat.reduceAdd, Nat.reduceMul, Nat.reduceMod, Nat.reduceLeDiff, Nat.reduceBEq, Nat.zero_add, Nat.add_zero, reduceIte, ↓reduceIte, List.not_mem_nil]
  refine Sub.eq ?_
  congr 3
  rw [Bool.eq_iff_iff, decide_eq_true_eq]
  unfold escP
  by_cases h : atR l i = 92
  · obtain ⟨_, _, hw⟩ := atR_92 (by omega) h
    rw [hw]; simp [h]
  · simp [h]
theorem escR_calm : ∀ args sc res, F_esc args = some (sc, res) → sc → Calm Tryd.prog 32 args res := by
  intro args sc res h hs
  unfold F_esc at h
  split at h <;> cases h
  rename_i xs i
  have hb := escR_body (xs.map runeOf) i (by simpa using hs.2)
  rw [runesD, ← hs.1] at hb
  exact known_Gr_at.calm mixed rfl rfl hb
end Go.Proofs.YtelgddealjbgiaaDoor.Eng
