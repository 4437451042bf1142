/- SmapJson: part 14 of 15. -/
import Derived.Test.YtgbialeahdoelaaBSmapJsonm
section
namespace Go.Proofs.Ytgbialeahdoelaa.Eng
open Go Go.Proofs.Ytgbialeahdoelaa.Base
set_option maxRecDepth 100000
set_option linter.unusedSimpArgs false
set_option linter.unusedVariables false
def F_RPut (h : Nat → Option AObj) (d : Nat) : List AV → Option Eff
 | [.row o n, .d (.v (.int .i64 r))] => match h o with
  | some (.row e sz xs) => if e = 5 ∧ sz = 1 ∧ n = xs.length then some { sc := xs.length < 140737488355000, val := .row d (xs ++ (Utf.put r).map (iD .u8)).length, up := [(d, some (.row 5 1 (xs ++ (Utf.put r).map (iD .u8)))), (o, none)], new := true } else none
  | _ => none
 | [.d (.v (.slice none 0 0)), .d (.v (.int .i64 r))] => some { sc := True, val := .row d ((Utf.put r).map (iD .u8)).length, up := [(d, some (.row 5 1 ((Utf.put r).map (iD .u8))))], new := true }
 | _ => none
theorem RPut_body (xs : List (List Dat)) (hl : xs.length < 140737488355000) (r : Int) :
  HBody Try.prog Gam.none (DRun Try.prog Gam.none) 47 [.row 10000 xs.length, .d (.v (.int .i64 r))] [(10000, some (.row 5 1 xs))] (.row 9000 (xs ++ (Utf.put r).map (iD .u8)).length) [(9000, some (.row 5 1 (xs ++ (Utf.put r).map (iD .u8))))] := by
 refine HBody.of Try.func47 Try.ntmps47 (by kernel_rfl) rfl rfl rfl rfl ?_
 obtain ⟨q, hq⟩ : ∃ q : Int, q = 65533 := ⟨_, rfl⟩
 have hcq : Utf.isCp q := by rw [hq]; decide
 simp only [iD, ← hq, List.length_map, goTG_val, goTG_new, goTG_up, goTG_none, goG_none, goG_new, goG_up, ne_eq, evK, evH, retHF, DRun_mk, runT_nil, runT_none, runT_guard, goT_val, goT_new, goT_store, goTH_true, goTH_false, evO, keys, Option.toList_some, Option.toList_none, nzL_nil, nzL_cons, nz_k, nz_sl, nz_nil, nz_agg, startL, evC, evV, goE_val, goE_new, goE_store, goH_true, goH_false, goG_val, lk_cons, lk_nil, lk_func, lk_int, lk_bool, lk_string, lk_slice, lk_agg, look_mk, St.effOf, eff, effCall, effBinC, isConst, effBin, effUn, effConv, effPick, effNil, effFold, fold1, effLoad, effStore, effFieldAddr, effField, fieldOf, sliceOf, effIndexAddr, effIndex, effLen, effExtract, effSlice, dats, bnd, effBuild, placesOf, effBuildSlice, effMakeSlice, effAppend, srcOf, fillA, chunk, seg, toD, toDs, put, eqAV, fieldsEq, leafEq, strip, unw, allB, selP_or, selP_and, tis, TyD.agg, AV.cells, AV.cell, allCell, vInt, vBool, vStr, subL_nil, subL_cons, upIds, AV.ids, AV.ids.idsL, AObj.ids, drops, Hp.get_cons, get_nil, retF, resL, one, fz, fz.fzL, List.map_cons, List.map_nil, List.nil_append, List.append_nil, List.cons_append, List.all_cons, List.all_nil, List.length_cons, List.length_nil, List.getElem?_cons_zero, List.getElem?_cons_succ, List.getD_cons_zero, List.getD_cons_succ, List.take_succ_cons, List.take_zero, List.drop_succ_cons, List.drop_zero, List.take_nil, List.drop_nil, List.contains_cons, List.contains_nil, Option.getD_some, Option.getD_none, Option.map_some, Option.map_none, if_true, if_false, true_and, and_true, and_self, or_self, or_false, false_or, false_and, and_false, reduceCtorEq, sel_and, sel_or, decide_eq_true_eq, Bool.and_eq_true, Bool.or_eq_true, Bool.and_true, Bool.true_and, Bool.or_false, Bool.false_or, Bool.true_or, Bool.or_true, Bool.not_true, Bool.not_false, Bool.false_eq_true, implies_true, not_false_eq_true, Nat.reduceLT, Nat.reduceEqDiff, Nat.reduceAdd, Nat.reduceMul, Nat.reduceMod, Nat.reduceLeDiff, Nat.reduceBEq, Nat.zero_add, Nat.add_zero, reduceIte, ↓reduceIte, List.not_mem_nil]
 have hc : ((r < 0 ∨ r > 1114111) ∨ r ≥ 55296 ∧ r < 57344) ↔ ¬ Utf.isCp r := by unfold Utf.isCp; omega
 unfold Utf.put Utf.fix
 by_cases hr : Utf.isCp r
 ·rw [if_neg (fun h => hc.mp h hr), if_pos hr]
  have hr' := hr
  unfold Utf.isCp at hr'
  have eu : ∀ n : Int, IntKind.u8.wrap n = n % 256 := fun n => by rw [IntKind.wrap_u8]
  have e6 : Int.fdiv r (2 ^ min (Int.toNat 6) IntKind.i64.bits) = r / 64 := by rw [Int.fdiv_eq_ediv_of_nonneg _ (by decide)]; rfl
  have e12 : Int.fdiv r (2 ^ min (Int.toNat 12) IntKind.i64.bits) = r / 4096 := by rw [Int.fdiv_eq_ediv_of_nonneg _ (by decide)]; rfl
  have e18 : Int.fdiv r (2 ^ min (Int.toNat 18) IntKind.i64.bits) = r / 262144 := by rw [Int.fdiv_eq_ediv_of_nonneg _ (by decide)]; rfl
  simp only [eu, e6, e12, e18]
  by_cases c1 : r < 128
  ·rw [if_pos c1]
   refine ⟨by omega, fun _ => 26, ?_⟩
   rw [← bytes1 hr c1]
   simp only [List.map_cons, List.map_nil, iD, Mt_tup, Mt_agg, Mt_fn, forall_eq, forall_eq_or_imp, ne_eq, List.all_cons, List.all_nil, pr, Nat.reduceLeDiff, slR_nil, slR_cons, hpR_nil, hpR_cells, hpR_row, idsR_nil, idsR_cons, mtE_v, mtE_sl, mtE_nil, mtE_refl, mtE_row, mtE_born, mtE_ptr, mtE_rp, mtE_agg, mtE_tup, mtE_fn, mtE_ep, MtL_nil, MtL_cons, Mt_v, Mt_sl, Mt_nil, Mt_refl, Mt_row, Mt_born, Mt_ptr, MtO_cells, MtO_row, liveIds, distinct, Dat.v.injEq, Dat.sl.injEq, Value.int.injEq, Value.bool.injEq, Value.string.injEq, lk_cons, lk_nil, subL_nil, subL_cons, upIds, AV.ids, AV.ids.idsL, AObj.ids, Hp.get_cons, get_nil, allCell, AV.cell, vInt, vBool, vStr, id, true_and, and_true, and_self, List.append_nil, List.nil_append, List.not_mem_nil, List.mem_cons, or_false, false_or, or_self, not_true_eq_false, not_false_eq_true, false_imp_iff, false_implies, List.map_nil, not_false_eq_true, List.contains_cons, List.contains_nil, Bool.or_false, Bool.false_or, Bool.true_or, Bool.or_true, Bool.and_true, Bool.true_and, implies_true, if_true, if_false, reduceCtorEq, Nat.reduceEqDiff, Nat.reduceBEq, Nat.reduceAdd, reduceIte, ↓reduceIte]
  rw [if_neg c1]
  by_cases c2 : r < 2048
  ·rw [if_pos c2]
   refine ⟨by decide, by omega, fun _ => 40, ?_⟩
   rw [← bytes2 hr (by omega) c2]
   simp only [List.map_cons, List.map_nil, iD, Mt_tup, Mt_agg, Mt_fn, forall_eq, forall_eq_or_imp, ne_eq, List.all_cons, List.all_nil, pr, Nat.reduceLeDiff, slR_nil, slR_cons, hpR_nil, hpR_cells, hpR_row, idsR_nil, idsR_cons, mtE_v, mtE_sl, mtE_nil, mtE_refl, mtE_row, mtE_born, mtE_ptr, mtE_rp, mtE_agg, mtE_tup, mtE_fn, mtE_ep, MtL_nil, MtL_cons, Mt_v, Mt_sl, Mt_nil, Mt_refl, Mt_row, Mt_born, Mt_ptr, MtO_cells, MtO_row, liveIds, distinct, Dat.v.injEq, Dat.sl.injEq, Value.int.injEq, Value.bool.injEq, Value.string.injEq, lk_cons, lk_nil, subL_nil, subL_cons, upIds, AV.ids, AV.ids.idsL, AObj.ids, Hp.get_cons, get_nil, allCell, AV.cell, vInt, vBool, vStr, id, true_and, and_true, and_self, List.append_nil, List.nil_append, List.not_mem_nil, List.mem_cons, or_false, false_or, or_self, not_true_eq_false, not_false_eq_true, false_imp_iff, false_implies, List.map_nil, not_false_eq_true, List.contains_cons, List.contains_nil, Bool.or_false, Bool.false_or, Bool.true_or, Bool.or_true, Bool.and_true, Bool.true_and, implies_true, if_true, if_false, reduceCtorEq, Nat.reduceEqDiff, Nat.reduceBEq, Nat.reduceAdd, reduceIte, ↓reduceIte]
  rw [if_neg c2]
  by_cases c3 : r < 65536
  ·rw [if_pos c3]
   refine ⟨by decide, by decide, by omega, fun _ => 59, ?_⟩
   rw [← bytes3 hr (by omega) c3]
   simp only [List.map_cons, List.map_nil, iD, Mt_tup, Mt_agg, Mt_fn, forall_eq, forall_eq_or_imp, ne_eq, List.all_cons, List.all_nil, pr, Nat.reduceLeDiff, slR_nil, slR_cons, hpR_nil, hpR_cells, hpR_row, idsR_nil, idsR_cons, mtE_v, mtE_sl, mtE_nil, mtE_refl, mtE_row, mtE_born, mtE_ptr, mtE_rp, mtE_agg, mtE_tup, mtE_fn, mtE_ep, MtL_nil, MtL_cons, Mt_v, Mt_sl, Mt_nil, Mt_refl, Mt_row, Mt_born, Mt_ptr, MtO_cells, MtO_row, liveIds, distinct, Dat.v.injEq, Dat.sl.injEq, Value.int.injEq, Value.bool.injEq, Value.string.injEq, lk_cons, lk_nil, subL_nil, subL_cons, upIds, AV.ids, AV.ids.idsL, AObj.ids, Hp.get_cons, get_nil, allCell, AV.cell, vInt, vBool, vStr, id, true_and, and_true, and_self, List.append_nil, List.nil_append, List.not_mem_nil, List.mem_cons, or_false, false_or, or_self, not_true_eq_false, not_false_eq_true, false_imp_iff, false_implies, List.map_nil, not_false_eq_true, List.contains_cons, List.contains_nil, Bool.or_false, Bool.false_or, Bool.true_or, Bool.or_true, Bool.and_true, Bool.true_and, implies_true, if_true, if_false, reduceCtorEq, Nat.reduceEqDiff, Nat.reduceBEq, Nat.reduceAdd, reduceIte, ↓reduceIte]
  rw [if_neg c3]
  refine ⟨by decide, by decide, by decide, by omega, fun _ => 80, ?_⟩
  rw [← bytes4 hr (by omega)]
  simp only [List.map_cons, List.map_nil, iD, Mt_tup, Mt_agg, Mt_fn, forall_eq, forall_eq_or_imp, ne_eq, List.all_cons, List.all_nil, pr, Nat.reduceLeDiff, slR_nil, slR_cons, hpR_nil, hpR_cells, hpR_row, idsR_nil, idsR_cons, mtE_v, mtE_sl, mtE_nil, mtE_refl, mtE_row, mtE_born, mtE_ptr, mtE_rp, mtE_agg, mtE_tup, mtE_fn, mtE_ep, MtL_nil, MtL_cons, Mt_v, Mt_sl, Mt_nil, Mt_refl, Mt_row, Mt_born, Mt_ptr, MtO_cells, MtO_row, liveIds, distinct, Dat.v.injEq, Dat.sl.injEq, Value.int.injEq, Value.bool.injEq, Value.string.injEq, lk_cons, lk_nil, subL_nil, subL_cons, upIds, AV.ids, AV.ids.idsL, AObj.ids, Hp.get_cons, get_nil, allCell, AV.cell, vInt, vBool, vStr, id, true_and, and_true, and_self, List.append_nil, List.nil_append, List.not_mem_nil, List.mem_cons, or_false, false_or, or_self, not_true_eq_false, not_false_eq_true, false_imp_iff, false_implies, List.map_nil, not_false_eq_true, List.contains_cons, List.contains_nil, Bool.or_false, Bool.false_or, Bool.true_or, Bool.or_true, Bool.and_true, Bool.true_and, implies_true, if_true, if_false, reduceCtorEq, Nat.reduceEqDiff, Nat.reduceBEq, Nat.reduceAdd, reduceIte, ↓reduceIte]
 ·rw [if_pos (hc.mpr hr), if_neg hr, ← hq]
  have hr' := hcq
  unfold Utf.isCp at hr'
  have eu : ∀ n : Int, IntKind.u8.wrap n = n % 256 := fun n => by rw [IntKind.wrap_u8]
  have e6 : Int.fdiv q (2 ^ min (Int.toNat 6) IntKind.i64.bits) = q / 64 := by rw [Int.fdiv_eq_ediv_of_nonneg _ (by decide)]; rfl
  have e12 : Int.fdiv q (2 ^ min (Int.toNat 12) IntKind.i64.bits) = q / 4096 := by rw [Int.fdiv_eq_ediv_of_nonneg _ (by decide)]; rfl
  have e18 : Int.fdiv q (2 ^ min (Int.toNat 18) IntKind.i64.bits) = q / 262144 := by rw [Int.fdiv_eq_ediv_of_nonneg _ (by decide)]; rfl
  simp only [eu, e6, e12, e18]
  by_cases c1 : q < 128
  ·rw [if_pos c1]
   refine ⟨by omega, fun _ => 26, ?_⟩
   rw [← bytes1 hcq c1]
   simp only [List.map_cons, List.map_nil, iD, Mt_tup, Mt_agg, Mt_fn, forall_eq, forall_eq_or_imp, ne_eq, List.all_cons, List.all_nil, pr, Nat.reduceLeDiff, slR_nil, slR_cons, hpR_nil, hpR_cells, hpR_row, idsR_nil, idsR_cons, mtE_v, mtE_sl, mtE_nil, mtE_refl, mtE_row, mtE_born, mtE_ptr, mtE_rp, mtE_agg, mtE_tup, mtE_fn, mtE_ep, MtL_nil, MtL_cons, Mt_v, Mt_sl, Mt_nil, Mt_refl, Mt_row, Mt_born, Mt_ptr, MtO_cells, MtO_row, liveIds, distinct, Dat.v.injEq, Dat.sl.injEq, Value.int.injEq, Value.bool.injEq, Value.string.injEq, lk_cons, lk_nil, subL_nil, subL_cons, upIds, AV.ids, AV.ids.idsL, AObj.ids, Hp.get_cons, get_nil, allCell, AV.cell, vInt, vBool, vStr, id, true_and, and_true, and_self, List.append_nil, List.nil_append, List.not_mem_nil, List.mem_cons, or_false, false_or, or_self, not_true_eq_false, not_false_eq_true, false_imp_iff, false_implies, List.map_nil, not_false_eq_true, List.contains_cons, List.contains_nil, Bool.or_false, Bool.false_or, Bool.true_or, Bool.or_true, Bool.and_true, Bool.true_and, implies_true, if_true, if_false, reduceCtorEq, Nat.reduceEqDiff, Nat.reduceBEq, Nat.reduceAdd, reduceIte, ↓reduceIte]
  rw [if_neg c1]
  by_cases c2 : q < 2048
  ·rw [if_pos c2]
   refine ⟨by decide, by omega, fun _ => 40, ?_⟩
   rw [← bytes2 hcq (by omega) c2]
   simp only [List.map_cons, List.map_nil, iD, Mt_tup, Mt_agg, Mt_fn, forall_eq, forall_eq_or_imp, ne_eq, List.all_cons, List.all_nil, pr, Nat.reduceLeDiff, slR_nil, slR_cons, hpR_nil, hpR_cells, hpR_row, idsR_nil, idsR_cons, mtE_v, mtE_sl, mtE_nil, mtE_refl, mtE_row, mtE_born, mtE_ptr, mtE_rp, mtE_agg, mtE_tup, mtE_fn, mtE_ep, MtL_nil, MtL_cons, Mt_v, Mt_sl, Mt_nil, Mt_refl, Mt_row, Mt_born, Mt_ptr, MtO_cells, MtO_row, liveIds, distinct, Dat.v.injEq, Dat.sl.injEq, Value.int.injEq, Value.bool.injEq, Value.string.injEq, lk_cons, lk_nil, subL_nil, subL_cons, upIds, AV.ids, AV.ids.idsL, AObj.ids, Hp.get_cons, get_nil, allCell, AV.cell, vInt, vBool, vStr, id, true_and, and_true, and_self, List.append_nil, List.nil_append, List.not_mem_nil, List.mem_cons, or_false, false_or, or_self, not_true_eq_false, not_false_eq_true, false_imp_iff, false_implies, List.map_nil, not_false_eq_true, List.contains_cons, List.contains_nil, Bool.or_false, Bool.false_or, Bool.true_or, Bool.or_true, Bool.and_true, Bool.true_and, implies_true, if_true, if_false, reduceCtorEq, Nat.reduceEqDiff, Nat.reduceBEq, Nat.reduceAdd, reduceIte, ↓reduceIte]
  rw [if_neg c2]
  by_cases c3 : q < 65536
  ·rw [if_pos c3]
   refine ⟨by decide, by decide, by omega, fun _ => 59, ?_⟩
   rw [← bytes3 hcq (by omega) c3]
   simp only [List.map_cons, List.map_nil, iD, Mt_tup, Mt_agg, Mt_fn, forall_eq, forall_eq_or_imp, ne_eq, List.all_cons, List.all_nil, pr, Nat.reduceLeDiff, slR_nil, slR_cons, hpR_nil, hpR_cells, hpR_row, idsR_nil, idsR_cons, mtE_v, mtE_sl, mtE_nil, mtE_refl, mtE_row, mtE_born, mtE_ptr, mtE_rp, mtE_agg, mtE_tup, mtE_fn, mtE_ep, MtL_nil, MtL_cons, Mt_v, Mt_sl, Mt_nil, Mt_refl, Mt_row, Mt_born, Mt_ptr, MtO_cells, MtO_row, liveIds, distinct, Dat.v.injEq, Dat.sl.injEq, Value.int.injEq, Value.bool.injEq, Value.string.injEq, lk_cons, lk_nil, subL_nil, subL_cons, upIds, AV.ids, AV.ids.idsL, AObj.ids, Hp.get_cons, get_nil, allCell, AV.cell, vInt, vBool, vStr, id, true_and, and_true, and_self, List.append_nil, List.nil_append, List.not_mem_nil, List.mem_cons, or_false, false_or, or_self, not_true_eq_false, not_false_eq_true, false_imp_iff, false_implies, List.map_nil, not_false_eq_true, List.contains_cons, List.contains_nil, Bool.or_false, Bool.false_or, Bool.true_or, Bool.or_true, Bool.and_true, Bool.true_and, implies_true, if_true, if_false, reduceCtorEq, Nat.reduceEqDiff, Nat.reduceBEq, Nat.reduceAdd, reduceIte, ↓reduceIte]
  rw [if_neg c3]
  refine ⟨by decide, by decide, by decide, by omega, fun _ => 80, ?_⟩
  rw [← bytes4 hcq (by omega)]
  simp only [List.map_cons, List.map_nil, iD, Mt_tup, Mt_agg, Mt_fn, forall_eq, forall_eq_or_imp, ne_eq, List.all_cons, List.all_nil, pr, Nat.reduceLeDiff, slR_nil, slR_cons, hpR_nil, hpR_cells, hpR_row, idsR_nil, idsR_cons, mtE_v, mtE_sl, mtE_nil, mtE_refl, mtE_row, mtE_born, mtE_ptr, mtE_rp, mtE_agg, mtE_tup, mtE_fn, mtE_ep, MtL_nil, MtL_cons, Mt_v, Mt_sl, Mt_nil, Mt_refl, Mt_row, Mt_born, Mt_ptr, MtO_cells, MtO_row, liveIds, distinct, Dat.v.injEq, Dat.sl.injEq, Value.int.injEq, Value.bool.injEq, Value.string.injEq, lk_cons, lk_nil, subL_nil, subL_cons, upIds, AV.ids, AV.ids.idsL, AObj.ids, Hp.get_cons, get_nil, allCell, AV.cell, vInt, vBool, vStr, id, true_and, and_true, and_self, List.append_nil, List.nil_append, List.not_mem_nil, List.mem_cons, or_false, false_or, or_self, not_true_eq_false, not_false_eq_true, false_imp_iff, false_implies, List.map_nil, not_false_eq_true, List.contains_cons, List.contains_nil, Bool.or_false, Bool.false_or, Bool.true_or, Bool.or_true, Bool.and_true, Bool.true_and, implies_true, if_true, if_false, reduceCtorEq, Nat.reduceEqDiff, Nat.reduceBEq, Nat.reduceAdd, reduceIte, ↓reduceIte]
theorem RPut_calm (xs : List (List Dat)) (hl : xs.length < 140737488355000) (r : Int) :
  HCalm Try.prog 47 [.row 10000 xs.length, .d (.v (.int .i64 r))] [(10000, some (.row 5 1 xs))] (.row 9000 (xs ++ (Utf.put r).map (iD .u8)).length) [(9000, some (.row 5 1 (xs ++ (Utf.put r).map (iD .u8))))] :=
 (Known.none _).hcalm mixed rfl (RPut_body xs hl r)
theorem RPut_ok {Γ : Gam} (hG : Gok Try.prog Γ) : Gok Try.prog (Γ.addH 47 F_RPut) := by
 refine hG.addH fun hp d args e he hsc => ?_
 unfold F_RPut at he
 split at he
 case h_3 => cases he
 case h_2 =>
  rename_i r
  cases he
  refine ⟨⟨fun _ => 0, [10000], [.row 10000 ([] : List (List Dat)).length, .d (.v (.int .i64 r))], [(10000, some (.row 5 1 []))], .row 9000 ((Utf.put r).map (iD .u8)).length, [(9000, .row 5 1 ((Utf.put r).map (iD .u8)))], true⟩, rfl, ⟨⟨⟨rfl, by simp, rfl⟩, .inl rfl, trivial⟩, ?_, ?_⟩, ?_, rfl, fun _ => rfl, rfl⟩
  ·refine ⟨?_, trivial⟩
   rw [if_pos (by simp)]
  ·exact ⟨fun h => absurd (List.mem_singleton.mpr rfl) h, trivial⟩
  ·have := RPut_calm [] (by decide) r
   rw [List.nil_append] at this
   exact this
 rename_i o n r
 split at he
 case h_2 => cases he
 rename_i e0 sz xs ho
 split at he
 case isFalse => cases he
 rename_i hc
 obtain ⟨rfl, rfl, rfl⟩ := hc
 cases he
 refine ⟨⟨fun _ => o, [], [.row 10000 xs.length, .d (.v (.int .i64 r))], [(10000, some (.row 5 1 xs))], .row 9000 (xs ++ (Utf.put r).map (iD .u8)).length, [(9000, .row 5 1 (xs ++ (Utf.put r).map (iD .u8)))], true⟩, rfl, ⟨⟨⟨by simp, rfl, rfl⟩, .inl rfl, trivial⟩, ?_, ?_⟩, RPut_calm xs hsc r, rfl, fun _ => rfl, rfl⟩
 ·refine ⟨?_, trivial⟩
  rw [if_neg (by simp)]
  simp only [ho]
  exact ⟨rfl, rfl, rfl⟩
 ·exact ⟨(fun _ b' hb' => nomatch (show b' ∈ ([] : List Nat) from hb')), trivial⟩
end Go.Proofs.Ytgbialeahdoelaa.Eng

end

section
namespace Go.Proofs.Ytgbialeahdoelaa.Eng
open Go Go.Proofs.Ytgbialeahdoelaa.Base
set_option maxRecDepth 100000
set_option linter.unusedSimpArgs false
set_option linter.unusedVariables false
def F_ruright : List AV → Option (Prop × AV)
 | [.d (.sl 1 xs)] => some (xs = (xs.map numOf).map (iD .i64) ∧ xs.length ≤ 1000000000000, vBool (decide (Jstr.right (xs.map numOf))))
 | _ => none
theorem ruright_calm : ∀ args sc res, F_ruright args = some (sc, res) → sc → Calm Try.prog 46 args res := by
 intro args sc res h hs
 unfold F_ruright at h
 split at h <;> cases h
 rename_i xs
 obtain ⟨h1, h2⟩ := hs
 have hb := ruright_body (xs.map numOf) (by simpa using h2)
 rw [intsD, ← h1] at hb
 exact (Known.none _).calm mixed rfl rfl hb
noncomputable def G_su : Gam := (Gam.none.addH 47 F_RPut).add 46 fun a => F_ruright (NT.nz.nzL [.s 1] a)
theorem gok_su : Gok Try.prog G_su := (RPut_ok (Known.none _).ok).add fun args sc res h hs _ => (ruright_calm _ sc res h hs).nz
theorem G_su_at : (∀ h d a, G_su 47 h d a = F_RPut h d a) ∧ (∀ h d a, G_su 46 h d a = calmE (fun a => F_ruright (NT.nz.nzL [.s 1] a)) h a) := ⟨fun _ _ _ => rfl, fun _ _ _ => rfl⟩
def shorts : List Int := [34, 92, 8, 12, 10, 13, 9]
def ks (u : Int) : Nat → Int
 | 0 => -1
 | j + 1 => if shorts.getD j 0 = u then j else ks u j
theorem ks_short (u : Int) : (match Jstr.short u with
  | some c => decide (0 ≤ ks u 7 ∧ ks u 7 < 7 ∧ bt ⟨#[34, 92, 98, 102, 110, 114, 116]⟩ (ks u 7) = c)
  | none => decide (ks u 7 = -1)) = true := by
 by_cases h1 : u = 34
 ·subst h1; decide +kernel
 by_cases h2 : u = 92
 ·subst h2; decide +kernel
 by_cases h3 : u = 8
 ·subst h3; decide +kernel
 by_cases h4 : u = 12
 ·subst h4; decide +kernel
 by_cases h5 : u = 10
 ·subst h5; decide +kernel
 by_cases h6 : u = 13
 ·subst h6; decide +kernel
 by_cases h7 : u = 9
 ·subst h7; decide +kernel
 have e : Jstr.short u = none := by
  unfold Jstr.short
  rw [if_neg h1, if_neg h2, if_neg h3, if_neg h4, if_neg h5, if_neg h6, if_neg h7]
 rw [e]
 simp only [ks, shorts, List.getD_cons_zero, List.getD_cons_succ, if_neg (Ne.symm h1), if_neg (Ne.symm h2), if_neg (Ne.symm h3), if_neg (Ne.symm h4), if_neg (Ne.symm h5), if_neg (Ne.symm h6), if_neg (Ne.symm h7)]
 rfl
theorem and15 {x : Int} (h0 : 0 ≤ x) (h1 : x < 2 ^ 62) : bits .and .i64 x 15 = x % 16 := bits_mask .i64 62 (by decide) wraps62j 4 (by decide) x h0 h1
theorem bt_hex {n : Int} (h0 : 0 ≤ n) (h1 : n < 16) : bt hexS n = Jstr.hexd n := by
 have key : ∀ k : Fin 16, bt hexS (k.val : Int) = Jstr.hexd (k.val : Int) := by decide +kernel
 obtain ⟨n, rfl⟩ := Int.eq_ofNat_of_zero_le h0
 exact key ⟨n, by omega⟩
theorem SU_body (l : List Int) (hl : l.length ≤ 10000000000) : Body Try.prog G_su (DRun Try.prog Gam.none) 27 [.d (intsD l)] (vStr (spellS l)) := by
 refine Body.of Try.func27 Try.ntmps27 (by kernel_rfl) rfl rfl rfl ?_
 simp only [show (⟨#[48, 49, 50, 51, 52, 53, 54, 55, 56, 57, 97, 98, 99, 100, 101, 102]⟩ : ByteArray) = hexS from rfl, intsD, nums_map, G_su_at, calmE, F_ruright, F_RPut, AV.flat, AV.flat.flatL, List.length_map, goTG_val, goTG_new, goTG_up, goTG_none, goG_none, goG_new, goG_up, ne_eq, evK, evH, retHF, DRun_mk, runT_nil, runT_none, runT_guard, goT_val, goT_new, goT_store, goTH_true, goTH_false, evO, keys, Option.toList_some, Option.toList_none, nzL_nil, nzL_cons, nz_k, nz_sl, nz_nil, nz_agg, startL, evC, evV, goE_val, goE_new, goE_store, goH_true, goH_false, goG_val, lk_cons, lk_nil, lk_func, lk_int, lk_bool, lk_string, lk_slice, lk_agg, look_mk, St.effOf, eff, effCall, effBinC, isConst, effBin, effUn, effConv, effPick, effNil, effFold, fold1, effLoad, effStore, effFieldAddr, effField, fieldOf, sliceOf, effIndexAddr, effIndex, effLen, effExtract, effSlice, dats, bnd, effBuild, placesOf, effBuildSlice, effMakeSlice, effAppend, srcOf, fillA, chunk, seg, toD, toDs, put, eqAV, fieldsEq, leafEq, strip, unw, allB, selP_or, selP_and, tis, TyD.agg, AV.cells, AV.cell, allCell, vInt, vBool, vStr, subL_nil, subL_cons, upIds, AV.ids, AV.ids.idsL, AObj.ids, drops, Hp.get_cons, get_nil, retF, resL, one, fz, fz.fzL, List.map_cons, List.map_nil, List.nil_append, List.append_nil, List.cons_append, List.all_cons, List.all_nil, List.length_cons, List.length_nil, List.getElem?_cons_zero, List.getElem?_cons_succ, List.getD_cons_zero, List.getD_cons_succ, List.take_succ_cons, List.take_zero, List.drop_succ_cons, List.drop_zero, List.take_nil, List.drop_nil, List.contains_cons, List.contains_nil, Option.getD_some, Option.getD_none, Option.map_some, Option.map_none, if_true, if_false, true_and, and_true, and_self, or_self, or_false, false_or, false_and, and_false, reduceCtorEq, sel_and, sel_or, decide_eq_true_eq, Bool.and_eq_true, Bool.or_eq_true, Bool.and_true, Bool.true_and, Bool.or_false, Bool.false_or, Bool.true_or, Bool.or_true, Bool.not_true, Bool.not_false, Bool.false_eq_true, implies_true, not_false_eq_true, Nat.reduceLT, Nat.reduceEqDiff, Nat.reduceAdd, Nat.reduceMul, Nat.reduceMod, Nat.reduceLeDiff, Nat.reduceBEq, Nat.zero_add, Nat.add_zero, reduceIte, ↓reduceIte, List.not_mem_nil]
 refine ⟨by omega, ?_⟩
 unfold spellS
 by_cases hr : Jstr.right l
 rotate_left
 ·rw [if_pos (by simp [hr]), if_neg hr]
  exact Sub.refl _
 rw [if_neg (by simp [hr]), if_pos hr]
 refine wpc_loop (fun q : List Int × Nat => ⟨130, [100], [(0, .d (intsD l)), (3, vStr hexS), (4, .row 100 (34 :: q.1.flatMap Jstr.spell).length), (5, vInt .i64 q.2)], [(100, some (.row 5 1 ((34 :: q.1.flatMap Jstr.spell).map (iD .u8))))]⟩) (fun q => q.2 ≤ l.length ∧ q.1.length ≤ q.2 ∧ q.1 ++ Jstr.pairs (l.drop q.2) = Jstr.pairs l) (fun q => l.length - q.2) ([], 0) ⟨Nat.zero_le _, Nat.le_refl _, rfl⟩ ?_ ?_
 ·refine Le.of (fun o => if o = 100 then 13 else o) [] ?_
  simp only [intsD, List.flatMap_nil, List.length_nil, List.length_cons, List.map_nil, List.map_cons, iD, List.length_map, Mt_tup, Mt_agg, Mt_fn, forall_eq, forall_eq_or_imp, ne_eq, List.all_cons, List.all_nil, pr, Nat.reduceLeDiff, slR_nil, slR_cons, hpR_nil, hpR_cells, hpR_row, idsR_nil, idsR_cons, mtE_v, mtE_sl, mtE_nil, mtE_refl, mtE_row, mtE_born, mtE_ptr, mtE_rp, mtE_agg, mtE_tup, mtE_fn, mtE_ep, MtL_nil, MtL_cons, Mt_v, Mt_sl, Mt_nil, Mt_refl, Mt_row, Mt_born, Mt_ptr, MtO_cells, MtO_row, liveIds, distinct, Dat.v.injEq, Dat.sl.injEq, Value.int.injEq, Value.bool.injEq, Value.string.injEq, lk_cons, lk_nil, subL_nil, subL_cons, upIds, AV.ids, AV.ids.idsL, AObj.ids, Hp.get_cons, get_nil, allCell, AV.cell, vInt, vBool, vStr, id, true_and, and_true, and_self, List.append_nil, List.nil_append, List.not_mem_nil, List.mem_cons, or_false, false_or, or_self, not_true_eq_false, not_false_eq_true, false_imp_iff, false_implies, List.map_nil, not_false_eq_true, List.contains_cons, List.contains_nil, Bool.or_false, Bool.false_or, Bool.true_or, Bool.or_true, Bool.and_true, Bool.true_and, implies_true, if_true, if_false, reduceCtorEq, Nat.reduceEqDiff, Nat.reduceBEq, Nat.reduceAdd, reduceIte, ↓reduceIte]
  first | exact ⟨rfl, rfl⟩ | rfl
 ·rintro ⟨o, i⟩ ⟨hi, ho, he⟩
  simp only [] at hi ho he
  have hfl := Jstr.flat_len o
  by_cases hi2 : (i : Int) < l.length
  ·obtain ⟨d, hd⟩ : ∃ d, l[i]? = some d := ⟨_, List.getElem?_eq_getElem (by omega)⟩
   have hg : ∀ z, (l.map (iD .i64)).getD (i : Int).toNat z = iD .i64 d := getD_map hd
   simp only [intsD, hg, iD, G_su_at, calmE, F_ruright, F_RPut, AV.flat, AV.flat.flatL, List.length_map, goTG_val, goTG_new, goTG_up, goTG_none, goG_none, goG_new, goG_up, ne_eq, evK, evH, retHF, DRun_mk, runT_nil, runT_none, runT_guard, goT_val, goT_new, goT_store, goTH_true, goTH_false, evO, keys, Option.toList_some, Option.toList_none, nzL_nil, nzL_cons, nz_k, nz_sl, nz_nil, nz_agg, startL, evC, evV, goE_val, goE_new, goE_store, goH_true, goH_false, goG_val, lk_cons, lk_nil, lk_func, lk_int, lk_bool, lk_string, lk_slice, lk_agg, look_mk, St.effOf, eff, effCall, effBinC, isConst, effBin, effUn, effConv, effPick, effNil, effFold, fold1, effLoad, effStore, effFieldAddr, effField, fieldOf, sliceOf, effIndexAddr, effIndex, effLen, effExtract, effSlice, dats, bnd, effBuild, placesOf, effBuildSlice, effMakeSlice, effAppend, srcOf, fillA, chunk, seg, toD, toDs, put, eqAV, fieldsEq, leafEq, strip, unw, allB, selP_or, selP_and, tis, TyD.agg, AV.cells, AV.cell, allCell, vInt, vBool, vStr, subL_nil, subL_cons, upIds, AV.ids, AV.ids.idsL, AObj.ids, drops, Hp.get_cons, get_nil, retF, resL, one, fz, fz.fzL, List.map_cons, List.map_nil, List.nil_append, List.append_nil, List.cons_append, List.all_cons, List.all_nil, List.length_cons, List.length_nil, List.getElem?_cons_zero, List.getElem?_cons_succ, List.getD_cons_zero, List.getD_cons_succ, List.take_succ_cons, List.take_zero, List.drop_succ_cons, List.drop_zero, List.take_nil, List.drop_nil, List.contains_cons, List.contains_nil, Option.getD_some, Option.getD_none, Option.map_some, Option.map_none, if_true, if_false, true_and, and_true, and_self, or_self, or_false, false_or, false_and, and_false, reduceCtorEq, sel_and, sel_or, decide_eq_true_eq, Bool.and_eq_true, Bool.or_eq_true, Bool.and_true, Bool.true_and, Bool.or_false, Bool.false_or, Bool.true_or, Bool.or_true, Bool.not_true, Bool.not_false, Bool.false_eq_true, implies_true, not_false_eq_true, Nat.reduceLT, Nat.reduceEqDiff, Nat.reduceAdd, Nat.reduceMul, Nat.reduceMod, Nat.reduceLeDiff, Nat.reduceBEq, Nat.zero_add, Nat.add_zero, reduceIte, ↓reduceIte, List.not_mem_nil]
   rw [if_pos hi2]
   refine ⟨by omega, ?_⟩
   refine wpc_loop (fun j : Nat => ⟨130, [24, 100], [(0, .d (intsD l)), (3, vStr hexS), (4, .row 100 (34 :: o.flatMap Jstr.spell).length), (5, vInt .i64 i), (6, vInt .i64 d), (7, vInt .i64 (ks d j)), (8, .row 24 7), (9, vInt .i64 j)], [(24, some (.row 3 1 (shorts.map (iD .i64)))), (100, some (.row 5 1 ((34 :: o.flatMap Jstr.spell).map (iD .u8))))]⟩) (fun j => j ≤ 7) (fun j => 7 - j) 0 (Nat.zero_le _) ?_ ?_
   ·refine Le.of id [] ?_
    simp only [intsD, shorts, ks, iD, List.map_cons, List.map_nil, List.length_map, Mt_tup, Mt_agg, Mt_fn, forall_eq, forall_eq_or_imp, ne_eq, List.all_cons, List.all_nil, pr, Nat.reduceLeDiff, slR_nil, slR_cons, hpR_nil, hpR_cells, hpR_row, idsR_nil, idsR_cons, mtE_v, mtE_sl, mtE_nil, mtE_refl, mtE_row, mtE_born, mtE_ptr, mtE_rp, mtE_agg, mtE_tup, mtE_fn, mtE_ep, MtL_nil, MtL_cons, Mt_v, Mt_sl, Mt_nil, Mt_refl, Mt_row, Mt_born, Mt_ptr, MtO_cells, MtO_row, liveIds, distinct, Dat.v.injEq, Dat.sl.injEq, Value.int.injEq, Value.bool.injEq, Value.string.injEq, lk_cons, lk_nil, subL_nil, subL_cons, upIds, AV.ids, AV.ids.idsL, AObj.ids, Hp.get_cons, get_nil, allCell, AV.cell, vInt, vBool, vStr, id, true_and, and_true, and_self, List.append_nil, List.nil_append, List.not_mem_nil, List.mem_cons, or_false, false_or, or_self, not_true_eq_false, not_false_eq_true, false_imp_iff, false_implies, List.map_nil, not_false_eq_true, List.contains_cons, List.contains_nil, Bool.or_false, Bool.false_or, Bool.true_or, Bool.or_true, Bool.and_true, Bool.true_and, implies_true, if_true, if_false, reduceCtorEq, Nat.reduceEqDiff, Nat.reduceBEq, Nat.reduceAdd, reduceIte, ↓reduceIte]
    exact ⟨⟨rfl, rfl⟩, rfl⟩
   ·intro j hj
    have hp10 : (2 : Int) ^ min (Int.toNat 10) IntKind.i64.bits = 1024 := by decide
    have hw : IntKind.i64.wrap ((i : Int) + 1) = ((i + 1 : Nat) : Int) := w64 (by omega) (by omega)
    by_cases hj2 : (j : Int) < 7
    ·have hgs : ∀ z, (shorts.map (iD .i64)).getD (j : Int).toNat z = iD .i64 (shorts.getD j 0) := fun z => by
      have hlt : j < shorts.length := by show j < 7; omega
      have hgs1 : shorts[j]? = some (shorts.getD j 0) := by rw [List.getD_eq_getElem?_getD, List.getElem?_eq_getElem hlt]; rfl
      exact getD_map hgs1 z
     simp only [intsD, hgs, iD, G_su_at, calmE, F_ruright, F_RPut, AV.flat, AV.flat.flatL, List.length_map, goTG_val, goTG_new, goTG_up, goTG_none, goG_none, goG_new, goG_up, ne_eq, evK, evH, retHF, DRun_mk, runT_nil, runT_none, runT_guard, goT_val, goT_new, goT_store, goTH_true, goTH_false, evO, keys, Option.toList_some, Option.toList_none, nzL_nil, nzL_cons, nz_k, nz_sl, nz_nil, nz_agg, startL, evC, evV, goE_val, goE_new, goE_store, goH_true, goH_false, goG_val, lk_cons, lk_nil, lk_func, lk_int, lk_bool, lk_string, lk_slice, lk_agg, look_mk, St.effOf, eff, effCall, effBinC, isConst, effBin, effUn, effConv, effPick, effNil, effFold, fold1, effLoad, effStore, effFieldAddr, effField, fieldOf, sliceOf, effIndexAddr, effIndex, effLen, effExtract, effSlice, dats, bnd, effBuild, placesOf, effBuildSlice, effMakeSlice, effAppend, srcOf, fillA, chunk, seg, toD, toDs, put, eqAV, fieldsEq, leafEq, strip, unw, allB, selP_or, selP_and, tis, TyD.agg, AV.cells, AV.cell, allCell, vInt, vBool, vStr, subL_nil, subL_cons, upIds, AV.ids, AV.ids.idsL, AObj.ids, drops, Hp.get_cons, get_nil, retF, resL, one, fz, fz.fzL, List.map_cons, List.map_nil, List.nil_append, List.append_nil, List.cons_append, List.all_cons, List.all_nil, List.length_cons, List.length_nil, List.getElem?_cons_zero, List.getElem?_cons_succ, List.getD_cons_zero, List.getD_cons_succ, List.take_succ_cons, List.take_zero, List.drop_succ_cons, List.drop_zero, List.take_nil, List.drop_nil, List.contains_cons, List.contains_nil, Option.getD_some, Option.getD_none, Option.map_some, Option.map_none, if_true, if_false, true_and, and_true, and_self, or_self, or_false, false_or, false_and, and_false, reduceCtorEq, sel_and, sel_or, decide_eq_true_eq, Bool.and_eq_true, Bool.or_eq_true, Bool.and_true, Bool.true_and, Bool.or_false, Bool.false_or, Bool.true_or, Bool.or_true, Bool.not_true, Bool.not_false, Bool.false_eq_true, implies_true, not_false_eq_true, Nat.reduceLT, Nat.reduceEqDiff, Nat.reduceAdd, Nat.reduceMul, Nat.reduceMod, Nat.reduceLeDiff, Nat.reduceBEq, Nat.zero_add, Nat.add_zero, reduceIte, ↓reduceIte, List.not_mem_nil]
     rw [if_pos (show (j : Int) < ((7 : Nat) : Int) by omega)]
     refine ⟨by omega, by show j < 7; omega, ?_⟩
     by_cases c : (shorts.getD j 0 == d) = true
     ·rw [if_pos c]
      refine ⟨j + 1, by omega, by omega, Le.of id [] ?_⟩
      simp only [intsD, iD, List.map_cons, List.map_nil, List.length_cons, List.length_map, Mt_tup, Mt_agg, Mt_fn, forall_eq, forall_eq_or_imp, ne_eq, List.all_cons, List.all_nil, pr, Nat.reduceLeDiff, slR_nil, slR_cons, hpR_nil, hpR_cells, hpR_row, idsR_nil, idsR_cons, mtE_v, mtE_sl, mtE_nil, mtE_refl, mtE_row, mtE_born, mtE_ptr, mtE_rp, mtE_agg, mtE_tup, mtE_fn, mtE_ep, MtL_nil, MtL_cons, Mt_v, Mt_sl, Mt_nil, Mt_refl, Mt_row, Mt_born, Mt_ptr, MtO_cells, MtO_row, liveIds, distinct, Dat.v.injEq, Dat.sl.injEq, Value.int.injEq, Value.bool.injEq, Value.string.injEq, lk_cons, lk_nil, subL_nil, subL_cons, upIds, AV.ids, AV.ids.idsL, AObj.ids, Hp.get_cons, get_nil, allCell, AV.cell, vInt, vBool, vStr, id, true_and, and_true, and_self, List.append_nil, List.nil_append, List.not_mem_nil, List.mem_cons, or_false, false_or, or_self, not_true_eq_false, not_false_eq_true, false_imp_iff, false_implies, List.map_nil, not_false_eq_true, List.contains_cons, List.contains_nil, Bool.or_false, Bool.false_or, Bool.true_or, Bool.or_true, Bool.and_true, Bool.true_and, implies_true, if_true, if_false, reduceCtorEq, Nat.reduceEqDiff, Nat.reduceBEq, Nat.reduceAdd, reduceIte, ↓reduceIte]
      exact ⟨⟨by rw [ks, if_pos (by simpa using c)], w64 (by omega) (by omega)⟩, rfl⟩
     ·rw [if_neg c]
      refine ⟨j + 1, by omega, by omega, Le.of id [] ?_⟩
      simp only [intsD, iD, List.map_cons, List.map_nil, List.length_cons, List.length_map, Mt_tup, Mt_agg, Mt_fn, forall_eq, forall_eq_or_imp, ne_eq, List.all_cons, List.all_nil, pr, Nat.reduceLeDiff, slR_nil, slR_cons, hpR_nil, hpR_cells, hpR_row, idsR_nil, idsR_cons, mtE_v, mtE_sl, mtE_nil, mtE_refl, mtE_row, mtE_born, mtE_ptr, mtE_rp, mtE_agg, mtE_tup, mtE_fn, mtE_ep, MtL_nil, MtL_cons, Mt_v, Mt_sl, Mt_nil, Mt_refl, Mt_row, Mt_born, Mt_ptr, MtO_cells, MtO_row, liveIds, distinct, Dat.v.injEq, Dat.sl.injEq, Value.int.injEq, Value.bool.injEq, Value.string.injEq, lk_cons, lk_nil, subL_nil, subL_cons, upIds, AV.ids, AV.ids.idsL, AObj.ids, Hp.get_cons, get_nil, allCell, AV.cell, vInt, vBool, vStr, id, true_and, and_true, and_self, List.append_nil, List.nil_append, List.not_mem_nil, List.mem_cons, or_false, false_or, or_self, not_true_eq_false, not_false_eq_true, false_imp_iff, false_implies, List.map_nil, not_false_eq_true, List.contains_cons, List.contains_nil, Bool.or_false, Bool.false_or, Bool.true_or, Bool.or_true, Bool.and_true, Bool.true_and, implies_true, if_true, if_false, reduceCtorEq, Nat.reduceEqDiff, Nat.reduceBEq, Nat.reduceAdd, reduceIte, ↓reduceIte]
      exact ⟨⟨by rw [ks, if_neg (by simpa using c)], w64 (by omega) (by omega)⟩, rfl⟩
    ·obtain rfl : j = 7 := by omega
     have hks := ks_short d
     simp only [show (⟨#[48, 49, 50, 51, 52, 53, 54, 55, 56, 57, 97, 98, 99, 100, 101, 102]⟩ : ByteArray) = hexS from rfl, intsD, getD_iD, hw, hp10, Int.toNat_natCast, iD, G_su_at, calmE, F_ruright, F_RPut, AV.flat, AV.flat.flatL, List.length_map, goTG_val, goTG_new, goTG_up, goTG_none, goG_none, goG_new, goG_up, ne_eq, evK, evH, retHF, DRun_mk, runT_nil, runT_none, runT_guard, goT_val, goT_new, goT_store, goTH_true, goTH_false, evO, keys, Option.toList_some, Option.toList_none, nzL_nil, nzL_cons, nz_k, nz_sl, nz_nil, nz_agg, startL, evC, evV, goE_val, goE_new, goE_store, goH_true, goH_false, goG_val, lk_cons, lk_nil, lk_func, lk_int, lk_bool, lk_string, lk_slice, lk_agg, look_mk, St.effOf, eff, effCall, effBinC, isConst, effBin, effUn, effConv, effPick, effNil, effFold, fold1, effLoad, effStore, effFieldAddr, effField, fieldOf, sliceOf, effIndexAddr, effIndex, effLen, effExtract, effSlice, dats, bnd, effBuild, placesOf, effBuildSlice, effMakeSlice, effAppend, srcOf, fillA, chunk, seg, toD, toDs, put, eqAV, fieldsEq, leafEq, strip, unw, allB, selP_or, selP_and, tis, TyD.agg, AV.cells, AV.cell, allCell, vInt, vBool, vStr, subL_nil, subL_cons, upIds, AV.ids, AV.ids.idsL, AObj.ids, drops, Hp.get_cons, get_nil, retF, resL, one, fz, fz.fzL, List.map_cons, List.map_nil, List.nil_append, List.append_nil, List.cons_append, List.all_cons, List.all_nil, List.length_cons, List.length_nil, List.getElem?_cons_zero, List.getElem?_cons_succ, List.getD_cons_zero, List.getD_cons_succ, List.take_succ_cons, List.take_zero, List.drop_succ_cons, List.drop_zero, List.take_nil, List.drop_nil, List.contains_cons, List.contains_nil, Option.getD_some, Option.getD_none, Option.map_some, Option.map_none, if_true, if_false, true_and, and_true, and_self, or_self, or_false, false_or, false_and, and_false, reduceCtorEq, sel_and, sel_or, decide_eq_true_eq, Bool.and_eq_true, Bool.or_eq_true, Bool.and_true, Bool.true_and, Bool.or_false, Bool.false_or, Bool.true_or, Bool.or_true, Bool.not_true, Bool.not_false, Bool.false_eq_true, implies_true, not_false_eq_true, Nat.reduceLT, Nat.reduceEqDiff, Nat.reduceAdd, Nat.reduceMul, Nat.reduceMod, Nat.reduceLeDiff, Nat.reduceBEq, Nat.zero_add, Nat.add_zero, reduceIte, ↓reduceIte, List.not_mem_nil]
     rw [if_neg (show ¬ ((7 : Nat) : Int) < ((7 : Nat) : Int) by omega)]
     have hdr : l.drop i = d :: l.drop (i + 1) := drop_at hd
     have hin : i + 1 < l.length → l.drop (i + 1) = l.getD (i + 1) 0 :: l.drop (i + 2) := fun h => by
      have : l[i + 1]? = some (l.getD (i + 1) 0) := by rw [List.getD_eq_getElem?_getD, List.getElem?_eq_getElem h]; rfl
      exact drop_at this
     have hdu := hr d (List.mem_of_getElem? hd)
     generalize l.getD (i + 1) 0 = e at hin ⊢
     have hone : ¬ ((((d ≥ 55296 ∧ d < 56320) ∧ ((i + 1 : Nat) : Int) < l.length) ∧ e ≥ 56320) ∧ e < 57344) → o ++ [d] ++ Jstr.pairs (l.drop (i + 1)) = Jstr.pairs l := fun c => by
      rw [← he, List.append_assoc, hdr, List.singleton_append]
      congr 1
      by_cases h : i + 1 < l.length
      ·rw [hin h, Jstr.pairs, if_neg (by omega)]
      ·rw [List.drop_of_length_le (by omega)]; rfl
     have hsh : ∀ c, Jstr.short d = some c → d < 128 := fun c h => by
      unfold Jstr.short at h
      by_cases q : d < 128
      ·exact q
      ·rw [if_neg (by omega), if_neg (by omega), if_neg (by omega), if_neg (by omega), if_neg (by omega), if_neg (by omega), if_neg (by omega)] at h
       cases h
     cases hs : Jstr.short d with
     | some c =>
      rw [hs] at hks
      obtain ⟨a1, a2, a3⟩ := of_decide_eq_true hks
      have hd128 := hsh c hs
      have es : Jstr.spell d = [92, c] := by unfold Jstr.spell; rw [hs]
      rw [if_pos (by omega), a3]
      refine ⟨⟨by omega, by show ks d 7 < 7; omega⟩, by omega, (o ++ [d], i + 1), by simp only []; omega, ⟨by simp only []; omega, by simp only [List.length_append, List.length_singleton]; omega, hone (by omega)⟩, Le.of (fun o => if o = 100 then 48 else o) [] ?_⟩
      simp only [intsD, List.flatMap_append, List.flatMap_cons, List.flatMap_nil, List.append_nil, es, iD, List.map_append, List.map_cons, List.map_nil, List.length_append, List.length_map, List.length_cons, List.length_nil, Mt_tup, Mt_agg, Mt_fn, forall_eq, forall_eq_or_imp, ne_eq, List.all_cons, List.all_nil, pr, Nat.reduceLeDiff, slR_nil, slR_cons, hpR_nil, hpR_cells, hpR_row, idsR_nil, idsR_cons, mtE_v, mtE_sl, mtE_nil, mtE_refl, mtE_row, mtE_born, mtE_ptr, mtE_rp, mtE_agg, mtE_tup, mtE_fn, mtE_ep, MtL_nil, MtL_cons, Mt_v, Mt_sl, Mt_nil, Mt_refl, Mt_row, Mt_born, Mt_ptr, MtO_cells, MtO_row, liveIds, distinct, Dat.v.injEq, Dat.sl.injEq, Value.int.injEq, Value.bool.injEq, Value.string.injEq, lk_cons, lk_nil, subL_nil, subL_cons, upIds, AV.ids, AV.ids.idsL, AObj.ids, Hp.get_cons, get_nil, allCell, AV.cell, vInt, vBool, vStr, id, true_and, and_true, and_self, List.append_nil, List.nil_append, List.not_mem_nil, List.mem_cons, or_false, false_or, or_self, not_true_eq_false, not_false_eq_true, false_imp_iff, false_implies, List.map_nil, not_false_eq_true, List.contains_cons, List.contains_nil, Bool.or_false, Bool.false_or, Bool.true_or, Bool.or_true, Bool.and_true, Bool.true_and, implies_true, if_true, if_false, reduceCtorEq, Nat.reduceEqDiff, Nat.reduceBEq, Nat.reduceAdd, reduceIte, ↓reduceIte]
     | none =>
      rw [hs] at hks
      have hks := of_decide_eq_true hks
      rw [if_neg (by omega)]
      refine ⟨fun h => by omega, fun h => by omega, ?_⟩
      by_cases c : (((d ≥ 55296 ∧ d < 56320) ∧ ((i + 1 : Nat) : Int) < l.length) ∧ e ≥ 56320) ∧ e < 57344
      ·rw [if_pos c]
       have e1 := hin (by omega)
       rw [hdr, e1, Jstr.pairs, if_pos (by omega)] at he
       have es : Jstr.spell (65536 + (d - 55296) * 1024 + e - 56320) = Utf.put (65536 + (d - 55296) * 1024 + e - 56320) := by
        have : Jstr.short (65536 + (d - 55296) * 1024 + e - 56320) = none := by
         unfold Jstr.short
         rw [if_neg (by omega), if_neg (by omega), if_neg (by omega), if_neg (by omega), if_neg (by omega), if_neg (by omega), if_neg (by omega)]
        unfold Jstr.spell
        rw [this]
        exact if_neg (by omega)
       rw [w64 (n := d - 55296) (by omega) (by omega), w64 (n := (d - 55296) * 1024) (by omega) (by omega), w64 (n := 65536 + (d - 55296) * 1024) (by omega) (by omega), w64 (n := 65536 + (d - 55296) * 1024 + e) (by omega) (by omega), w64 (n := 65536 + (d - 55296) * 1024 + e - 56320) (by omega) (by omega)]
       refine ⟨by decide, by omega, by omega, (o ++ [65536 + (d - 55296) * 1024 + e - 56320], i + 2), by simp only []; omega, ⟨by simp only []; omega, by simp only [List.length_append, List.length_singleton]; omega, by simp only [List.append_assoc, List.singleton_append]; exact he⟩, Le.of (fun o => if o = 100 then 91 else o) [] ?_⟩
       simp only [intsD, List.flatMap_append, List.flatMap_cons, List.flatMap_nil, List.append_nil, es, iD, List.map_append, List.map_cons, List.map_nil, List.length_append, List.length_map, List.length_cons, List.length_nil, Mt_tup, Mt_agg, Mt_fn, forall_eq, forall_eq_or_imp, ne_eq, List.all_cons, List.all_nil, pr, Nat.reduceLeDiff, slR_nil, slR_cons, hpR_nil, hpR_cells, hpR_row, idsR_nil, idsR_cons, mtE_v, mtE_sl, mtE_nil, mtE_refl, mtE_row, mtE_born, mtE_ptr, mtE_rp, mtE_agg, mtE_tup, mtE_fn, mtE_ep, MtL_nil, MtL_cons, Mt_v, Mt_sl, Mt_nil, Mt_refl, Mt_row, Mt_born, Mt_ptr, MtO_cells, MtO_row, liveIds, distinct, Dat.v.injEq, Dat.sl.injEq, Value.int.injEq, Value.bool.injEq, Value.string.injEq, lk_cons, lk_nil, subL_nil, subL_cons, upIds, AV.ids, AV.ids.idsL, AObj.ids, Hp.get_cons, get_nil, allCell, AV.cell, vInt, vBool, vStr, id, true_and, and_true, and_self, List.append_nil, List.nil_append, List.not_mem_nil, List.mem_cons, or_false, false_or, or_self, not_true_eq_false, not_false_eq_true, false_imp_iff, false_implies, List.map_nil, not_false_eq_true, List.contains_cons, List.contains_nil, Bool.or_false, Bool.false_or, Bool.true_or, Bool.or_true, Bool.and_true, Bool.true_and, implies_true, if_true, if_false, reduceCtorEq, Nat.reduceEqDiff, Nat.reduceBEq, Nat.reduceAdd, reduceIte, ↓reduceIte]
       exact w64 (by omega) (by omega)
      ·rw [if_neg c]
       have hone := hone c
       have e12 : Int.fdiv d (2 ^ min (Int.toNat 12) IntKind.i64.bits) = d / 4096 := by rw [Int.fdiv_eq_ediv_of_nonneg _ (by decide)]; rfl
       have e8 : Int.fdiv d (2 ^ min (Int.toNat 8) IntKind.i64.bits) = d / 256 := by rw [Int.fdiv_eq_ediv_of_nonneg _ (by decide)]; rfl
       have e4 : Int.fdiv d (2 ^ min (Int.toNat 4) IntKind.i64.bits) = d / 16 := by rw [Int.fdiv_eq_ediv_of_nonneg _ (by decide)]; rfl
       have g8 := and15 (x := d / 256) (by omega) (by omega)
       have g4 := and15 (x := d / 16) (by omega) (by omega)
       have g0 := and15 (x := d) (by omega) (by omega)
       have b12 := bt_hex (n := d / 4096) (by omega) (by omega)
       have b8 := bt_hex (n := d / 256 % 16) (by omega) (by omega)
       have b4 := bt_hex (n := d / 16 % 16) (by omega) (by omega)
       have b0 := bt_hex (n := d % 16) (by omega) (by omega)
       by_cases c2 : d < 32 ∨ d ≥ 55296 ∧ d < 57344
       ·rw [if_pos c2]
        have es : Jstr.spell d = 92 :: 117 :: Jstr.four d := by
         unfold Jstr.spell; rw [hs]; exact if_pos c2
        simp only [e12, e8, e4, g8, g4, g0, b12, b8, b4, b0]
        refine ⟨by decide, ⟨by omega, by show d / 4096 < 16; omega⟩, by decide, ⟨by omega, by show d / 256 % 16 < 16; omega⟩, by decide, ⟨by omega, by show d / 16 % 16 < 16; omega⟩, ⟨by omega, by show d % 16 < 16; omega⟩, by omega, by kernel_rfl, (o ++ [d], i + 1), by simp only []; omega, ⟨by simp only []; omega, by simp only [List.length_append, List.length_singleton]; omega, hone⟩, Le.of (fun o => if o = 100 then 125 else o) [] ?_⟩
        simp only [intsD, List.flatMap_append, List.flatMap_cons, List.flatMap_nil, List.append_nil, es, Jstr.four, iD, List.map_append, List.map_cons, List.map_nil, List.length_append, List.length_map, List.length_cons, List.length_nil, Mt_tup, Mt_agg, Mt_fn, forall_eq, forall_eq_or_imp, ne_eq, List.all_cons, List.all_nil, pr, Nat.reduceLeDiff, slR_nil, slR_cons, hpR_nil, hpR_cells, hpR_row, idsR_nil, idsR_cons, mtE_v, mtE_sl, mtE_nil, mtE_refl, mtE_row, mtE_born, mtE_ptr, mtE_rp, mtE_agg, mtE_tup, mtE_fn, mtE_ep, MtL_nil, MtL_cons, Mt_v, Mt_sl, Mt_nil, Mt_refl, Mt_row, Mt_born, Mt_ptr, MtO_cells, MtO_row, liveIds, distinct, Dat.v.injEq, Dat.sl.injEq, Value.int.injEq, Value.bool.injEq, Value.string.injEq, lk_cons, lk_nil, subL_nil, subL_cons, upIds, AV.ids, AV.ids.idsL, AObj.ids, Hp.get_cons, get_nil, allCell, AV.cell, vInt, vBool, vStr, id, true_and, and_true, and_self, List.append_nil, List.nil_append, List.not_mem_nil, List.mem_cons, or_false, false_or, or_self, not_true_eq_false, not_false_eq_true, false_imp_iff, false_implies, List.map_nil, not_false_eq_true, List.contains_cons, List.contains_nil, Bool.or_false, Bool.false_or, Bool.true_or, Bool.or_true, Bool.and_true, Bool.true_and, implies_true, if_true, if_false, reduceCtorEq, Nat.reduceEqDiff, Nat.reduceBEq, Nat.reduceAdd, reduceIte, ↓reduceIte]
       ·rw [if_neg c2]
        have es : Jstr.spell d = Utf.put d := by
         unfold Jstr.spell; rw [hs]; exact if_neg c2
        refine ⟨by omega, (o ++ [d], i + 1), by simp only []; omega, ⟨by simp only []; omega, by simp only [List.length_append, List.length_singleton]; omega, hone⟩, Le.of (fun o => if o = 100 then 40 else o) [] ?_⟩
        simp only [intsD, List.flatMap_append, List.flatMap_cons, List.flatMap_nil, List.append_nil, es, iD, List.map_append, List.map_cons, List.map_nil, List.length_append, List.length_map, List.length_cons, List.length_nil, Mt_tup, Mt_agg, Mt_fn, forall_eq, forall_eq_or_imp, ne_eq, List.all_cons, List.all_nil, pr, Nat.reduceLeDiff, slR_nil, slR_cons, hpR_nil, hpR_cells, hpR_row, idsR_nil, idsR_cons, mtE_v, mtE_sl, mtE_nil, mtE_refl, mtE_row, mtE_born, mtE_ptr, mtE_rp, mtE_agg, mtE_tup, mtE_fn, mtE_ep, MtL_nil, MtL_cons, Mt_v, Mt_sl, Mt_nil, Mt_refl, Mt_row, Mt_born, Mt_ptr, MtO_cells, MtO_row, liveIds, distinct, Dat.v.injEq, Dat.sl.injEq, Value.int.injEq, Value.bool.injEq, Value.string.injEq, lk_cons, lk_nil, subL_nil, subL_cons, upIds, AV.ids, AV.ids.idsL, AObj.ids, Hp.get_cons, get_nil, allCell, AV.cell, vInt, vBool, vStr, id, true_and, and_true, and_self, List.append_nil, List.nil_append, List.not_mem_nil, List.mem_cons, or_false, false_or, or_self, not_true_eq_false, not_false_eq_true, false_imp_iff, false_implies, List.map_nil, not_false_eq_true, List.contains_cons, List.contains_nil, Bool.or_false, Bool.false_or, Bool.true_or, Bool.or_true, Bool.and_true, Bool.true_and, implies_true, if_true, if_false, reduceCtorEq, Nat.reduceEqDiff, Nat.reduceBEq, Nat.reduceAdd, reduceIte, ↓reduceIte]
  ·simp only [intsD, iD, G_su_at, calmE, F_ruright, F_RPut, AV.flat, AV.flat.flatL, List.length_map, goTG_val, goTG_new, goTG_up, goTG_none, goG_none, goG_new, goG_up, ne_eq, evK, evH, retHF, DRun_mk, runT_nil, runT_none, runT_guard, goT_val, goT_new, goT_store, goTH_true, goTH_false, evO, keys, Option.toList_some, Option.toList_none, nzL_nil, nzL_cons, nz_k, nz_sl, nz_nil, nz_agg, startL, evC, evV, goE_val, goE_new, goE_store, goH_true, goH_false, goG_val, lk_cons, lk_nil, lk_func, lk_int, lk_bool, lk_string, lk_slice, lk_agg, look_mk, St.effOf, eff, effCall, effBinC, isConst, effBin, effUn, effConv, effPick, effNil, effFold, fold1, effLoad, effStore, effFieldAddr, effField, fieldOf, sliceOf, effIndexAddr, effIndex, effLen, effExtract, effSlice, dats, bnd, effBuild, placesOf, effBuildSlice, effMakeSlice, effAppend, srcOf, fillA, chunk, seg, toD, toDs, put, eqAV, fieldsEq, leafEq, strip, unw, allB, selP_or, selP_and, tis, TyD.agg, AV.cells, AV.cell, allCell, vInt, vBool, vStr, subL_nil, subL_cons, upIds, AV.ids, AV.ids.idsL, AObj.ids, drops, Hp.get_cons, get_nil, retF, resL, one, fz, fz.fzL, List.map_cons, List.map_nil, List.nil_append, List.append_nil, List.cons_append, List.all_cons, List.all_nil, List.length_cons, List.length_nil, List.getElem?_cons_zero, List.getElem?_cons_succ, List.getD_cons_zero, List.getD_cons_succ, List.take_succ_cons, List.take_zero, List.drop_succ_cons, List.drop_zero, List.take_nil, List.drop_nil, List.contains_cons, List.contains_nil, Option.getD_some, Option.getD_none, Option.map_some, Option.map_none, if_true, if_false, true_and, and_true, and_self, or_self, or_false, false_or, false_and, and_false, reduceCtorEq, sel_and, sel_or, decide_eq_true_eq, Bool.and_eq_true, Bool.or_eq_true, Bool.and_true, Bool.true_and, Bool.or_false, Bool.false_or, Bool.true_or, Bool.or_true, Bool.not_true, Bool.not_false, Bool.false_eq_true, implies_true, not_false_eq_true, Nat.reduceLT, Nat.reduceEqDiff, Nat.reduceAdd, Nat.reduceMul, Nat.reduceMod, Nat.reduceLeDiff, Nat.reduceBEq, Nat.zero_add, Nat.add_zero, reduceIte, ↓reduceIte, List.not_mem_nil]
   rw [if_neg hi2]
   rw [List.drop_of_length_le (by omega)] at he
   simp only [Jstr.pairs, List.append_nil] at he
   rw [he] at hfl
   have hpl := Jstr.pairs_len l
   rw [he]
   have e : ([.v (.int .u8 34)] : List Dat) :: ((((Jstr.pairs l).flatMap Jstr.spell).map (iD .u8)) ++ [[.v (.int .u8 34)]]) = (Jstr.spelled l).map (iD .u8) := by
    simp [Jstr.spelled, Jstr.body, iD]
   have e2 : byteOf [Dat.v (.int .u8 34)] :: ((((Jstr.pairs l).flatMap Jstr.spell).map (iD .u8)) ++ [[Dat.v (.int .u8 34)]]).map byteOf = ((Jstr.spelled l).map (iD .u8)).map byteOf := by
    rw [← e]; rfl
   rw [e, e2, byteOf_map]
   refine ⟨by omega, fun r hr => ?_, Sub.refl _⟩
   obtain ⟨c, -, rfl⟩ := List.mem_map.mp hr
   rfl
noncomputable def F_su : List AV → Option (Prop × AV)
 | [.d (.sl 1 xs)] => some (xs = (xs.map numOf).map (iD .i64) ∧ xs.length ≤ 10000000000, vStr (spellS (xs.map numOf)))
 | _ => none
theorem su_calm : ∀ args sc res, F_su args = some (sc, res) → sc → Calm Try.prog 27 args res := by
 intro args sc res h hs
 unfold F_su at h
 split at h <;> cases h
 rename_i xs
 obtain ⟨h1, h2⟩ := hs
 have hb := SU_body (xs.map numOf) (by simpa using h2)
 rw [intsD, ← h1] at hb
 exact Body.calm gok_su (draws0 _) rfl rfl hb
end Go.Proofs.Ytgbialeahdoelaa.Eng

end

section
namespace Go.Proofs.Ytgbialeahdoelaa.Eng
open Go Go.Proofs.Ytgbialeahdoelaa.Base
set_option maxRecDepth 100000
set_option linter.unusedSimpArgs false
set_option linter.unusedVariables false
def F_uns : List AV → Option (Prop × AV)
 | [.d (.v (.string s))] => some (s.size ≤ 1000000000, .d (intsD (unitsS s)))
 | _ => none
theorem uns_calm : ∀ args sc res, F_uns args = some (sc, res) → sc → Calm Try.prog 26 args res := by
 intro args sc res h hs
 unfold F_uns at h
 split at h <;> cases h
 exact ((Known.none _).addC _ All_calm).calm mixed rfl rfl (units_sbody _ hs)
theorem runs_calm : ∀ args sc res, F_uns args = some (sc, res) → sc → Calm Try.prog 28 args res := by
 intro args sc res h hs
 unfold F_uns at h
 split at h <;> cases h
 exact ((Known.none _).addC _ RNext_calm).calm mixed rfl rfl (units_rbody _ hs)
def preB : ByteArray := ⟨#[123, 34, 118, 101, 114, 115, 105, 111, 110, 34, 58, 51, 44, 34, 115, 111, 117, 114, 99, 101, 115, 34, 58, 91]⟩
def midB : ByteArray := ⟨#[93, 44, 34, 110, 97, 109, 101, 115, 34, 58, 91, 93, 44, 34, 109, 97, 112, 112, 105, 110, 103, 115, 34, 58, 34]⟩
def endB : ByteArray := ⟨#[34, 125]⟩
noncomputable def wrT (nm : ByteArray) (l : List Sg) : ByteArray := preB ++ spellS (unitsS nm) ++ midB ++ mapT l ++ endB
theorem spellS_size (l : List Int) : (spellS l).size ≤ 6 * l.length + 2 := by
 unfold spellS
 split
 ·rw [str_size]
  have := Jstr.body_len l
  simp only [Jstr.spelled, List.length_cons, List.length_append, List.length_nil]
  omega
 ·exact Nat.zero_le _
open Classical in
noncomputable def writeS (nm : ByteArray) (l : List Sg) : AV := if okS l l.length then .tup [vStr (wrT nm l), vBool true] else .tup [vStr ByteArray.empty, vBool false]
theorem writeS_yes {nm : ByteArray} {l : List Sg} (h : okS l l.length) : writeS nm l = .tup [vStr (wrT nm l), vBool true] := if_pos h
theorem writeS_no {nm : ByteArray} {l : List Sg} (h : ¬ okS l l.length) : writeS nm l = .tup [vStr ByteArray.empty, vBool false] := if_neg h
theorem writeS_ids (nm : ByteArray) (l : List Sg) : (writeS nm l).ids = [] := by unfold writeS; split <;> rfl
noncomputable def G_wr : Gam := ((Gam.none.add 9 fun a => F_map (NT.nz.nzL [.s 4] a)).add 26 fun a => F_uns (NT.nz.nzL [] a)).add 25 fun a => F_Spell (NT.nz.nzL [.s 1] a)
theorem known_wr : Known Try.prog G_wr := (((Known.none _).addC _ map_calm).addC _ uns_calm).addC _ Spell_calm
theorem G_wr_at : (∀ h d a, G_wr 9 h d a = calmE (fun a => F_map (NT.nz.nzL [.s 4] a)) h a) ∧ (∀ h d a, G_wr 26 h d a = calmE (fun a => F_uns (NT.nz.nzL [] a)) h a) ∧ (∀ h d a, G_wr 25 h d a = calmE (fun a => F_Spell (NT.nz.nzL [.s 1] a)) h a) := ⟨fun _ _ _ => rfl, fun _ _ _ => rfl, fun _ _ _ => rfl⟩
theorem Write_body (nm : ByteArray) (l : List Sg) (hl : l.length ≤ 1000000) (hn : nm.size ≤ 100000000) : Body Try.prog G_wr (DRun Try.prog G_wr) 11 [.d (.v (.string nm)), .d (sgsD l)] (writeS nm l) := by
 refine Body.of Try.func11 Try.ntmps11 (by kernel_rfl) rfl rfl rfl ?_
 have hu := unitsS_len nm
 have hsz := spellS_size (unitsS nm)
 by_cases hok : okS l l.length
 ·have hm := mapS_yes hok
  have hml := mapB_len hok (Nat.le_refl _)
  have hmt : (mapT l).size = (mapB l l.length).length := ba_size _
  simp only [sgsD, intsD, nums_map, sgOf_map, hm, writeS_yes hok, G_wr_at, calmE, F_map, F_uns, F_Spell, AV.flat, AV.flat.flatL, List.length_map, goTG_val, goTG_new, goTG_up, goTG_none, goG_none, goG_new, goG_up, ne_eq, evK, evH, retHF, DRun_mk, runT_nil, runT_none, runT_guard, goT_val, goT_new, goT_store, goTH_true, goTH_false, evO, keys, Option.toList_some, Option.toList_none, nzL_nil, nzL_cons, nz_k, nz_sl, nz_nil, nz_agg, startL, evC, evV, goE_val, goE_new, goE_store, goH_true, goH_false, goG_val, lk_cons, lk_nil, lk_func, lk_int, lk_bool, lk_string, lk_slice, lk_agg, look_mk, St.effOf, eff, effCall, effBinC, isConst, effBin, effUn, effConv, effPick, effNil, effFold, fold1, effLoad, effStore, effFieldAddr, effField, fieldOf, sliceOf, effIndexAddr, effIndex, effLen, effExtract, effSlice, dats, bnd, effBuild, placesOf, effBuildSlice, effMakeSlice, effAppend, srcOf, fillA, chunk, seg, toD, toDs, put, eqAV, fieldsEq, leafEq, strip, unw, allB, selP_or, selP_and, tis, TyD.agg, AV.cells, AV.cell, allCell, vInt, vBool, vStr, subL_nil, subL_cons, upIds, AV.ids, AV.ids.idsL, AObj.ids, drops, Hp.get_cons, get_nil, retF, resL, one, fz, fz.fzL, List.map_cons, List.map_nil, List.nil_append, List.append_nil, List.cons_append, List.all_cons, List.all_nil, List.length_cons, List.length_nil, List.getElem?_cons_zero, List.getElem?_cons_succ, List.getD_cons_zero, List.getD_cons_succ, List.take_succ_cons, List.take_zero, List.drop_succ_cons, List.drop_zero, List.take_nil, List.drop_nil, List.contains_cons, List.contains_nil, Option.getD_some, Option.getD_none, Option.map_some, Option.map_none, if_true, if_false, true_and, and_true, and_self, or_self, or_false, false_or, false_and, and_false, reduceCtorEq, sel_and, sel_or, decide_eq_true_eq, Bool.and_eq_true, Bool.or_eq_true, Bool.and_true, Bool.true_and, Bool.or_false, Bool.false_or, Bool.true_or, Bool.or_true, Bool.not_true, Bool.not_false, Bool.false_eq_true, implies_true, not_false_eq_true, Nat.reduceLT, Nat.reduceEqDiff, Nat.reduceAdd, Nat.reduceMul, Nat.reduceMod, Nat.reduceLeDiff, Nat.reduceBEq, Nat.zero_add, Nat.add_zero, reduceIte, ↓reduceIte, List.not_mem_nil]
  have p1 : preB.size = 24 := rfl
  have p2 : midB.size = 25 := rfl
  have p3 : endB.size = 2 := rfl
  refine ⟨hl, by omega, by omega, ?_, ?_, ?_, ?_, Sub.refl _⟩
  ·show ((preB.size + (spellS (unitsS nm)).size : Nat) : Int) ≤ 9223372036854775807
   omega
  ·show (((preB ++ spellS (unitsS nm)).size + midB.size : Nat) : Int) ≤ 9223372036854775807
   rw [ByteArray.size_append]; omega
  ·show (((preB ++ spellS (unitsS nm) ++ midB).size + (mapT l).size : Nat) : Int) ≤ 9223372036854775807
   rw [ByteArray.size_append, ByteArray.size_append]; omega
  ·show (((preB ++ spellS (unitsS nm) ++ midB ++ mapT l).size + endB.size : Nat) : Int) ≤ 9223372036854775807
   rw [ByteArray.size_append, ByteArray.size_append, ByteArray.size_append]; omega
 ·have hm := mapS_no hok
  simp only [sgsD, intsD, nums_map, sgOf_map, hm, writeS_no hok, G_wr_at, calmE, F_map, F_uns, F_Spell, AV.flat, AV.flat.flatL, List.length_map, goTG_val, goTG_new, goTG_up, goTG_none, goG_none, goG_new, goG_up, ne_eq, evK, evH, retHF, DRun_mk, runT_nil, runT_none, runT_guard, goT_val, goT_new, goT_store, goTH_true, goTH_false, evO, keys, Option.toList_some, Option.toList_none, nzL_nil, nzL_cons, nz_k, nz_sl, nz_nil, nz_agg, startL, evC, evV, goE_val, goE_new, goE_store, goH_true, goH_false, goG_val, lk_cons, lk_nil, lk_func, lk_int, lk_bool, lk_string, lk_slice, lk_agg, look_mk, St.effOf, eff, effCall, effBinC, isConst, effBin, effUn, effConv, effPick, effNil, effFold, fold1, effLoad, effStore, effFieldAddr, effField, fieldOf, sliceOf, effIndexAddr, effIndex, effLen, effExtract, effSlice, dats, bnd, effBuild, placesOf, effBuildSlice, effMakeSlice, effAppend, srcOf, fillA, chunk, seg, toD, toDs, put, eqAV, fieldsEq, leafEq, strip, unw, allB, selP_or, selP_and, tis, TyD.agg, AV.cells, AV.cell, allCell, vInt, vBool, vStr, subL_nil, subL_cons, upIds, AV.ids, AV.ids.idsL, AObj.ids, drops, Hp.get_cons, get_nil, retF, resL, one, fz, fz.fzL, List.map_cons, List.map_nil, List.nil_append, List.append_nil, List.cons_append, List.all_cons, List.all_nil, List.length_cons, List.length_nil, List.getElem?_cons_zero, List.getElem?_cons_succ, List.getD_cons_zero, List.getD_cons_succ, List.take_succ_cons, List.take_zero, List.drop_succ_cons, List.drop_zero, List.take_nil, List.drop_nil, List.contains_cons, List.contains_nil, Option.getD_some, Option.getD_none, Option.map_some, Option.map_none, if_true, if_false, true_and, and_true, and_self, or_self, or_false, false_or, false_and, and_false, reduceCtorEq, sel_and, sel_or, decide_eq_true_eq, Bool.and_eq_true, Bool.or_eq_true, Bool.and_true, Bool.true_and, Bool.or_false, Bool.false_or, Bool.true_or, Bool.or_true, Bool.not_true, Bool.not_false, Bool.false_eq_true, implies_true, not_false_eq_true, Nat.reduceLT, Nat.reduceEqDiff, Nat.reduceAdd, Nat.reduceMul, Nat.reduceMod, Nat.reduceLeDiff, Nat.reduceBEq, Nat.zero_add, Nat.add_zero, reduceIte, ↓reduceIte, List.not_mem_nil]
  exact ⟨hl, Sub.refl _⟩
noncomputable def F_write : List AV → Option (Prop × AV)
 | [.d (.v (.string nm)), .d (.sl 4 xs)] => some (xs = (xs.map sgOf).map sgD ∧ xs.length ≤ 1000000 ∧ nm.size ≤ 100000000, writeS nm (xs.map sgOf))
 | _ => none
theorem write_calm : ∀ args sc res, F_write args = some (sc, res) → sc → Calm Try.prog 11 args res := by
 intro args sc res h hs
 unfold F_write at h
 split at h <;> cases h
 rename_i nm xs
 obtain ⟨h1, h2, h3⟩ := hs
 have hb := Write_body nm (xs.map sgOf) (by simpa using h2) h3
 rw [sgsD, ← h1] at hb
 exact known_wr.calm mixed rfl (writeS_ids _ _) hb
noncomputable def G_rwr : Gam := ((Gam.none.add 10 fun a => F_rmap (NT.nz.nzL [.s 4] a)).add 28 fun a => F_uns (NT.nz.nzL [] a)).add 27 fun a => F_su (NT.nz.nzL [.s 1] a)
theorem known_rwr : Known Try.prog G_rwr := (((Known.none _).addC _ rmap_calm).addC _ runs_calm).addC _ su_calm
theorem G_rwr_at : (∀ h d a, G_rwr 10 h d a = calmE (fun a => F_rmap (NT.nz.nzL [.s 4] a)) h a) ∧ (∀ h d a, G_rwr 28 h d a = calmE (fun a => F_uns (NT.nz.nzL [] a)) h a) ∧ (∀ h d a, G_rwr 27 h d a = calmE (fun a => F_su (NT.nz.nzL [.s 1] a)) h a) := ⟨fun _ _ _ => rfl, fun _ _ _ => rfl, fun _ _ _ => rfl⟩
theorem RWrite_body (nm : ByteArray) (l : List Sg) (hl : l.length ≤ 1000000) (hn : nm.size ≤ 100000000) : Body Try.prog G_rwr (DRun Try.prog G_rwr) 12 [.d (.v (.string nm)), .d (sgsD l)] (writeS nm l) := by
 refine Body.of Try.func12 Try.ntmps12 (by kernel_rfl) rfl rfl rfl ?_
 have hu := unitsS_len nm
 have hsz := spellS_size (unitsS nm)
 have hlm : l.length ≤ maxLen := Nat.le_trans hl (by decide)
 by_cases hok : okS l l.length
 ·have hm := mapS_yes hok
  have hml := mapB_len hok (Nat.le_refl _)
  have hmt : (mapT l).size = (mapB l l.length).length := ba_size _
  simp only [sgsD, intsD, nums_map, sgOf_map, hm, writeS_yes hok, G_rwr_at, calmE, F_rmap, F_uns, F_su, AV.flat, AV.flat.flatL, List.length_map, goTG_val, goTG_new, goTG_up, goTG_none, goG_none, goG_new, goG_up, ne_eq, evK, evH, retHF, DRun_mk, runT_nil, runT_none, runT_guard, goT_val, goT_new, goT_store, goTH_true, goTH_false, evO, keys, Option.toList_some, Option.toList_none, nzL_nil, nzL_cons, nz_k, nz_sl, nz_nil, nz_agg, startL, evC, evV, goE_val, goE_new, goE_store, goH_true, goH_false, goG_val, lk_cons, lk_nil, lk_func, lk_int, lk_bool, lk_string, lk_slice, lk_agg, look_mk, St.effOf, eff, effCall, effBinC, isConst, effBin, effUn, effConv, effPick, effNil, effFold, fold1, effLoad, effStore, effFieldAddr, effField, fieldOf, sliceOf, effIndexAddr, effIndex, effLen, effExtract, effSlice, dats, bnd, effBuild, placesOf, effBuildSlice, effMakeSlice, effAppend, srcOf, fillA, chunk, seg, toD, toDs, put, eqAV, fieldsEq, leafEq, strip, unw, allB, selP_or, selP_and, tis, TyD.agg, AV.cells, AV.cell, allCell, vInt, vBool, vStr, subL_nil, subL_cons, upIds, AV.ids, AV.ids.idsL, AObj.ids, drops, Hp.get_cons, get_nil, retF, resL, one, fz, fz.fzL, List.map_cons, List.map_nil, List.nil_append, List.append_nil, List.cons_append, List.all_cons, List.all_nil, List.length_cons, List.length_nil, List.getElem?_cons_zero, List.getElem?_cons_succ, List.getD_cons_zero, List.getD_cons_succ, List.take_succ_cons, List.take_zero, List.drop_succ_cons, List.drop_zero, List.take_nil, List.drop_nil, List.contains_cons, List.contains_nil, Option.getD_some, Option.getD_none, Option.map_some, Option.map_none, if_true, if_false, true_and, and_true, and_self, or_self, or_false, false_or, false_and, and_false, reduceCtorEq, sel_and, sel_or, decide_eq_true_eq, Bool.and_eq_true, Bool.or_eq_true, Bool.and_true, Bool.true_and, Bool.or_false, Bool.false_or, Bool.true_or, Bool.or_true, Bool.not_true, Bool.not_false, Bool.false_eq_true, implies_true, not_false_eq_true, Nat.reduceLT, Nat.reduceEqDiff, Nat.reduceAdd, Nat.reduceMul, Nat.reduceMod, Nat.reduceLeDiff, Nat.reduceBEq, Nat.zero_add, Nat.add_zero, reduceIte, ↓reduceIte, List.not_mem_nil]
  have p1 : preB.size = 24 := rfl
  have p2 : midB.size = 25 := rfl
  have p3 : endB.size = 2 := rfl
  refine ⟨hlm, by omega, by omega, ?_, ?_, ?_, ?_, Sub.refl _⟩
  ·show ((preB.size + (spellS (unitsS nm)).size : Nat) : Int) ≤ 9223372036854775807
   omega
  ·show (((preB ++ spellS (unitsS nm)).size + midB.size : Nat) : Int) ≤ 9223372036854775807
   rw [ByteArray.size_append]; omega
  ·show (((preB ++ spellS (unitsS nm) ++ midB).size + (mapT l).size : Nat) : Int) ≤ 9223372036854775807
   rw [ByteArray.size_append, ByteArray.size_append]; omega
  ·show (((preB ++ spellS (unitsS nm) ++ midB ++ mapT l).size + endB.size : Nat) : Int) ≤ 9223372036854775807
   rw [ByteArray.size_append, ByteArray.size_append, ByteArray.size_append]; omega
 ·have hm := mapS_no hok
  simp only [sgsD, intsD, nums_map, sgOf_map, hm, writeS_no hok, G_rwr_at, calmE, F_rmap, F_uns, F_su, AV.flat, AV.flat.flatL, List.length_map, goTG_val, goTG_new, goTG_up, goTG_none, goG_none, goG_new, goG_up, ne_eq, evK, evH, retHF, DRun_mk, runT_nil, runT_none, runT_guard, goT_val, goT_new, goT_store, goTH_true, goTH_false, evO, keys, Option.toList_some, Option.toList_none, nzL_nil, nzL_cons, nz_k, nz_sl, nz_nil, nz_agg, startL, evC, evV, goE_val, goE_new, goE_store, goH_true, goH_false, goG_val, lk_cons, lk_nil, lk_func, lk_int, lk_bool, lk_string, lk_slice, lk_agg, look_mk, St.effOf, eff, effCall, effBinC, isConst, effBin, effUn, effConv, effPick, effNil, effFold, fold1, effLoad, effStore, effFieldAddr, effField, fieldOf, sliceOf, effIndexAddr, effIndex, effLen, effExtract, effSlice, dats, bnd, effBuild, placesOf, effBuildSlice, effMakeSlice, effAppend, srcOf, fillA, chunk, seg, toD, toDs, put, eqAV, fieldsEq, leafEq, strip, unw, allB, selP_or, selP_and, tis, TyD.agg, AV.cells, AV.cell, allCell, vInt, vBool, vStr, subL_nil, subL_cons, upIds, AV.ids, AV.ids.idsL, AObj.ids, drops, Hp.get_cons, get_nil, retF, resL, one, fz, fz.fzL, List.map_cons, List.map_nil, List.nil_append, List.append_nil, List.cons_append, List.all_cons, List.all_nil, List.length_cons, List.length_nil, List.getElem?_cons_zero, List.getElem?_cons_succ, List.getD_cons_zero, List.getD_cons_succ, List.take_succ_cons, List.take_zero, List.drop_succ_cons, List.drop_zero, List.take_nil, List.drop_nil, List.contains_cons, List.contains_nil, Option.getD_some, Option.getD_none, Option.map_some, Option.map_none, if_true, if_false, true_and, and_true, and_self, or_self, or_false, false_or, false_and, and_false, reduceCtorEq, sel_and, sel_or, decide_eq_true_eq, Bool.and_eq_true, Bool.or_eq_true, Bool.and_true, Bool.true_and, Bool.or_false, Bool.false_or, Bool.true_or, Bool.or_true, Bool.not_true, Bool.not_false, Bool.false_eq_true, implies_true, not_false_eq_true, Nat.reduceLT, Nat.reduceEqDiff, Nat.reduceAdd, Nat.reduceMul, Nat.reduceMod, Nat.reduceLeDiff, Nat.reduceBEq, Nat.zero_add, Nat.add_zero, reduceIte, ↓reduceIte, List.not_mem_nil]
  exact ⟨hlm, Sub.refl _⟩
theorem rwrite_calm : ∀ args sc res, F_write args = some (sc, res) → sc → Calm Try.prog 12 args res := by
 intro args sc res h hs
 unfold F_write at h
 split at h <;> cases h
 rename_i nm xs
 obtain ⟨h1, h2, h3⟩ := hs
 have hb := RWrite_body nm (xs.map sgOf) (by simpa using h2) h3
 rw [sgsD, ← h1] at hb
 exact known_rwr.calm mixed rfl (writeS_ids _ _) hb
noncomputable def G_al24 : Gam := (Gam.none.add 9 fun a => F_map (NT.nz.nzL [.s 4] a)).add 11 fun a => F_write (NT.nz.nzL [.k, .s 4] a)
theorem known_al24 : Known Try.prog G_al24 := ((Known.none _).addC _ map_calm).addC _ write_calm
theorem G_al24_at : (∀ h d a, G_al24 9 h d a = calmE (fun a => F_map (NT.nz.nzL [.s 4] a)) h a) ∧ (∀ h d a, G_al24 11 h d a = calmE (fun a => F_write (NT.nz.nzL [.k, .s 4] a)) h a) := ⟨fun _ _ _ => rfl, fun _ _ _ => rfl⟩
theorem vq_small {n : Int} (h0 : 0 ≤ n) (h1 : n < 16) : vq n = dig (2 * n).toNat := by
 unfold vq
 rw [if_neg (by omega), vx, if_neg (by omega), vd_lo (by omega)]
theorem alive24_body : Body Try.prog G_al24 (DRun Try.prog G_al24) 7 [] (vBool true) := by
 refine Body.of Try.func7 Try.ntmps7 (by kernel_rfl) rfl rfl rfl ?_
 have o0 : okS [] ([] : List Sg).length := fun i hi => absurd hi (Nat.not_lt_zero i)
 have o1 : okS [⟨1, 2, 0, 3⟩] ([⟨1, 2, 0, 3⟩] : List Sg).length := fun i hi s hs => by
  obtain rfl : i = 0 := by simpa using hi
  cases hs
  exact ⟨by decide, fun p h0 => absurd h0 (Nat.lt_irrefl 0)⟩
 have m0 : mapT [] = ⟨#[]⟩ := rfl
 have m1 : mapT [⟨1, 2, 0, 3⟩] = ⟨#[59, 69, 65, 65, 71]⟩ := by
  rw [mapT]
  simp only [List.length_cons, List.length_nil, mapB, List.getElem?_cons_zero, segB, aheadB, numsB, lastS, List.take_zero, List.getLastD_nil, List.flatMap_cons, List.flatMap_nil]
  rw [vq_small (n := 2 - _) (by decide) (by decide), vq_small (n := 0) (by decide) (by decide), vq_small (n := 3 - 0) (by decide) (by decide)]
  decide +kernel
 have s0 := mapS_yes o0
 have s1 := mapS_yes o1
 have w0 := writeS_yes (nm := ⟨#[97]⟩) o0
 rw [m0] at s0
 rw [m1] at s1
 have hw : 1 ≤ (wrT ⟨#[97]⟩ []).size := by
  unfold wrT
  simp only [ByteArray.size_append]
  have p1 : preB.size = 24 := rfl
  omega
 simp only [G_al24_at, calmE, F_map, F_write, AV.flat, AV.flat.flatL, sgOf, sgD, List.map_cons, List.map_nil, s0, s1, w0, goTG_val, goTG_new, goTG_up, goTG_none, goG_none, goG_new, goG_up, ne_eq, evK, evH, retHF, DRun_mk, runT_nil, runT_none, runT_guard, goT_val, goT_new, goT_store, goTH_true, goTH_false, evO, keys, Option.toList_some, Option.toList_none, nzL_nil, nzL_cons, nz_k, nz_sl, nz_nil, nz_agg, startL, evC, evV, goE_val, goE_new, goE_store, goH_true, goH_false, goG_val, lk_cons, lk_nil, lk_func, lk_int, lk_bool, lk_string, lk_slice, lk_agg, look_mk, St.effOf, eff, effCall, effBinC, isConst, effBin, effUn, effConv, effPick, effNil, effFold, fold1, effLoad, effStore, effFieldAddr, effField, fieldOf, sliceOf, effIndexAddr, effIndex, effLen, effExtract, effSlice, dats, bnd, effBuild, placesOf, effBuildSlice, effMakeSlice, effAppend, srcOf, fillA, chunk, seg, toD, toDs, put, eqAV, fieldsEq, leafEq, strip, unw, allB, selP_or, selP_and, tis, TyD.agg, AV.cells, AV.cell, allCell, vInt, vBool, vStr, subL_nil, subL_cons, upIds, AV.ids, AV.ids.idsL, AObj.ids, drops, Hp.get_cons, get_nil, retF, resL, one, fz, fz.fzL, List.map_cons, List.map_nil, List.nil_append, List.append_nil, List.cons_append, List.all_cons, List.all_nil, List.length_cons, List.length_nil, List.getElem?_cons_zero, List.getElem?_cons_succ, List.getD_cons_zero, List.getD_cons_succ, List.take_succ_cons, List.take_zero, List.drop_succ_cons, List.drop_zero, List.take_nil, List.drop_nil, List.contains_cons, List.contains_nil, Option.getD_some, Option.getD_none, Option.map_some, Option.map_none, if_true, if_false, true_and, and_true, and_self, or_self, or_false, false_or, false_and, and_false, reduceCtorEq, sel_and, sel_or, decide_eq_true_eq, Bool.and_eq_true, Bool.or_eq_true, Bool.and_true, Bool.true_and, Bool.or_false, Bool.false_or, Bool.true_or, Bool.or_true, Bool.not_true, Bool.not_false, Bool.false_eq_true, implies_true, not_false_eq_true, Nat.reduceLT, Nat.reduceEqDiff, Nat.reduceAdd, Nat.reduceMul, Nat.reduceMod, Nat.reduceLeDiff, Nat.reduceBEq, Nat.zero_add, Nat.add_zero, reduceIte, ↓reduceIte, List.not_mem_nil]
 refine ⟨by decide, ?_⟩
 rw [if_pos ⟨by decide +kernel, by decide +kernel⟩, decide_eq_true (by omega)]
theorem alive24_calm : Calm Try.prog 7 [] (vBool true) := known_al24.calm mixed rfl rfl alive24_body
def F_alive : List AV → Option (Prop × AV)
 | [] => some (True, vBool true)
 | _ => none
noncomputable def G24 : Gam := (((((Gam.none.add 7 fun a => F_alive (NT.nz.nzL [] a)).add 8 fun a => F_fewS (NT.nz.nzL [.s 4] a)).add 9 fun a => F_map (NT.nz.nzL [.s 4] a)).add 10 fun a => F_rmap (NT.nz.nzL [.s 4] a)).add 11 fun a => F_write (NT.nz.nzL [.k, .s 4] a)).add 12 fun a => F_write (NT.nz.nzL [.k, .s 4] a)
theorem known24 : Known Try.prog G24 := (((((((Known.none _)).addC _ (fun args sc res h _ => by
  unfold F_alive at h
  split at h <;> cases h
  exact alive24_calm)).addC _ fewS_calm).addC _ map_calm).addC _ rmap_calm).addC _ write_calm).addC _ rwrite_calm
end Go.Proofs.Ytgbialeahdoelaa.Eng

end

section
namespace Go.Proofs.Ytgbialeahdoelaa.Eng
open Go Go.Proofs.Ytgbialeahdoelaa.Base
set_option maxRecDepth 100000
set_option linter.unusedSimpArgs false
set_option linter.unusedVariables false
theorem jt_len {t : List Int} (h : Jstr.Jt t) : Bytes t → Jlex.textLen t = some t.length := by
 induction h with
 | done => intro _; rfl
 | @ch c t h1 h2 h3 _ ih =>
  intro hb
  have hbt : Bytes t := fun x hx => hb x (List.mem_cons_of_mem _ hx)
  rw [textLen_step hbt, if_neg h2, if_neg (by omega), if_neg h3, ih hbt]; rfl
 | @u a b c d t h1 h2 h3 h4 _ ih =>
  intro hb
  have hbt : Bytes (117 :: a :: b :: c :: d :: t) := fun x hx => hb x (List.mem_cons_of_mem _ hx)
  have hb4 : Bytes (a :: b :: c :: d :: t) := fun x hx => hbt x (List.mem_cons_of_mem _ hx)
  have hx : hex4B (a :: b :: c :: d :: t) = true := (hex4B_iff hb4).2 ⟨h1, h2, h3, h4⟩
  rw [textLen_step hbt, if_neg (by decide), if_neg (by decide), if_pos rfl, escN_cons, if_neg (by decide), if_pos ⟨rfl, hx⟩]
  show (Jlex.textLen t).map (· + 6) = _
  rw [ih (fun x hx => hb x (by simp [hx]))]
  simp only [Option.map_some, List.length_cons]
 | @e c t h1 _ ih =>
  intro hb
  have hbt : Bytes (c :: t) := fun x hx => hb x (List.mem_cons_of_mem _ hx)
  rw [textLen_step hbt, if_neg (by decide), if_neg (by decide), if_pos rfl, escN_cons, if_pos h1]
  show (Jlex.textLen t).map (· + 2) = _
  rw [ih (fun x hx => hb x (by simp [hx]))]
  simp only [Option.map_some, List.length_cons]
def chI (c : Int) : Prop := 43 ≤ c ∧ c ≤ 122 ∧ c ≠ 92
instance (c : Int) : Decidable (chI c) := by unfold chI; infer_instance
theorem jt_chars : ∀ w : List Int, (∀ x ∈ w, chI x) → Jstr.Jt (w ++ [34])
 | [], _ => .done
 | c :: w, h => by
  have hc := h c List.mem_cons_self
  unfold chI at hc
  exact .ch (by omega) (by omega) hc.2.2 (jt_chars w fun x hx => h x (List.mem_cons_of_mem _ hx))
theorem dig_ok : ∀ k : Fin 64, ∀ c ∈ (dig k.val).data.toList, chI (c.toNat : Int) := by decide +kernel
theorem vd_ok (x : Nat) : ∀ c ∈ (vd x).data.toList, chI (c.toNat : Int) := by
 induction x using Nat.strongRecOn with
 | ind x ih =>
  intro c hc
  by_cases h : x < 32
  ·rw [vd_lo h] at hc
   exact dig_ok ⟨x, by omega⟩ c hc
  ·rw [vd_hi h] at hc
   rw [show (dig (x % 32 + 32) ++ vd (x / 32)).data.toList = (dig (x % 32 + 32)).data.toList ++ (vd (x / 32)).data.toList by simp] at hc
   rcases List.mem_append.1 hc with hc | hc
   ·exact dig_ok ⟨x % 32 + 32, by omega⟩ c hc
   ·exact ih (x / 32) (by omega) c hc
theorem vq_ok (n : Int) : ∀ c ∈ (vq n).data.toList, chI (c.toNat : Int) := by
 unfold vq
 split
 ·intro c hc
  have e : ByteArray.empty.data.toList = [] := rfl
  rw [e] at hc
  cases hc
 ·exact vd_ok _
theorem mapB_ok (l : List Sg) : ∀ j, ∀ c ∈ mapB l j, chI (c.toNat : Int)
 | 0, c, h => by simp [mapB] at h
 | j + 1, c, h => by
  rw [mapB] at h
  rcases List.mem_append.1 h with h | h
  ·exact mapB_ok l j c h
  ·split at h
   ·unfold segB at h
    rcases List.mem_append.1 h with h | h
    ·unfold aheadB at h
     split at h
     ·rw [(List.mem_replicate.1 h).2]; decide
     ·split at h
      ·rw [List.mem_singleton.1 h]; decide
      ·simp at h
    ·obtain ⟨n, -, h⟩ := List.mem_flatMap.1 h
     exact vq_ok n c h
   ·simp at h
theorem mapB_few {l : List Sg} (hf : fewS l = true) : ∀ {j : Nat}, okS l j → j ≤ l.length → (mapB l j).length ≤ 237 * j
 | 0, _, _ => by simp [mapB]
 | j + 1, h, hj => by
  have ih := mapB_few hf (okS_mono h (Nat.le_succ j)) (by omega)
  obtain ⟨s, hs⟩ : ∃ s, l[j]? = some s := ⟨_, List.getElem?_eq_getElem (by omega)⟩
  have hr := last_in h (Nat.lt_succ_self j) hs
  have h2 := seg_len j (lastS (l.take j)) s hr.2.1
  obtain ⟨⟨⟨k1, k2⟩, _⟩, _⟩ := h j (Nat.lt_succ_self j) s hs
  have k3 := (of_decide_eq_true hf).1 s (List.mem_of_getElem? hs)
  unfold farL at k3
  rw [mapB, hs, List.length_append]
  simp only []
  omega
theorem alls_ch : ∀ (n : Nat) (l : List Int), (∀ x ∈ l, chI x) → l.length ≤ n → alls n l = l
 | 0, l, _, h => by rw [List.length_eq_zero_iff.1 (by omega : l.length = 0)]; rfl
 | n + 1, [], _, _ => rfl
 | n + 1, c :: l, h, hn => by
  have hc := h c List.mem_cons_self
  unfold chI at hc
  have hd : Utf.dec (c :: l) = (c, 1, true) := by
   show (if c < 128 then (c, (1 : Int), true) else _) = _
   rw [if_pos (by omega)]
  rw [alls, if_neg (by simp), hd]
  show c :: alls n l = _
  rw [alls_ch n l (fun x hx => h x (List.mem_cons_of_mem _ hx)) (by simpa using hn)]
theorem unit_ch : ∀ l : List Int, (∀ x ∈ l, chI x) → l.flatMap unit2 = l
 | [], _ => rfl
 | c :: l, h => by
  have hc := h c List.mem_cons_self
  unfold chI at hc
  rw [List.flatMap_cons, unit_ch l (fun x hx => h x (List.mem_cons_of_mem _ hx)), unit2, if_pos (by omega)]; rfl
theorem pairs_ch : ∀ l : List Int, (∀ x ∈ l, chI x) → Jstr.pairs l = l
 | [], _ => rfl
 | [_], _ => rfl
 | a :: b :: l, h => by
  have hc := h a List.mem_cons_self
  unfold chI at hc
  rw [Jstr.pairs, if_neg (by omega), pairs_ch (b :: l) (fun x hx => h x (List.mem_cons_of_mem _ hx))]
theorem spell_ch {c : Int} (h : chI c) : Jstr.spell c = [c] := by
 unfold chI at h
 have hs : Jstr.short c = none := by unfold Jstr.short; (repeat' rw [if_neg (by omega)])
 unfold Jstr.spell
 rw [hs]
 show (if c < 32 ∨ (55296 ≤ c ∧ c < 57344) then _ else Utf.put c) = [c]
 rw [if_neg (by omega), Utf.put, Utf.fix_of (show Utf.isCp c by unfold Utf.isCp; omega), Utf.enc, if_pos (by omega)]
theorem spells_ch : ∀ l : List Int, (∀ x ∈ l, chI x) → l.flatMap Jstr.spell = l
 | [], _ => rfl
 | c :: l, h => by rw [List.flatMap_cons, spells_ch l (fun x hx => h x (List.mem_cons_of_mem _ hx)), spell_ch (h c List.mem_cons_self)]; rfl
theorem quoted_ch {s : ByteArray} (h : ∀ x ∈ sB s, chI x) : unitsS s = sB s ∧ sB (spellS (unitsS s)) = 34 :: (sB s ++ [34]) := by
 have h1 : unitsS s = sB s := by
  unfold unitsS
  rw [alls_ch _ _ h (by rw [sB_len]; exact Nat.le_refl _), unit_ch _ h]
 refine ⟨h1, ?_⟩
 have hr := unitsS_right s
 unfold spellS
 rw [if_pos hr, h1]
 unfold Jstr.spelled Jstr.body
 rw [pairs_ch _ h, spells_ch _ h, sB_str]
 intro x hx
 rcases List.mem_cons.1 hx with rfl | hx
 ·decide
 ·rcases List.mem_append.1 hx with hx | hx
  ·have := h x hx; unfold chI at this; omega
  ·rw [List.mem_singleton.1 hx]; decide
theorem quoted_jt (s : ByteArray) : ∃ t, sB (spellS (unitsS s)) = 34 :: t ∧ Jstr.Jt t ∧ Bytes t ∧ Jlex.isU t ∧ t.length ≤ 6 * (unitsS s).length + 1 := by
 have hr := unitsS_right s
 have h1 := Jstr.reads_body _ hr
 have hsz := spellS_size (unitsS s)
 obtain ⟨rs, h2, h3⟩ := Jstr.reads_cps h1
 have hb : Bytes (Jstr.body (unitsS s) ++ [34]) := by rw [← h3]; exact Utf.encAll_bytes h2
 have e : sB (spellS (unitsS s)) = 34 :: (Jstr.body (unitsS s) ++ [34]) := by
  unfold spellS
  rw [if_pos hr]
  unfold Jstr.spelled
  refine sB_str fun x hx => ?_
  rcases List.mem_cons.1 hx with rfl | hx
  ·decide
  ·exact hb x hx
 refine ⟨_, e, Jstr.reads_jt h1, hb, ⟨rs, h2, h3.symm⟩, ?_⟩
 have := congrArg List.length e
 rw [sB_len] at this
 simp only [List.length_cons] at this
 omega
def flatW (W : List (Int × List Int)) : List Int := W.flatMap (·.2)
def posW : Int → List (Int × List Int) → List Tk
 | _, [] => []
 | i, (k, w) :: W => (k, i, i + w.length) :: posW (i + w.length) W
def goodW : List (Int × List Int) → Prop
 | [] => True
 | (k, w) :: W => (∃ c t, w = c :: t ∧ Jlex.blk c = false) ∧ Jlex.tok (w ++ flatW W) = (k, some w.length) ∧ goodW W
theorem toks_W : ∀ (W : List (Int × List Int)) (i : Int), goodW W → Jlex.Toks (flatW W) i (posW i W) none
 | [], i, _ => .nil (fun x hx => by cases hx)
 | (k, w) :: W, i, ⟨⟨c, t, hw, hc⟩, ht, hg⟩ => by
  have h1 := toks_W W (i + w.length) hg
  have e : flatW ((k, w) :: W) = c :: (t ++ flatW W) := by
   show w ++ flatW W = _
   rw [hw]; rfl
  have hd : (c :: (t ++ flatW W)).drop w.length = flatW W := by
   rw [← List.cons_append, ← hw, List.drop_left]
  have h2 := Jlex.Toks.cons (b := []) (i := i) (k := k) (n := w.length) (ts := posW (i + w.length) W) (e := none) (fun x hx => by cases hx) hc (by rw [← List.cons_append, ← hw]; exact ht) (by
   rw [hd]
   simp only [List.length_nil, Int.ofNat_zero, Int.add_zero, Int.cast_ofNat_Int]
   exact h1)
  simp only [List.length_nil, Int.ofNat_zero, Int.add_zero, Int.cast_ofNat_Int, List.nil_append] at h2
  rw [e]
  exact h2
theorem tkB_W : ∀ (W : List (Int × List Int)) (pre : List Int) (n : Nat) (k : Int) (w : List Int), W[n]? = some (k, w) → ∃ f : Int, (posW pre.length W)[n]? = some (k, f, f + (w.length : Int)) ∧ Jlex.slice (pre ++ flatW W) (k, f, f + w.length) = w
 | [], _, _, _, _, h => by simp at h
 | (k0, w0) :: W, pre, 0, k, w, h => by
  have h : (k0, w0) = (k, w) := by simpa using h
  have hk := congrArg Prod.fst h
  have hw := congrArg Prod.snd h
  simp only [] at hk hw
  subst hk hw
  refine ⟨pre.length, rfl, ?_⟩
  show Jlex.slice (pre ++ (w0 ++ flatW W)) _ = w0
  unfold Jlex.slice
  simp only
  rw [Int.toNat_natCast, List.drop_left, show ((pre.length : Int) + w0.length - pre.length).toNat = w0.length by omega, List.take_left]
 | (k0, w0) :: W, pre, n + 1, k, w, h => by
  obtain ⟨f, h1, h2⟩ := tkB_W W (pre ++ w0) n k w (by simpa using h)
  refine ⟨f, ?_, ?_⟩
  ·show (posW ((pre.length : Int) + w0.length) W)[n]? = _
   rw [show (pre.length : Int) + w0.length = ((pre ++ w0).length : Nat) by rw [List.length_append]; omega]
   exact h1
  ·show Jlex.slice (pre ++ (w0 ++ flatW W)) _ = w
   rw [← List.append_assoc]; exact h2
theorem tok_text {t r : List Int} (h : Jstr.Jt t) (hb : Bytes t) : Jlex.tok (34 :: t ++ r) = (7, some (34 :: t).length) := by
 have h1 := Jlex.textLen_pre [] r t.length t (Nat.le_refl _) (by rw [List.append_nil]; exact jt_len h hb)
 show (7, (Jlex.textLen (t ++ r)).map (· + 1)) = _
 rw [h1]; rfl
end Go.Proofs.Ytgbialeahdoelaa.Eng

end

section
namespace Go.Proofs.Ytgbialeahdoelaa.Eng
open Go Go.Proofs.Ytgbialeahdoelaa.Base
set_option maxRecDepth 100000
set_option linter.unusedSimpArgs false
set_option linter.unusedVariables false
noncomputable def G_qu : Gam := ((Gam.none.add 29 fun a => F_Next (NT.nz.nzL [.s 1, .k] a)).add 27 fun a => F_su (NT.nz.nzL [.s 1] a))
theorem known_G_qu : Known Try.prog G_qu := ((Known.none _).addC _ RNext_calm).addC _ su_calm
theorem G_qu_at : (∀ h d a, G_qu 29 h d a = calmE (fun a => F_Next (NT.nz.nzL [.s 1, .k] a)) h a) ∧ (∀ h d a, G_qu 27 h d a = calmE (fun a => F_su (NT.nz.nzL [.s 1] a)) h a) := ⟨fun _ _ _ => rfl, fun _ _ _ => rfl⟩
theorem quoted_body (s : ByteArray) (hl : s.size ≤ 1000000000) : Body Try.prog G_qu (DRun Try.prog G_qu) 35 [.d (.v (.string s))] (vStr (spellS (unitsS s))) := by
 refine Body.of Try.func35 Try.ntmps35 (by kernel_rfl) rfl rfl rfl ?_
 have hb := sB_bytes s
 have hn := sB_len s
 have hul := unitsS_len s
 have har := alls_range s.size (sB s) (sB_bytes s)
 unfold unitsS
 simp only [intsD, bytesD, sB_rows, G_qu_at, calmE, F_Next, F_su, AV.flat, AV.flat.flatL, getD_iD, iD, num_iD, List.length_map, ← hn, goTG_val, goTG_new, goTG_up, goTG_none, goG_none, goG_new, goG_up, ne_eq, evK, evH, retHF, DRun_mk, runT_nil, runT_none, runT_guard, goT_val, goT_new, goT_store, goTH_true, goTH_false, evO, keys, Option.toList_some, Option.toList_none, nzL_nil, nzL_cons, nz_k, nz_sl, nz_nil, nz_agg, startL, evC, evV, goE_val, goE_new, goE_store, goH_true, goH_false, goG_val, lk_cons, lk_nil, lk_func, lk_int, lk_bool, lk_string, lk_slice, lk_agg, look_mk, St.effOf, eff, effCall, effBinC, isConst, effBin, effUn, effConv, effPick, effNil, effFold, fold1, effLoad, effStore, effFieldAddr, effField, fieldOf, sliceOf, effIndexAddr, effIndex, effLen, effExtract, effSlice, dats, bnd, effBuild, placesOf, effBuildSlice, effMakeSlice, effAppend, srcOf, fillA, chunk, seg, toD, toDs, put, eqAV, fieldsEq, leafEq, strip, unw, allB, selP_or, selP_and, tis, TyD.agg, AV.cells, AV.cell, allCell, vInt, vBool, vStr, subL_nil, subL_cons, upIds, AV.ids, AV.ids.idsL, AObj.ids, drops, Hp.get_cons, get_nil, retF, resL, one, fz, fz.fzL, List.map_cons, List.map_nil, List.nil_append, List.append_nil, List.cons_append, List.all_cons, List.all_nil, List.length_cons, List.length_nil, List.getElem?_cons_zero, List.getElem?_cons_succ, List.getD_cons_zero, List.getD_cons_succ, List.take_succ_cons, List.take_zero, List.drop_succ_cons, List.drop_zero, List.take_nil, List.drop_nil, List.contains_cons, List.contains_nil, Option.getD_some, Option.getD_none, Option.map_some, Option.map_none, if_true, if_false, true_and, and_true, and_self, or_self, or_false, false_or, false_and, and_false, reduceCtorEq, sel_and, sel_or, decide_eq_true_eq, Bool.and_eq_true, Bool.or_eq_true, Bool.and_true, Bool.true_and, Bool.or_false, Bool.false_or, Bool.true_or, Bool.or_true, Bool.not_true, Bool.not_false, Bool.false_eq_true, implies_true, not_false_eq_true, Nat.reduceLT, Nat.reduceEqDiff, Nat.reduceAdd, Nat.reduceMul, Nat.reduceMod, Nat.reduceLeDiff, Nat.reduceBEq, Nat.zero_add, Nat.add_zero, reduceIte, ↓reduceIte, List.not_mem_nil]
 rw [← hn] at hl har
 generalize sB s = l at hb hn hl har ⊢
 clear hn
 refine wpc_loop (fun p : List Int × Nat => ⟨44, [100], [(3, .row 100 (p.1.flatMap unit2).length), (4, .d (bytesD l)), (5, vInt .i64 p.2)], [(100, some (.row 3 1 ((p.1.flatMap unit2).map (iD .i64))))]⟩)
  (fun p => p.2 ≤ l.length ∧ p.1.length ≤ p.2 ∧ ∀ n, l.length - p.2 ≤ n → p.1 ++ alls n (l.drop p.2) = alls l.length l) (fun p => l.length - p.2) ([], 0) ⟨Nat.zero_le _, Nat.le_refl _, fun n hn => ?_⟩ ?_ ?_
 ·rw [List.nil_append, List.drop_zero]
  exact alls_fuel _ _ _ hb hn (Nat.le_refl _)
 ·refine Le.of id [100] ?_
  simp only [bytesD, List.flatMap_nil, List.length_nil, List.length_map, List.map_nil, Mt_tup, Mt_agg, Mt_fn, forall_eq, forall_eq_or_imp, ne_eq, List.all_cons, List.all_nil, pr, Nat.reduceLeDiff, slR_nil, slR_cons, hpR_nil, hpR_cells, hpR_row, idsR_nil, idsR_cons, mtE_v, mtE_sl, mtE_nil, mtE_refl, mtE_row, mtE_born, mtE_ptr, mtE_rp, mtE_agg, mtE_tup, mtE_fn, mtE_ep, MtL_nil, MtL_cons, Mt_v, Mt_sl, Mt_nil, Mt_refl, Mt_row, Mt_born, Mt_ptr, MtO_cells, MtO_row, liveIds, distinct, Dat.v.injEq, Dat.sl.injEq, Value.int.injEq, Value.bool.injEq, Value.string.injEq, lk_cons, lk_nil, subL_nil, subL_cons, upIds, AV.ids, AV.ids.idsL, AObj.ids, Hp.get_cons, get_nil, allCell, AV.cell, vInt, vBool, vStr, id, true_and, and_true, and_self, List.append_nil, List.nil_append, List.not_mem_nil, List.mem_cons, or_false, false_or, or_self, not_true_eq_false, not_false_eq_true, false_imp_iff, false_implies, List.map_nil, not_false_eq_true, List.contains_cons, List.contains_nil, Bool.or_false, Bool.false_or, Bool.true_or, Bool.or_true, Bool.and_true, Bool.true_and, implies_true, if_true, if_false, reduceCtorEq, Nat.reduceEqDiff, Nat.reduceBEq, Nat.reduceAdd, reduceIte, ↓reduceIte]
  rfl
 ·rintro ⟨o, i⟩ ⟨hi, ho, hr⟩
  simp only [] at hi ho hr
  have hl2 := units2_len o
  have hdec : ∀ x : Int, Int.fdiv x (2 ^ min (Int.toNat 10) IntKind.i64.bits) = x / 1024 := fun x => by rw [Int.fdiv_eq_ediv_of_nonneg _ (by decide)]; rfl
  simp only [intsD, bytesD, hdec, G_qu_at, calmE, F_Next, F_su, AV.flat, AV.flat.flatL, getD_iD, iD, num_iD, List.length_map, goTG_val, goTG_new, goTG_up, goTG_none, goG_none, goG_new, goG_up, ne_eq, evK, evH, retHF, DRun_mk, runT_nil, runT_none, runT_guard, goT_val, goT_new, goT_store, goTH_true, goTH_false, evO, keys, Option.toList_some, Option.toList_none, nzL_nil, nzL_cons, nz_k, nz_sl, nz_nil, nz_agg, startL, evC, evV, goE_val, goE_new, goE_store, goH_true, goH_false, goG_val, lk_cons, lk_nil, lk_func, lk_int, lk_bool, lk_string, lk_slice, lk_agg, look_mk, St.effOf, eff, effCall, effBinC, isConst, effBin, effUn, effConv, effPick, effNil, effFold, fold1, effLoad, effStore, effFieldAddr, effField, fieldOf, sliceOf, effIndexAddr, effIndex, effLen, effExtract, effSlice, dats, bnd, effBuild, placesOf, effBuildSlice, effMakeSlice, effAppend, srcOf, fillA, chunk, seg, toD, toDs, put, eqAV, fieldsEq, leafEq, strip, unw, allB, selP_or, selP_and, tis, TyD.agg, AV.cells, AV.cell, allCell, vInt, vBool, vStr, subL_nil, subL_cons, upIds, AV.ids, AV.ids.idsL, AObj.ids, drops, Hp.get_cons, get_nil, retF, resL, one, fz, fz.fzL, List.map_cons, List.map_nil, List.nil_append, List.append_nil, List.cons_append, List.all_cons, List.all_nil, List.length_cons, List.length_nil, List.getElem?_cons_zero, List.getElem?_cons_succ, List.getD_cons_zero, List.getD_cons_succ, List.take_succ_cons, List.take_zero, List.drop_succ_cons, List.drop_zero, List.take_nil, List.drop_nil, List.contains_cons, List.contains_nil, Option.getD_some, Option.getD_none, Option.map_some, Option.map_none, if_true, if_false, true_and, and_true, and_self, or_self, or_false, false_or, false_and, and_false, reduceCtorEq, sel_and, sel_or, decide_eq_true_eq, Bool.and_eq_true, Bool.or_eq_true, Bool.and_true, Bool.true_and, Bool.or_false, Bool.false_or, Bool.true_or, Bool.or_true, Bool.not_true, Bool.not_false, Bool.false_eq_true, implies_true, not_false_eq_true, Nat.reduceLT, Nat.reduceEqDiff, Nat.reduceAdd, Nat.reduceMul, Nat.reduceMod, Nat.reduceLeDiff, Nat.reduceBEq, Nat.zero_add, Nat.add_zero, reduceIte, ↓reduceIte, List.not_mem_nil]
  by_cases h1 : (i : Int) < l.length
  ·rw [if_pos h1]
   refine ⟨⟨hb, by omega⟩, ?_⟩
   obtain ⟨r, k, ok, e, k1, k2, k3⟩ := all_step hb (by omega) hr
   simp only [e]
   have hrr := har r (by rw [← k3 l.length (by omega)]; simp)
   by_cases c : r ≥ 65536
   ·rw [if_pos c]
    have eu : unit2 r = [55296 + (r - 65536) / 1024, 56320 + (r - 65536) % 1024] := if_neg (by omega)
    rw [w64 (n := r - 65536) (by omega) (by omega), and1k (by omega) (by omega), w64 (n := 55296 + (r - 65536) / 1024) (by omega) (by omega), w64 (n := 56320 + (r - 65536) % 1024) (by omega) (by omega)]
    refine ⟨by decide, by omega, (o ++ [r], i + k), by simp only []; omega, ⟨k2, by simp only [List.length_append, List.length_singleton]; omega, k3⟩, Le.of (fun _ => 34) [] ?_⟩
    simp only [intsD, List.flatMap_append, List.flatMap_cons, List.flatMap_nil, List.append_nil, eu, iD, List.map_append, List.map_cons, List.map_nil, List.length_append, List.length_map, List.length_cons, List.length_nil, Mt_tup, Mt_agg, Mt_fn, forall_eq, forall_eq_or_imp, ne_eq, List.all_cons, List.all_nil, pr, Nat.reduceLeDiff, slR_nil, slR_cons, hpR_nil, hpR_cells, hpR_row, idsR_nil, idsR_cons, mtE_v, mtE_sl, mtE_nil, mtE_refl, mtE_row, mtE_born, mtE_ptr, mtE_rp, mtE_agg, mtE_tup, mtE_fn, mtE_ep, MtL_nil, MtL_cons, Mt_v, Mt_sl, Mt_nil, Mt_refl, Mt_row, Mt_born, Mt_ptr, MtO_cells, MtO_row, liveIds, distinct, Dat.v.injEq, Dat.sl.injEq, Value.int.injEq, Value.bool.injEq, Value.string.injEq, lk_cons, lk_nil, subL_nil, subL_cons, upIds, AV.ids, AV.ids.idsL, AObj.ids, Hp.get_cons, get_nil, allCell, AV.cell, vInt, vBool, vStr, id, true_and, and_true, and_self, List.append_nil, List.nil_append, List.not_mem_nil, List.mem_cons, or_false, false_or, or_self, not_true_eq_false, not_false_eq_true, false_imp_iff, false_implies, List.map_nil, not_false_eq_true, List.contains_cons, List.contains_nil, Bool.or_false, Bool.false_or, Bool.true_or, Bool.or_true, Bool.and_true, Bool.true_and, implies_true, if_true, if_false, reduceCtorEq, Nat.reduceEqDiff, Nat.reduceBEq, Nat.reduceAdd, reduceIte, ↓reduceIte]
    rw [w64 (by omega) (by omega)]
    omega
   ·rw [if_neg c]
    have eu : unit2 r = [r] := if_pos (by omega)
    refine ⟨by omega, (o ++ [r], i + k), by simp only []; omega, ⟨k2, by simp only [List.length_append, List.length_singleton]; omega, k3⟩, Le.of (fun _ => 38) [] ?_⟩
    simp only [intsD, List.flatMap_append, List.flatMap_cons, List.flatMap_nil, List.append_nil, eu, iD, List.map_append, List.map_cons, List.map_nil, List.length_append, List.length_map, List.length_cons, List.length_nil, Mt_tup, Mt_agg, Mt_fn, forall_eq, forall_eq_or_imp, ne_eq, List.all_cons, List.all_nil, pr, Nat.reduceLeDiff, slR_nil, slR_cons, hpR_nil, hpR_cells, hpR_row, idsR_nil, idsR_cons, mtE_v, mtE_sl, mtE_nil, mtE_refl, mtE_row, mtE_born, mtE_ptr, mtE_rp, mtE_agg, mtE_tup, mtE_fn, mtE_ep, MtL_nil, MtL_cons, Mt_v, Mt_sl, Mt_nil, Mt_refl, Mt_row, Mt_born, Mt_ptr, MtO_cells, MtO_row, liveIds, distinct, Dat.v.injEq, Dat.sl.injEq, Value.int.injEq, Value.bool.injEq, Value.string.injEq, lk_cons, lk_nil, subL_nil, subL_cons, upIds, AV.ids, AV.ids.idsL, AObj.ids, Hp.get_cons, get_nil, allCell, AV.cell, vInt, vBool, vStr, id, true_and, and_true, and_self, List.append_nil, List.nil_append, List.not_mem_nil, List.mem_cons, or_false, false_or, or_self, not_true_eq_false, not_false_eq_true, false_imp_iff, false_implies, List.map_nil, not_false_eq_true, List.contains_cons, List.contains_nil, Bool.or_false, Bool.false_or, Bool.true_or, Bool.or_true, Bool.and_true, Bool.true_and, implies_true, if_true, if_false, reduceCtorEq, Nat.reduceEqDiff, Nat.reduceBEq, Nat.reduceAdd, reduceIte, ↓reduceIte]
    rw [w64 (by omega) (by omega)]
    omega
  ·rw [if_neg h1]
   have h2 := hr 0 (by omega)
   rw [List.drop_eq_nil_of_le (by omega), alls_nil, List.append_nil] at h2
   rw [h2]
   refine ⟨?_, Sub.refl _⟩
   have h3 := units2_len (alls l.length l)
   have h4 := alls_len l.length l
   omega
noncomputable def F_quo : List AV → Option (Prop × AV)
 | [.d (.v (.string s))] => some (s.size ≤ 1000000000, vStr (spellS (unitsS s)))
 | _ => none
theorem quo_calm : ∀ args sc res, F_quo args = some (sc, res) → sc → Calm Try.prog 35 args res := by
 intro args sc res h hs
 unfold F_quo at h
 split at h <;> cases h
 exact known_G_qu.calm mixed rfl rfl (quoted_body _ hs)
noncomputable def uq (s : ByteArray) : List Int := (juF (sB (spellS (unitsS s)))).1
noncomputable def F_unt : List AV → Option (Prop × AV)
 | [.d (.v (.string s))] => some (s.size ≤ 1000000, .d (intsD (uq s)))
 | _ => none
noncomputable def G_unt : Gam := ((Gam.none.add 35 fun a => F_quo (NT.nz.nzL [] a)).add 34 fun a => F_ju (NT.nz.nzL [.s 1] a))
theorem known_G_unt : Known Try.prog G_unt := ((Known.none _).addC _ quo_calm).addC _ ju_calm
theorem G_unt_at : (∀ h d a, G_unt 35 h d a = calmE (fun a => F_quo (NT.nz.nzL [] a)) h a) ∧ (∀ h d a, G_unt 34 h d a = calmE (fun a => F_ju (NT.nz.nzL [.s 1] a)) h a) := ⟨fun _ _ _ => rfl, fun _ _ _ => rfl⟩
theorem unt_calm : ∀ args sc res, F_unt args = some (sc, res) → sc → Calm Try.prog 16 args res := by
 intro args sc res h hs
 unfold F_unt at h
 split at h <;> cases h
 rename_i s
 refine known_G_unt.calm mixed rfl rfl ?_
 refine Body.of Try.func16 Try.ntmps16 (by kernel_rfl) rfl rfl rfl ?_
 have nz1 : ∀ xs, (NT.s 1).nz (.d (.sl 1 xs)) = .d (.sl 1 xs) := fun xs => rfl
 have hsz := spellS_size (unitsS s)
 have hul := unitsS_len s
 have hb := sB_bytes (spellS (unitsS s))
 have hln := sB_len (spellS (unitsS s))
 simp only [uq, intsD, nz1, sB_rows, num_iD, G_unt_at, calmE, F_quo, F_ju, AV.flat, AV.flat.flatL, List.length_map, Int.reduceLE, Int.reduceLT, Int.reduceGT, Int.reduceGE, Int.reduceBEq, Int.reduceBNe, Int.reduceEq, Int.reduceToNat, Int.reduceSub, Int.reduceAdd, Int.reduceMul, Int.reducePow, Int.reduceNeg, goTG_val, goTG_new, goTG_up, goTG_none, goG_none, goG_new, goG_up, ne_eq, evK, evH, retHF, DRun_mk, runT_nil, runT_none, runT_guard, goT_val, goT_new, goT_store, goTH_true, goTH_false, evO, keys, Option.toList_some, Option.toList_none, nzL_nil, nzL_cons, nz_k, nz_sl, nz_nil, nz_agg, startL, evC, evV, goE_val, goE_new, goE_store, goH_true, goH_false, goG_val, lk_cons, lk_nil, lk_func, lk_int, lk_bool, lk_string, lk_slice, lk_agg, look_mk, St.effOf, eff, effCall, effBinC, isConst, effBin, effUn, effConv, effPick, effNil, effFold, fold1, effLoad, effStore, effFieldAddr, effField, fieldOf, sliceOf, effIndexAddr, effIndex, effLen, effExtract, effSlice, dats, bnd, effBuild, placesOf, effBuildSlice, effMakeSlice, effAppend, srcOf, fillA, chunk, seg, toD, toDs, put, eqAV, fieldsEq, leafEq, strip, unw, allB, selP_or, selP_and, tis, TyD.agg, AV.cells, AV.cell, allCell, vInt, vBool, vStr, subL_nil, subL_cons, upIds, AV.ids, AV.ids.idsL, AObj.ids, drops, Hp.get_cons, get_nil, retF, resL, one, fz, fz.fzL, List.map_cons, List.map_nil, List.nil_append, List.append_nil, List.cons_append, List.all_cons, List.all_nil, List.length_cons, List.length_nil, List.getElem?_cons_zero, List.getElem?_cons_succ, List.getD_cons_zero, List.getD_cons_succ, List.take_succ_cons, List.take_zero, List.drop_succ_cons, List.drop_zero, List.take_nil, List.drop_nil, List.contains_cons, List.contains_nil, Option.getD_some, Option.getD_none, Option.map_some, Option.map_none, if_true, if_false, true_and, and_true, and_self, or_self, or_false, false_or, false_and, and_false, reduceCtorEq, sel_and, sel_or, decide_eq_true_eq, Bool.and_eq_true, Bool.or_eq_true, Bool.and_true, Bool.true_and, Bool.or_false, Bool.false_or, Bool.true_or, Bool.or_true, Bool.not_true, Bool.not_false, Bool.false_eq_true, implies_true, not_false_eq_true, Nat.reduceLT, Nat.reduceEqDiff, Nat.reduceAdd, Nat.reduceMul, Nat.reduceMod, Nat.reduceLeDiff, Nat.reduceBEq, Nat.zero_add, Nat.add_zero, reduceIte, ↓reduceIte, List.not_mem_nil]
 exact ⟨by omega, ⟨hb, by omega⟩, Sub.refl _⟩
def F_same : List AV → Option (Prop × AV)
 | [.d (.sl 1 xs), .d (.sl 1 ys)] => some (xs = (xs.map numOf).map (iD .i64) ∧ ys = (ys.map numOf).map (iD .i64) ∧ xs.length ≤ 1000000000, vBool (decide (xs.map numOf = ys.map numOf)))
 | _ => none
theorem same_body (a b : List Int) (hl : a.length ≤ 1000000000) : Body Try.prog Gam.none (DRun Try.prog Gam.none) 15 [.d (intsD a), .d (intsD b)] (vBool (decide (a = b))) := by
 refine Body.of Try.func15 Try.ntmps15 (by kernel_rfl) rfl rfl rfl ?_
 simp only [intsD, List.length_map, Int.reduceLE, Int.reduceLT, Int.reduceGT, Int.reduceGE, Int.reduceBEq, Int.reduceBNe, Int.reduceEq, Int.reduceToNat, Int.reduceSub, Int.reduceAdd, Int.reduceMul, Int.reducePow, Int.reduceNeg, goTG_val, goTG_new, goTG_up, goTG_none, goG_none, goG_new, goG_up, ne_eq, evK, evH, retHF, DRun_mk, runT_nil, runT_none, runT_guard, goT_val, goT_new, goT_store, goTH_true, goTH_false, evO, keys, Option.toList_some, Option.toList_none, nzL_nil, nzL_cons, nz_k, nz_sl, nz_nil, nz_agg, startL, evC, evV, goE_val, goE_new, goE_store, goH_true, goH_false, goG_val, lk_cons, lk_nil, lk_func, lk_int, lk_bool, lk_string, lk_slice, lk_agg, look_mk, St.effOf, eff, effCall, effBinC, isConst, effBin, effUn, effConv, effPick, effNil, effFold, fold1, effLoad, effStore, effFieldAddr, effField, fieldOf, sliceOf, effIndexAddr, effIndex, effLen, effExtract, effSlice, dats, bnd, effBuild, placesOf, effBuildSlice, effMakeSlice, effAppend, srcOf, fillA, chunk, seg, toD, toDs, put, eqAV, fieldsEq, leafEq, strip, unw, allB, selP_or, selP_and, tis, TyD.agg, AV.cells, AV.cell, allCell, vInt, vBool, vStr, subL_nil, subL_cons, upIds, AV.ids, AV.ids.idsL, AObj.ids, drops, Hp.get_cons, get_nil, retF, resL, one, fz, fz.fzL, List.map_cons, List.map_nil, List.nil_append, List.append_nil, List.cons_append, List.all_cons, List.all_nil, List.length_cons, List.length_nil, List.getElem?_cons_zero, List.getElem?_cons_succ, List.getD_cons_zero, List.getD_cons_succ, List.take_succ_cons, List.take_zero, List.drop_succ_cons, List.drop_zero, List.take_nil, List.drop_nil, List.contains_cons, List.contains_nil, Option.getD_some, Option.getD_none, Option.map_some, Option.map_none, if_true, if_false, true_and, and_true, and_self, or_self, or_false, false_or, false_and, and_false, reduceCtorEq, sel_and, sel_or, decide_eq_true_eq, Bool.and_eq_true, Bool.or_eq_true, Bool.and_true, Bool.true_and, Bool.or_false, Bool.false_or, Bool.true_or, Bool.or_true, Bool.not_true, Bool.not_false, Bool.false_eq_true, implies_true, not_false_eq_true, Nat.reduceLT, Nat.reduceEqDiff, Nat.reduceAdd, Nat.reduceMul, Nat.reduceMod, Nat.reduceLeDiff, Nat.reduceBEq, Nat.zero_add, Nat.add_zero, reduceIte, ↓reduceIte, List.not_mem_nil]
 by_cases c : a.length = b.length
 ·rw [if_neg (by rw [bne_iff_ne]; omega)]
  refine wpc_loop (fun j : Nat => ⟨26, [], [(0, .d (intsD a)), (1, .d (intsD b)), (5, vInt .i64 j)], []⟩) (fun j => j ≤ a.length ∧ ∀ k, k < j → a.getD k 0 = b.getD k 0) (fun j => a.length - j) 0 ⟨Nat.zero_le _, fun k hk => absurd hk (Nat.not_lt_zero k)⟩ ?_ ?_
  ·refine Le.of id [] ?_
   simp only [intsD, Mt_tup, Mt_agg, Mt_fn, forall_eq, forall_eq_or_imp, ne_eq, List.all_cons, List.all_nil, pr, Nat.reduceLeDiff, slR_nil, slR_cons, hpR_nil, hpR_cells, hpR_row, idsR_nil, idsR_cons, mtE_v, mtE_sl, mtE_nil, mtE_refl, mtE_row, mtE_born, mtE_ptr, mtE_rp, mtE_agg, mtE_tup, mtE_fn, mtE_ep, MtL_nil, MtL_cons, Mt_v, Mt_sl, Mt_nil, Mt_refl, Mt_row, Mt_born, Mt_ptr, MtO_cells, MtO_row, liveIds, distinct, Dat.v.injEq, Dat.sl.injEq, Value.int.injEq, Value.bool.injEq, Value.string.injEq, lk_cons, lk_nil, subL_nil, subL_cons, upIds, AV.ids, AV.ids.idsL, AObj.ids, Hp.get_cons, get_nil, allCell, AV.cell, vInt, vBool, vStr, id, true_and, and_true, and_self, List.append_nil, List.nil_append, List.not_mem_nil, List.mem_cons, or_false, false_or, or_self, not_true_eq_false, not_false_eq_true, false_imp_iff, false_implies, List.map_nil, not_false_eq_true, List.contains_cons, List.contains_nil, Bool.or_false, Bool.false_or, Bool.true_or, Bool.or_true, Bool.and_true, Bool.true_and, implies_true, if_true, if_false, reduceCtorEq, Nat.reduceEqDiff, Nat.reduceBEq, Nat.reduceAdd, reduceIte, ↓reduceIte]
   rfl
  ·rintro j ⟨hj, hk⟩
   have f1 : IntKind.i64.wrap ((j : Int) + 1) = ((j + 1 : Nat) : Int) := by rw [w64 (by omega) (by omega)]; omega
   simp only [intsD, getD_iD, iD, f1, Int.toNat_natCast, List.length_map, Int.reduceLE, Int.reduceLT, Int.reduceGT, Int.reduceGE, Int.reduceBEq, Int.reduceBNe, Int.reduceEq, Int.reduceToNat, Int.reduceSub, Int.reduceAdd, Int.reduceMul, Int.reducePow, Int.reduceNeg, goTG_val, goTG_new, goTG_up, goTG_none, goG_none, goG_new, goG_up, ne_eq, evK, evH, retHF, DRun_mk, runT_nil, runT_none, runT_guard, goT_val, goT_new, goT_store, goTH_true, goTH_false, evO, keys, Option.toList_some, Option.toList_none, nzL_nil, nzL_cons, nz_k, nz_sl, nz_nil, nz_agg, startL, evC, evV, goE_val, goE_new, goE_store, goH_true, goH_false, goG_val, lk_cons, lk_nil, lk_func, lk_int, lk_bool, lk_string, lk_slice, lk_agg, look_mk, St.effOf, eff, effCall, effBinC, isConst, effBin, effUn, effConv, effPick, effNil, effFold, fold1, effLoad, effStore, effFieldAddr, effField, fieldOf, sliceOf, effIndexAddr, effIndex, effLen, effExtract, effSlice, dats, bnd, effBuild, placesOf, effBuildSlice, effMakeSlice, effAppend, srcOf, fillA, chunk, seg, toD, toDs, put, eqAV, fieldsEq, leafEq, strip, unw, allB, selP_or, selP_and, tis, TyD.agg, AV.cells, AV.cell, allCell, vInt, vBool, vStr, subL_nil, subL_cons, upIds, AV.ids, AV.ids.idsL, AObj.ids, drops, Hp.get_cons, get_nil, retF, resL, one, fz, fz.fzL, List.map_cons, List.map_nil, List.nil_append, List.append_nil, List.cons_append, List.all_cons, List.all_nil, List.length_cons, List.length_nil, List.getElem?_cons_zero, List.getElem?_cons_succ, List.getD_cons_zero, List.getD_cons_succ, List.take_succ_cons, List.take_zero, List.drop_succ_cons, List.drop_zero, List.take_nil, List.drop_nil, List.contains_cons, List.contains_nil, Option.getD_some, Option.getD_none, Option.map_some, Option.map_none, if_true, if_false, true_and, and_true, and_self, or_self, or_false, false_or, false_and, and_false, reduceCtorEq, sel_and, sel_or, decide_eq_true_eq, Bool.and_eq_true, Bool.or_eq_true, Bool.and_true, Bool.true_and, Bool.or_false, Bool.false_or, Bool.true_or, Bool.or_true, Bool.not_true, Bool.not_false, Bool.false_eq_true, implies_true, not_false_eq_true, Nat.reduceLT, Nat.reduceEqDiff, Nat.reduceAdd, Nat.reduceMul, Nat.reduceMod, Nat.reduceLeDiff, Nat.reduceBEq, Nat.zero_add, Nat.add_zero, reduceIte, ↓reduceIte, List.not_mem_nil]
   by_cases q : j < a.length
   ·rw [if_pos (by omega)]
    refine ⟨by omega, by omega, by kernel_rfl, ?_⟩
    by_cases e : a.getD j 0 = b.getD j 0
    ·rw [if_neg (by rw [bne_iff_ne]; exact fun h => h e)]
     refine ⟨j + 1, by omega, ⟨by omega, fun k hk2 => ?_⟩, Le.of id [] ?_⟩
     ·by_cases h : k = j
      ·rw [h]; exact e
      ·exact hk k (by omega)
     ·simp only [intsD, Mt_tup, Mt_agg, Mt_fn, forall_eq, forall_eq_or_imp, ne_eq, List.all_cons, List.all_nil, pr, Nat.reduceLeDiff, slR_nil, slR_cons, hpR_nil, hpR_cells, hpR_row, idsR_nil, idsR_cons, mtE_v, mtE_sl, mtE_nil, mtE_refl, mtE_row, mtE_born, mtE_ptr, mtE_rp, mtE_agg, mtE_tup, mtE_fn, mtE_ep, MtL_nil, MtL_cons, Mt_v, Mt_sl, Mt_nil, Mt_refl, Mt_row, Mt_born, Mt_ptr, MtO_cells, MtO_row, liveIds, distinct, Dat.v.injEq, Dat.sl.injEq, Value.int.injEq, Value.bool.injEq, Value.string.injEq, lk_cons, lk_nil, subL_nil, subL_cons, upIds, AV.ids, AV.ids.idsL, AObj.ids, Hp.get_cons, get_nil, allCell, AV.cell, vInt, vBool, vStr, id, true_and, and_true, and_self, List.append_nil, List.nil_append, List.not_mem_nil, List.mem_cons, or_false, false_or, or_self, not_true_eq_false, not_false_eq_true, false_imp_iff, false_implies, List.map_nil, not_false_eq_true, List.contains_cons, List.contains_nil, Bool.or_false, Bool.false_or, Bool.true_or, Bool.or_true, Bool.and_true, Bool.true_and, implies_true, if_true, if_false, reduceCtorEq, Nat.reduceEqDiff, Nat.reduceBEq, Nat.reduceAdd, reduceIte, ↓reduceIte]
    ·rw [if_pos (by rw [bne_iff_ne]; exact e), decide_eq_false (fun h => e (by rw [h]))]
   ·rw [if_neg (by omega)]
    have : a = b := by
     refine List.ext_getElem c fun i h1 h2 => ?_
     have := hk i (by omega)
     rw [List.getD_eq_getElem?_getD, List.getD_eq_getElem?_getD, List.getElem?_eq_getElem h1, List.getElem?_eq_getElem h2] at this
     exact this
    rw [decide_eq_true this]
 ·rw [if_pos (by rw [bne_iff_ne]; omega), decide_eq_false (fun h => c (by rw [h]))]
theorem same_calm : ∀ args sc res, F_same args = some (sc, res) → sc → Calm Try.prog 15 args res := by
 intro args sc res h hs
 unfold F_same at h
 split at h <;> cases h
 rename_i xs ys
 obtain ⟨h1, h2, h3⟩ := hs
 have hq := same_body (xs.map numOf) (ys.map numOf) (by simpa using h3)
 rw [intsD, intsD, ← h1, ← h2] at hq
 exact (Known.none _).calm mixed rfl rfl hq
end Go.Proofs.Ytgbialeahdoelaa.Eng

end
