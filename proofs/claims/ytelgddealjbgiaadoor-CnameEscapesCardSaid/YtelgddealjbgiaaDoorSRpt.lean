/- The reference's Put, on the small machine. -/
import Derived.Test.YtelgddealjbgiaaDoorSBy
namespace Go.Proofs.YtelgddealjbgiaaDoor.Eng
open Go Go.Proofs.YtelgddealjbgiaaDoor.Base
set_option maxRecDepth 100000
set_option linter.unusedSimpArgs false
set_option linter.unusedVariables false
/-- Put, at a row of one's own: that row is let go, another one is there. -/
def F_RPut (h : Nat → Option AObj) (d : Nat) : List AV → Option Eff
  | [.row o n, .d (.v (.int .i64 r))] => match h o with
    | some (.row e sz xs) => if e = 5 ∧ sz = 1 ∧ n = xs.length then some { sc := xs.length < 140737488355000, val := .row d (xs ++ (Utf.put r).map (iD .u8)).length, up := [(d, some (.row 5 1 (xs ++ (Utf.put r).map (iD .u8)))), (o, none)], new := true } else none
    | _ => none
  | [.d (.v (.slice none 0 0)), .d (.v (.int .i64 r))] => some { sc := True, val := .row d ((Utf.put r).map (iD .u8)).length, up := [(d, some (.row 5 1 ((Utf.put r).map (iD .u8))))], new := true }
  | _ => none
theorem RPut_body (xs : List (List Dat)) (hl : xs.length < 140737488355000) (r : Int) :
    HBody Tryd.prog Gam.none (DRun Tryd.prog Gam.none) 31 [.row 10000 xs.length, .d (.v (.int .i64 r))] [(10000, some (.row 5 1 xs))] (.row 9000 (xs ++ (Utf.put r).map (iD .u8)).length) [(9000, some (.row 5 1 (xs ++ (Utf.put r).map (iD .u8))))] := by
  refine HBody.of Tryd.func31 Tryd.ntmps31 (by kernel_rfl) rfl rfl rfl rfl ?_
  obtain ⟨q, hq⟩ : ∃ q : Int, q = 65533 := ⟨_, rfl⟩
  have hcq : Utf.isCp q := by rw [hq]; decide
  simp only [iD, ← hq, List.length_map, goTG_val, goTG_new, goTG_up, goTG_none, goG_none, goG_new, goG_up, ne_eq, evK, evH, retHF, DRun_mk, runT_nil, runT_none, runT_guard, goT_val, goT_new, goT_store, goTH_true, goTH_false, evO, keys, Option.toList_some, Option.toList_none, nzL_nil, nzL_cons, nz_k, nz_sl, nz_nil, nz_agg, startL, evC, evV, goE_val, goE_new, goE_store, goH_true, goH_false, goG_val, lk_cons, lk_nil, lk_func, lk_int, lk_bool, lk_string, lk_slice, lk_agg, look_mk, St.effOf, eff, effCall, effBinC, isConst, effBin, effUn, effConv, effPick, effNil, effFold, fold1, effLoad, effStore, effFieldAddr, effField, fieldOf, sliceOf, effIndexAddr, effIndex, effLen, effExtract, effSlice, dats, bnd, effBuild, placesOf, effBuildSlice, effMakeSlice, effAppend, srcOf, fillA, chunk, seg, toD, toDs, put, eqAV, fieldsEq, leafEq, strip, unw, allB, selP_or, selP_and, tis, TyD.agg, AV.cells, AV.cell, allCell, vInt, vBool, vStr, subL_nil, subL_cons, upIds, AV.ids, AV.ids.idsL, AObj.ids, drops, Hp.get_cons, get_nil, retF, resL, one, fz, fz.fzL, List.map_cons, List.map_nil, List.nil_append, List.append_nil, List.cons_append, List.all_cons, List.all_nil, List.length_cons, List.length_nil, List.getElem?_cons_zero, List.getElem?_cons_succ, List.getD_cons_zero, List.getD_cons_succ, List.take_succ_cons, List.take_zero, List.drop_succ_cons, List.drop_zero, List.take_nil, List.drop_nil, List.contains_cons, List.contains_nil, Option.getD_some, Option.getD_none, Option.map_some, Option.map_none, if_true, if_false, true_and, and_true, and_self, or_self, or_false, false_or, false_and, and_false, reduceCtorEq, sel_and, sel_or, decide_eq_true_eq, Bool.and_eq_true, Bool.or_eq_true, Bool.and_true, Bool.true_and, Bool.or_false, Bool.false_or, Bool.true_or, Bool.or_true, Bool.not_true, Bool.not_false, Bool.false_eq_true, implies_true, not_false_eq_true, Nat.reduceLT, Nat.reduceEqDiff, Nat.reduceAdd, Nat.reduceMul, Nat.reduceMod, Nat.reduceLeDiff, Nat.reduceBEq, Nat.zero_add, Nat.add_zero, reduceIte, ↓reduceIte, List.not_mem_nil]
  have hc : ((r < 0 ∨ r > 1114111) ∨ r ≥ 55296 ∧ r < 57344) ↔ ¬ Utf.isCp r := by unfold Utf.isCp; omega
  unfold Utf.put Utf.fix
  by_cases hr : Utf.isCp r
  · rw [if_neg (fun h => hc.mp h hr), if_pos hr]
    have hr' := hr
    unfold Utf.isCp at hr'
    have eu : ∀ n : Int, IntKind.u8.wrap n = n % 256 := fun n => by rw [IntKind.wrap_u8]
    have e6 : Int.fdiv r (2 ^ min (Int.toNat 6) IntKind.i64.bits) = r / 64 := by rw [Int.fdiv_eq_ediv_of_nonneg _ (by decide)]; rfl
    have e12 : Int.fdiv r (2 ^ min (Int.toNat 12) IntKind.i64.bits) = r / 4096 := by rw [Int.fdiv_eq_ediv_of_nonneg _ (by decide)]; rfl
    have e18 : Int.fdiv r (2 ^ min (Int.toNat 18) IntKind.i64.bits) = r / 262144 := by rw [Int.fdiv_eq_ediv_of_nonneg _ (by decide)]; rfl
    simp only [eu, e6, e12, e18]
    by_cases c1 : r < 128
    · rw [if_pos c1]
      refine ⟨by omega, fun _ => 26, ?_⟩
      rw [← bytes1 hr c1]
      simp only [List.map_cons, List.map_nil, iD, Mt_tup, Mt_agg, Mt_fn, forall_eq, forall_eq_or_imp, ne_eq, List.all_cons, List.all_nil, pr, Nat.reduceLeDiff, slR_nil, slR_cons, hpR_nil, hpR_cells, hpR_row, idsR_nil, idsR_cons, mtE_v, mtE_sl, mtE_nil, mtE_refl, mtE_row, mtE_born, mtE_ptr, mtE_rp, mtE_agg, mtE_tup, mtE_fn, mtE_ep, MtL_nil, MtL_cons, Mt_v, Mt_sl, Mt_nil, Mt_refl, Mt_row, Mt_born, Mt_ptr, MtO_cells, MtO_row, liveIds, distinct, Dat.v.injEq, Dat.sl.injEq, Value.int.injEq, Value.bool.injEq, Value.string.injEq, lk_cons, lk_nil, subL_nil, subL_cons, upIds, AV.ids, AV.ids.idsL, AObj.ids, Hp.get_cons, get_nil, allCell, AV.cell, vInt, vBool, vStr, id, true_and, and_true, and_self, List.append_nil, List.nil_append, List.not_mem_nil, List.mem_cons, or_false, false_or, or_self, not_true_eq_false, not_false_eq_true, false_imp_iff, false_implies, List.map_nil, not_false_eq_true, List.contains_cons, List.contains_nil, Bool.or_false, Bool.false_or, Bool.true_or, Bool.or_true, Bool.and_true, Bool.true_and, implies_true, if_true, if_false, reduceCtorEq, Nat.reduceEqDiff, Nat.reduceBEq, Nat.reduceAdd, reduceIte, ↓reduceIte]
    rw [if_neg c1]
    by_cases c2 : r < 2048
    · rw [if_pos c2]
      refine ⟨by decide, by omega, fun _ => 40, ?_⟩
      rw [← bytes2 hr (by omega) c2]
      simp only [List.map_cons, List.map_nil, iD, Mt_tup, Mt_agg, Mt_fn, forall_eq, forall_eq_or_imp, ne_eq, List.all_cons, List.all_nil, pr, Nat.reduceLeDiff, slR_nil, slR_cons, hpR_nil, hpR_cells, hpR_row, idsR_nil, idsR_cons, mtE_v, mtE_sl, mtE_nil, mtE_refl, mtE_row, mtE_born, mtE_ptr, mtE_rp, mtE_agg, mtE_tup, mtE_fn, mtE_ep, MtL_nil, MtL_cons, Mt_v, Mt_sl, Mt_nil, Mt_refl, Mt_row, Mt_born, Mt_ptr, MtO_cells, MtO_row, liveIds, distinct, Dat.v.injEq, Dat.sl.injEq, Value.int.injEq, Value.bool.injEq, Value.string.injEq, lk_cons, lk_nil, subL_nil, subL_cons, upIds, AV.ids, AV.ids.idsL, AObj.ids, Hp.get_cons, get_nil, allCell, AV.cell, vInt, vBool, vStr, id, true_and, and_true, and_self, List.append_nil, List.nil_append, List.not_mem_nil, List.mem_cons, or_false, false_or, or_self, not_true_eq_false, not_false_eq_true, false_imp_iff, false_implies, List.map_nil, not_false_eq_true, List.contains_cons, List.contains_nil, Bool.or_false, Bool.false_or, Bool.true_or, Bool.or_true, Bool.and_true, Bool.true_and, implies_true, if_true, if_false, reduceCtorEq, Nat.reduceEqDiff, Nat.reduceBEq, Nat.reduceAdd, reduceIte, ↓reduceIte]
    rw [if_neg c2]
    by_cases c3 : r < 65536
    · rw [if_pos c3]
      refine ⟨by decide, by decide, by omega, fun _ => 59, ?_⟩
      rw [← bytes3 hr (by omega) c3]
      simp only [List.map_cons, List.map_nil, iD, Mt_tup, Mt_agg, Mt_fn, forall_eq, forall_eq_or_imp, ne_eq, List.all_cons, List.all_nil, pr, Nat.reduceLeDiff, slR_nil, slR_cons, hpR_nil, hpR_cells, hpR_row, idsR_nil, idsR_cons, mtE_v, mtE_sl, mtE_nil, mtE_refl, mtE_row, mtE_born, mtE_ptr, mtE_rp, mtE_agg, mtE_tup, mtE_fn, mtE_ep, MtL_nil, MtL_cons, Mt_v, Mt_sl, Mt_nil, Mt_refl, Mt_row, Mt_born, Mt_ptr, MtO_cells, MtO_row, liveIds, distinct, Dat.v.injEq, Dat.sl.injEq, Value.int.injEq, Value.bool.injEq, Value.string.injEq, lk_cons, lk_nil, subL_nil, subL_cons, upIds, AV.ids, AV.ids.idsL, AObj.ids, Hp.get_cons, get_nil, allCell, AV.cell, vInt, vBool, vStr, id, true_and, and_true, and_self, List.append_nil, List.nil_append, List.not_mem_nil, List.mem_cons, or_false, false_or, or_self, not_true_eq_false, not_false_eq_true, false_imp_iff, false_implies, List.map_nil, not_false_eq_true, List.contains_cons, List.contains_nil, Bool.or_false, Bool.false_or, Bool.true_or, Bool.or_true, Bool.and_true, Bool.true_and, implies_true, if_true, if_false, reduceCtorEq, Nat.reduceEqDiff, Nat.reduceBEq, Nat.reduceAdd, reduceIte, ↓reduceIte]
    rw [if_neg c3]
    refine ⟨by decide, by decide, by decide, by omega, fun _ => 80, ?_⟩
    rw [← bytes4 hr (by omega)]
    simp only [List.map_cons, List.map_nil, iD, Mt_tup, Mt_agg, Mt_fn, forall_eq, forall_eq_or_imp, ne_eq, List.all_cons, List.all_nil, pr, Nat.reduceLeDiff, slR_nil, slR_cons, hpR_nil, hpR_cells, hpR_row, idsR_nil, idsR_cons, mtE_v, mtE_sl, mtE_nil, mtE_refl, mtE_row, mtE_born, mtE_ptr, mtE_rp, mtE_agg, mtE_tup, mtE_fn, mtE_ep, MtL_nil, MtL_cons, Mt_v, Mt_sl, Mt_nil, Mt_refl, Mt_row, Mt_born, Mt_ptr, MtO_cells, MtO_row, liveIds, distinct, Dat.v.injEq, Dat.sl.injEq, Value.int.injEq, Value.bool.injEq, Value.string.injEq, lk_cons, lk_nil, subL_nil, subL_cons, upIds, AV.ids, AV.ids.idsL, AObj.ids, Hp.get_cons, get_nil, allCell, AV.cell, vInt, vBool, vStr, id, true_and, and_true, and_self, List.append_nil, List.nil_append, List.not_mem_nil, List.mem_cons, or_false, false_or, or_self, not_true_eq_false, not_false_eq_true, false_imp_iff, false_implies, List.map_nil, not_false_eq_true, List.contains_cons, List.contains_nil, Bool.or_false, Bool.false_or, Bool.true_or, Bool.or_true, Bool.and_true, Bool.true_and, implies_true, if_true, if_false, reduceCtorEq, Nat.reduceEqDiff, Nat.reduceBEq, Nat.reduceAdd, reduceIte, ↓reduceIte]
  · rw [if_pos (hc.mpr hr), if_neg hr, ← hq]
    have hr' := hcq
    unfold Utf.isCp at hr'
    have eu : ∀ n : Int, IntKind.u8.wrap n = n % 256 := fun n => by rw [IntKind.wrap_u8]
    have e6 : Int.fdiv q (2 ^ min (Int.toNat 6) IntKind.i64.bits) = q / 64 := by rw [Int.fdiv_eq_ediv_of_nonneg _ (by decide)]; rfl
    have e12 : Int.fdiv q (2 ^ min (Int.toNat 12) IntKind.i64.bits) = q / 4096 := by rw [Int.fdiv_eq_ediv_of_nonneg _ (by decide)]; rfl
    have e18 : Int.fdiv q (2 ^ min (Int.toNat 18) IntKind.i64.bits) = q / 262144 := by rw [Int.fdiv_eq_ediv_of_nonneg _ (by decide)]; rfl
    simp only [eu, e6, e12, e18]
    by_cases c1 : q < 128
    · rw [if_pos c1]
      refine ⟨by omega, fun _ => 26, ?_⟩
      rw [← bytes1 hcq c1]
      simp only [List.map_cons, List.map_nil, iD, Mt_tup, Mt_agg, Mt_fn, forall_eq, forall_eq_or_imp, ne_eq, List.all_cons, List.all_nil, pr, Nat.reduceLeDiff, slR_nil, slR_cons, hpR_nil, hpR_cells, hpR_row, idsR_nil, idsR_cons, mtE_v, mtE_sl, mtE_nil, mtE_refl, mtE_row, mtE_born, mtE_ptr, mtE_rp, mtE_agg, mtE_tup, mtE_fn, mtE_ep, MtL_nil, MtL_cons, Mt_v, Mt_sl, Mt_nil, Mt_refl, Mt_row, Mt_born, Mt_ptr, MtO_cells, MtO_row, liveIds, distinct, Dat.v.injEq, Dat.sl.injEq, Value.int.injEq, Value.bool.injEq, Value.string.injEq, lk_cons, lk_nil, subL_nil, subL_cons, upIds, AV.ids, AV.ids.idsL, AObj.ids, Hp.get_cons, get_nil, allCell, AV.cell, vInt, vBool, vStr, id, true_and, and_true, and_self, List.append_nil, List.nil_append, List.not_mem_nil, List.mem_cons, or_false, false_or, or_self, not_true_eq_false, not_false_eq_true, false_imp_iff, false_implies, List.map_nil, not_false_eq_true, List.contains_cons, List.contains_nil, Bool.or_false, Bool.false_or, Bool.true_or, Bool.or_true, Bool.and_true, Bool.true_and, implies_true, if_true, if_false, reduceCtorEq, Nat.reduceEqDiff, Nat.reduceBEq, Nat.reduceAdd, reduceIte, ↓reduceIte]
    rw [if_neg c1]
    by_cases c2 : q < 2048
    · rw [if_pos c2]
      refine ⟨by decide, by omega, fun _ => 40, ?_⟩
      rw [← bytes2 hcq (by omega) c2]
      simp only [List.map_cons, List.map_nil, iD, Mt_tup, Mt_agg, Mt_fn, forall_eq, forall_eq_or_imp, ne_eq, List.all_cons, List.all_nil, pr, Nat.reduceLeDiff, slR_nil, slR_cons, hpR_nil, hpR_cells, hpR_row, idsR_nil, idsR_cons, mtE_v, mtE_sl, mtE_nil, mtE_refl, mtE_row, mtE_born, mtE_ptr, mtE_rp, mtE_agg, mtE_tup, mtE_fn, mtE_ep, MtL_nil, MtL_cons, Mt_v, Mt_sl, Mt_nil, Mt_refl, Mt_row, Mt_born, Mt_ptr, MtO_cells, MtO_row, liveIds, distinct, Dat.v.injEq, Dat.sl.injEq, Value.int.injEq, Value.bool.injEq, Value.string.injEq, lk_cons, lk_nil, subL_nil, subL_cons, upIds, AV.ids, AV.ids.idsL, AObj.ids, Hp.get_cons, get_nil, allCell, AV.cell, vInt, vBool, vStr, id, true_and, and_true, and_self, List.append_nil, List.nil_append, List.not_mem_nil, List.mem_cons, or_false, false_or, or_self, not_true_eq_false, not_false_eq_true, false_imp_iff, false_implies, List.map_nil, not_false_eq_true, List.contains_cons, List.contains_nil, Bool.or_false, Bool.false_or, Bool.true_or, Bool.or_true, Bool.and_true, Bool.true_and, implies_true, if_true, if_false, reduceCtorEq, Nat.reduceEqDiff, Nat.reduceBEq, Nat.reduceAdd, reduceIte, ↓reduceIte]
    rw [if_neg c2]
    by_cases c3 : q < 65536
    · rw [if_pos c3]
      refine ⟨by decide, by decide, by omega, fun _ => 59, ?_⟩
      rw [← bytes3 hcq (by omega) c3]
      simp only [List.map_cons, List.map_nil, iD, Mt_tup, Mt_agg, Mt_fn, forall_eq, forall_eq_or_imp, ne_eq, List.all_cons, List.all_nil, pr, Nat.reduceLeDiff, slR_nil, slR_cons, hpR_nil, hpR_cells, hpR_row, idsR_nil, idsR_cons, mtE_v, mtE_sl, mtE_nil, mtE_refl, mtE_row, mtE_born, mtE_ptr, mtE_rp, mtE_agg, mtE_tup, mtE_fn, mtE_ep, MtL_nil, MtL_cons, Mt_v, Mt_sl, Mt_nil, Mt_refl, Mt_row, Mt_born, Mt_ptr, MtO_cells, MtO_row, liveIds, distinct, Dat.v.injEq, Dat.sl.injEq, Value.int.injEq, Value.bool.injEq, Value.string.injEq, lk_cons, lk_nil, subL_nil, subL_cons, upIds, AV.ids, AV.ids.idsL, AObj.ids, Hp.get_cons, get_nil, allCell, AV.cell, vInt, vBool, vStr, id, true_and, and_true, and_self, List.append_nil, List.nil_append, List.not_mem_nil, List.mem_cons, or_false, false_or, or_self, not_true_eq_false, not_false_eq_true, false_imp_iff, false_implies, List.map_nil, not_false_eq_true, List.contains_cons, List.contains_nil, Bool.or_false, Bool.false_or, Bool.true_or, Bool.or_true, Bool.and_true, Bool.true_and, implies_true, if_true, if_false, reduceCtorEq, Nat.reduceEqDiff, Nat.reduceBEq, Nat.reduceAdd, reduceIte, ↓reduceIte]
    rw [if_neg c3]
    refine ⟨by decide, by decide, by decide, by omega, fun _ => 80, ?_⟩
    rw [← bytes4 hcq (by omega)]
    simp only [List.map_cons, List.map_nil, iD, Mt_tup, Mt_agg, Mt_fn, forall_eq, forall_eq_or_imp, ne_eq, List.all_cons, List.all_nil, pr, Nat.reduceLeDiff, slR_nil, slR_cons, hpR_nil, hpR_cells, hpR_row, idsR_nil, idsR_cons, mtE_v, mtE_sl, mtE_nil, mtE_refl, mtE_row, mtE_born, mtE_ptr, mtE_rp, mtE_agg, mtE_tup, mtE_fn, mtE_ep, MtL_nil, MtL_cons, Mt_v, Mt_sl, Mt_nil, Mt_refl, Mt_row, Mt_born, Mt_ptr, MtO_cells, MtO_row, liveIds, distinct, Dat.v.injEq, Dat.sl.injEq, Value.int.injEq, Value.bool.injEq, Value.string.injEq, lk_cons, lk_nil, subL_nil, subL_cons, upIds, AV.ids, AV.ids.idsL, AObj.ids, Hp.get_cons, get_nil, allCell, AV.cell, vInt, vBool, vStr, id, true_and, and_true, and_self, List.append_nil, List.nil_append, List.not_mem_nil, List.mem_cons, or_false, false_or, or_self, not_true_eq_false, not_false_eq_true, false_imp_iff, false_implies, List.map_nil, not_false_eq_true, List.contains_cons, List.contains_nil, Bool.or_false, Bool.false_or, Bool.true_or, Bool.or_true, Bool.and_true, Bool.true_and, implies_true, if_true, if_false, reduceCtorEq, Nat.reduceEqDiff, Nat.reduceBEq, Nat.reduceAdd, reduceIte, ↓reduceIte]
theorem RPut_calm (xs : List (List Dat)) (hl : xs.length < 140737488355000) (r : Int) :
    HCalm Tryd.prog 31 [.row 10000 xs.length, .d (.v (.int .i64 r))] [(10000, some (.row 5 1 xs))] (.row 9000 (xs ++ (Utf.put r).map (iD .u8)).length) [(9000, some (.row 5 1 (xs ++ (Utf.put r).map (iD .u8))))] :=
  (Known.none _).hcalm mixed rfl (RPut_body xs hl r)
theorem RPut_ok {Γ : Gam} (hG : Gok Tryd.prog Γ) : Gok Tryd.prog (Γ.addH 31 F_RPut) := by
  refine hG.addH fun hp d args e he hsc => ?_
  unfold F_RPut at he
  split at he
  case h_3 => cases he
  case h_2 =>
    rename_i r
    cases he
    refine ⟨⟨fun _ => 0, [10000], [.row 10000 ([] : List (List Dat)).length, .d (.v (.int .i64 r))], [(10000, some (.row 5 1 []))], .row 9000 ((Utf.put r).map (iD .u8)).length, [(9000, .row 5 1 ((Utf.put r).map (iD .u8)))], true⟩, rfl, ⟨⟨⟨rfl, by simp, rfl⟩, .inl rfl, trivial⟩, ?_, ?_⟩, ?_, rfl, fun _ => rfl, rfl⟩
    · refine ⟨?_, trivial⟩
      rw [if_pos (by simp)]
    · exact ⟨fun h => absurd (List.mem_singleton.mpr rfl) h, trivial⟩
    · have := RPut_calm [] (by decide) r
      rw [List.nil_append] at this
      exact this
  rename_i o n r
  split at he
  case h_2 => cases he
  rename_i e0 sz xs ho
  split at he
  case isFalse => cases he
  rename_i hc
  obtain ⟨rfl, rfl, rfl⟩ := hc
  cases he
  refine ⟨⟨fun _ => o, [], [.row 10000 xs.length, .d (.v (.int .i64 r))], [(10000, some (.row 5 1 xs))], .row 9000 (xs ++ (Utf.put r).map (iD .u8)).length, [(9000, .row 5 1 (xs ++ (Utf.put r).map (iD .u8)))], true⟩, rfl, ⟨⟨⟨by simp, rfl, rfl⟩, .inl rfl, trivial⟩, ?_, ?_⟩, RPut_calm xs hsc r, rfl, fun _ => rfl, rfl⟩
  · refine ⟨?_, trivial⟩
    rw [if_neg (by simp)]
    simp only [ho]
    exact ⟨rfl, rfl, rfl⟩
  · exact ⟨(fun _ b' hb' => nomatch (show b' ∈ ([] : List Nat) from hb')), trivial⟩
end Go.Proofs.YtelgddealjbgiaaDoor.Eng
