/- Words and tokens of JSON (jlex), on the small machine. -/
import Derived.Test.YtlhhibhcoefolaaSJx6
import Derived.Test.YtlhhibhcoefolaaSTx
import Derived.Test.YtlhhibhcoefolaaJlexPad
namespace Go.Proofs.Ytlhhibhcoefolaa.Eng
open Go Go.Proofs.Ytlhhibhcoefolaa.Base
set_option maxRecDepth 100000
set_option linter.unusedSimpArgs false
set_option linter.unusedVariables false
def wordF : Nat → List Int → Int × Option Nat
  | 0, t => Jlex.wordTok t
  | 1, t => if t.take 5 = [102, 97, 108, 115, 101] ∧ Jlex.goes (t.drop 5) = false then (10, some 5) else if t.take 4 = [110, 117, 108, 108] ∧ Jlex.goes (t.drop 4) = false then (11, some 4) else (0, none)
  | 2, t => if t.take 4 = [110, 117, 108, 108] ∧ Jlex.goes (t.drop 4) = false then (11, some 4) else (0, none)
  | _, _ => (0, none)
theorem byteOf_num : ∀ l : List Int, (l.map (iD .u8)).map byteOf = l
  | [] => rfl
  | x :: l => by simp only [List.map_cons, byteOf_num l]; rfl
theorem word_cond {l : List Int} (hb : Bytes l) (a n : Nat) (wl : List Int) (hn : wl.length = n) (h0 : 1 ≤ n) (w : ByteArray) (hw : sB w = wl) :
    (((a + n : Nat) : Int) ≤ (l.length : Int) ∧ ((strOfNums (((l.map (iD .u8)).drop a).take (a + n - a) |>.map byteOf)).toList == w.toList) = true) ∧ (!oneV goB l (a + n)) = true ↔ (l.drop a).take n = wl ∧ Jlex.goes ((l.drop a).drop n) = false := by
  rw [eq_sB, hw, ← List.map_drop, ← List.map_take, byteOf_num, sB_str (fun x hx => hb x (List.mem_of_mem_drop (List.mem_of_mem_take hx))), oneV_goes hb, List.drop_drop, show a + n - a = n by omega]
  simp only [decide_eq_true_eq, Bool.not_eq_true']
  constructor
  · exact fun h => ⟨h.1.2, h.2⟩
  · refine fun h => ⟨⟨?_, h.1⟩, h.2⟩
    have := congrArg List.length h.1
    rw [List.length_take, List.length_drop] at this
    omega
theorem wordF_0 (t : List Int) : wordF 0 t = if t.take 4 = [116, 114, 117, 101] ∧ Jlex.goes (t.drop 4) = false then (9, some 4) else wordF 1 t := rfl
theorem wordF_1 (t : List Int) : wordF 1 t = if t.take 5 = [102, 97, 108, 115, 101] ∧ Jlex.goes (t.drop 5) = false then (10, some 5) else wordF 2 t := rfl
theorem wordF_2 (t : List Int) : wordF 2 t = if t.take 4 = [110, 117, 108, 108] ∧ Jlex.goes (t.drop 4) = false then (11, some 4) else wordF 3 t := rfl
def wordsR : List (List Dat) := [[.v (.string ⟨#[116, 114, 117, 101]⟩)], [.v (.string ⟨#[102, 97, 108, 115, 101]⟩)], [.v (.string ⟨#[110, 117, 108, 108]⟩)]]
noncomputable def G_wdj : Gam := (Gam.none.add 36 fun a => F_endj (NT.nz.nzL [.s 1] a))
theorem known_G_wdj : Known Try.prog G_wdj := (Known.none _).addC _ endj_calm
theorem G_wdj_at : (∀ h d a, G_wdj 36 h d a = calmE (fun a => F_endj (NT.nz.nzL [.s 1] a)) h a) := fun _ _ _ => rfl
theorem wdj_body (l : List Int) (hb : Bytes l) (a : Nat) (hl : l.length ≤ 100000000) (ha : a ≤ l.length) : Body Try.prog G_wdj (DRun Try.prog G_wdj) 25 [.d (bytesD l), vInt .i64 a] (.tup [vInt .i64 (Jlex.wordTok (l.drop a)).1, vInt .i64 (ansN a (Jlex.wordTok (l.drop a)).2)]) := by
  refine Body.of Try.func25 Try.ntmps25 (by kernel_rfl) rfl rfl rfl ?_
  have nz1 : ∀ xs, (NT.s 1).nz (.d (.sl 1 xs)) = .d (.sl 1 xs) := fun xs => rfl
  simp only [bytesD, num_iD, nz1, G_wdj_at, calmE, F_endj, Int.toNat_natCast, AV.flat, AV.flat.flatL, List.length_map, Int.reduceLE, Int.reduceLT, Int.reduceGT, Int.reduceGE, Int.reduceBEq, Int.reduceBNe, Int.reduceEq, Int.reduceToNat, Int.reduceSub, Int.reduceAdd, Int.reduceMul, Int.reducePow, Int.reduceNeg, goTG_val, goTG_new, goTG_up, goTG_none, goG_none, goG_new, goG_up, ne_eq, evK, evH, retHF, DRun_mk, runT_nil, runT_none, runT_guard, goT_val, goT_new, goT_store, goTH_true, goTH_false, evO, keys, Option.toList_some, Option.toList_none, nzL_nil, nzL_cons, nz_k, nz_sl, nz_nil, nz_agg, startL, evC, evV, goE_val, goE_new, goE_store, goH_true, goH_false, goG_val, lk_cons, lk_nil, lk_func, lk_int, lk_bool, lk_string, lk_slice, lk_agg, look_mk, St.effOf, eff, effCall, effBinC, isConst, effBin, effUn, effConv, effPick, effNil, effFold, fold1, effLoad, effStore, effFieldAddr, effField, fieldOf, sliceOf, effIndexAddr, effIndex, effLen, effExtract, effSlice, dats, bnd, effBuild, placesOf, effBuildSlice, effMakeSlice, effAppend, srcOf, fillA, chunk, seg, toD, toDs, put, eqAV, fieldsEq, leafEq, strip, unw, allB, selP_or, selP_and, tis, TyD.agg, AV.cells, AV.cell, allCell, vInt, vBool, vStr, subL_nil, subL_cons, upIds, AV.ids, AV.ids.idsL, AObj.ids, drops, Hp.get_cons, get_nil, retF, resL, one, fz, fz.fzL, List.map_cons, List.map_nil, List.nil_append, List.append_nil, List.cons_append, List.all_cons, List.all_nil, List.length_cons, List.length_nil, List.getElem?_cons_zero, List.getElem?_cons_succ, List.getD_cons_zero, List.getD_cons_succ, List.take_succ_cons, List.take_zero, List.drop_succ_cons, List.drop_zero, List.take_nil, List.drop_nil, List.contains_cons, List.contains_nil, Option.getD_some, Option.getD_none, Option.map_some, Option.map_none, if_true, if_false, true_and, and_true, and_self, or_self, or_false, false_or, false_and, and_false, reduceCtorEq, sel_and, sel_or, decide_eq_true_eq, Bool.and_eq_true, Bool.or_eq_true, Bool.and_true, Bool.true_and, Bool.or_false, Bool.false_or, Bool.true_or, Bool.or_true, Bool.not_true, Bool.not_false, Bool.false_eq_true, implies_true, not_false_eq_true, Nat.reduceLT, Nat.reduceEqDiff, Nat.reduceAdd, Nat.reduceMul, Nat.reduceMod, Nat.reduceLeDiff, Nat.reduceBEq, Nat.zero_add, Nat.add_zero, reduceIte, ↓reduceIte, List.not_mem_nil]
  refine wpc_loop (fun k : Nat => ⟨42, [100], [(0, .d (bytesD l)), (1, vInt .i64 a), (9, .row 100 3), (10, vInt .i64 3), (11, vInt .i64 k)], [(100, some (.row 9 1 wordsR))]⟩) (fun k => k ≤ 3 ∧ wordF k (l.drop a) = Jlex.wordTok (l.drop a)) (fun k => 3 - k) 0 ⟨by omega, rfl⟩ ?_ ?_
  · refine Le.of (fun _ => 9) [] ?_
    simp only [bytesD, wordsR, Mt_tup, Mt_agg, Mt_fn, forall_eq, forall_eq_or_imp, ne_eq, List.all_cons, List.all_nil, pr, Nat.reduceLeDiff, slR_nil, slR_cons, hpR_nil, hpR_cells, hpR_row, idsR_nil, idsR_cons, mtE_v, mtE_sl, mtE_nil, mtE_refl, mtE_row, mtE_born, mtE_ptr, mtE_rp, mtE_agg, mtE_tup, mtE_fn, mtE_ep, MtL_nil, MtL_cons, Mt_v, Mt_sl, Mt_nil, Mt_refl, Mt_row, Mt_born, Mt_ptr, MtO_cells, MtO_row, liveIds, distinct, Dat.v.injEq, Dat.sl.injEq, Value.int.injEq, Value.bool.injEq, Value.string.injEq, lk_cons, lk_nil, subL_nil, subL_cons, upIds, AV.ids, AV.ids.idsL, AObj.ids, Hp.get_cons, get_nil, allCell, AV.cell, vInt, vBool, vStr, id, true_and, and_true, and_self, List.append_nil, List.nil_append, List.not_mem_nil, List.mem_cons, or_false, false_or, or_self, not_true_eq_false, not_false_eq_true, false_imp_iff, false_implies, List.map_nil, not_false_eq_true, List.contains_cons, List.contains_nil, Bool.or_false, Bool.false_or, Bool.true_or, Bool.or_true, Bool.and_true, Bool.true_and, implies_true, if_true, if_false, reduceCtorEq, Nat.reduceEqDiff, Nat.reduceBEq, Nat.reduceAdd, reduceIte, ↓reduceIte]
    exact ⟨rfl, rfl⟩
  · rintro k ⟨hk, hr⟩
    obtain rfl | rfl | rfl | rfl : k = 0 ∨ k = 1 ∨ k = 2 ∨ k = 3 := by omega
    · simp only [bytesD, wordsR, getD_iD, iD, num_iD, nz1, G_wdj_at, calmE, F_endj, Int.toNat_natCast, AV.flat, AV.flat.flatL, List.length_map, Int.ofNat_zero, Int.cast_ofNat_Int, Int.reduceLE, Int.reduceLT, Int.reduceGT, Int.reduceGE, Int.reduceBEq, Int.reduceBNe, Int.reduceEq, Int.reduceToNat, Int.reduceSub, Int.reduceAdd, Int.reduceMul, Int.reducePow, Int.reduceNeg, goTG_val, goTG_new, goTG_up, goTG_none, goG_none, goG_new, goG_up, ne_eq, evK, evH, retHF, DRun_mk, runT_nil, runT_none, runT_guard, goT_val, goT_new, goT_store, goTH_true, goTH_false, evO, keys, Option.toList_some, Option.toList_none, nzL_nil, nzL_cons, nz_k, nz_sl, nz_nil, nz_agg, startL, evC, evV, goE_val, goE_new, goE_store, goH_true, goH_false, goG_val, lk_cons, lk_nil, lk_func, lk_int, lk_bool, lk_string, lk_slice, lk_agg, look_mk, St.effOf, eff, effCall, effBinC, isConst, effBin, effUn, effConv, effPick, effNil, effFold, fold1, effLoad, effStore, effFieldAddr, effField, fieldOf, sliceOf, effIndexAddr, effIndex, effLen, effExtract, effSlice, dats, bnd, effBuild, placesOf, effBuildSlice, effMakeSlice, effAppend, srcOf, fillA, chunk, seg, toD, toDs, put, eqAV, fieldsEq, leafEq, strip, unw, allB, selP_or, selP_and, tis, TyD.agg, AV.cells, AV.cell, allCell, vInt, vBool, vStr, subL_nil, subL_cons, upIds, AV.ids, AV.ids.idsL, AObj.ids, drops, Hp.get_cons, get_nil, retF, resL, one, fz, fz.fzL, List.map_cons, List.map_nil, List.nil_append, List.append_nil, List.cons_append, List.all_cons, List.all_nil, List.length_cons, List.length_nil, List.getElem?_cons_zero, List.getElem?_cons_succ, List.getD_cons_zero, List.getD_cons_succ, List.take_succ_cons, List.take_zero, List.drop_succ_cons, List.drop_zero, List.take_nil, List.drop_nil, List.contains_cons, List.contains_nil, Option.getD_some, Option.getD_none, Option.map_some, Option.map_none, if_true, if_false, true_and, and_true, and_self, or_self, or_false, false_or, false_and, and_false, reduceCtorEq, sel_and, sel_or, decide_eq_true_eq, Bool.and_eq_true, Bool.or_eq_true, Bool.and_true, Bool.true_and, Bool.or_false, Bool.false_or, Bool.true_or, Bool.or_true, Bool.not_true, Bool.not_false, Bool.false_eq_true, implies_true, not_false_eq_true, Nat.reduceLT, Nat.reduceEqDiff, Nat.reduceAdd, Nat.reduceMul, Nat.reduceMod, Nat.reduceLeDiff, Nat.reduceBEq, Nat.zero_add, Nat.add_zero, reduceIte, ↓reduceIte, List.not_mem_nil]
      have ew : IntKind.i64.wrap ((a : Int) + (ByteArray.size ⟨#[116, 114, 117, 101]⟩ : Nat)) = ((a + 4 : Nat) : Int) := by rw [show (ByteArray.size ⟨#[116, 114, 117, 101]⟩ : Nat) = 4 from rfl, w64 (by omega) (by omega)]; omega
      have hw := word_cond hb a 4 [116, 114, 117, 101] rfl (by decide) ⟨#[116, 114, 117, 101]⟩ (by decide +kernel)
      simp only [ew, Int.toNat_natCast]
      refine ⟨fun h => ⟨by omega, by omega, h⟩, fun h r hr => ?_, fun h => ⟨by omega, by omega⟩, ?_⟩
      · obtain ⟨c, -, rfl⟩ := List.mem_map.1 (List.mem_of_mem_drop (List.mem_of_mem_take hr))
        rfl
      rw [← hr]
      by_cases hc : (l.drop a).take 4 = [116, 114, 117, 101] ∧ Jlex.goes ((l.drop a).drop 4) = false
      · rw [if_pos (hw.2 hc)]
        rw [wordF_0, if_pos hc]
        rw [w64 (by omega) (by omega)]
        exact Sub.refl _
      · rw [if_neg (fun h => hc (hw.1 h))]
        refine ⟨1, by omega, ⟨by omega, ?_⟩, Le.of id [] ?_⟩
        · rw [wordF_0, if_neg hc]
        · simp only [bytesD, wordsR, Mt_tup, Mt_agg, Mt_fn, forall_eq, forall_eq_or_imp, ne_eq, List.all_cons, List.all_nil, pr, Nat.reduceLeDiff, slR_nil, slR_cons, hpR_nil, hpR_cells, hpR_row, idsR_nil, idsR_cons, mtE_v, mtE_sl, mtE_nil, mtE_refl, mtE_row, mtE_born, mtE_ptr, mtE_rp, mtE_agg, mtE_tup, mtE_fn, mtE_ep, MtL_nil, MtL_cons, Mt_v, Mt_sl, Mt_nil, Mt_refl, Mt_row, Mt_born, Mt_ptr, MtO_cells, MtO_row, liveIds, distinct, Dat.v.injEq, Dat.sl.injEq, Value.int.injEq, Value.bool.injEq, Value.string.injEq, lk_cons, lk_nil, subL_nil, subL_cons, upIds, AV.ids, AV.ids.idsL, AObj.ids, Hp.get_cons, get_nil, allCell, AV.cell, vInt, vBool, vStr, id, true_and, and_true, and_self, List.append_nil, List.nil_append, List.not_mem_nil, List.mem_cons, or_false, false_or, or_self, not_true_eq_false, not_false_eq_true, false_imp_iff, false_implies, List.map_nil, not_false_eq_true, List.contains_cons, List.contains_nil, Bool.or_false, Bool.false_or, Bool.true_or, Bool.or_true, Bool.and_true, Bool.true_and, implies_true, if_true, if_false, reduceCtorEq, Nat.reduceEqDiff, Nat.reduceBEq, Nat.reduceAdd, reduceIte, ↓reduceIte]
          rw [w64 (by omega) (by omega)]; rfl
    · simp only [bytesD, wordsR, getD_iD, iD, num_iD, nz1, G_wdj_at, calmE, F_endj, Int.toNat_natCast, AV.flat, AV.flat.flatL, List.length_map, Int.ofNat_zero, Int.cast_ofNat_Int, Int.reduceLE, Int.reduceLT, Int.reduceGT, Int.reduceGE, Int.reduceBEq, Int.reduceBNe, Int.reduceEq, Int.reduceToNat, Int.reduceSub, Int.reduceAdd, Int.reduceMul, Int.reducePow, Int.reduceNeg, goTG_val, goTG_new, goTG_up, goTG_none, goG_none, goG_new, goG_up, ne_eq, evK, evH, retHF, DRun_mk, runT_nil, runT_none, runT_guard, goT_val, goT_new, goT_store, goTH_true, goTH_false, evO, keys, Option.toList_some, Option.toList_none, nzL_nil, nzL_cons, nz_k, nz_sl, nz_nil, nz_agg, startL, evC, evV, goE_val, goE_new, goE_store, goH_true, goH_false, goG_val, lk_cons, lk_nil, lk_func, lk_int, lk_bool, lk_string, lk_slice, lk_agg, look_mk, St.effOf, eff, effCall, effBinC, isConst, effBin, effUn, effConv, effPick, effNil, effFold, fold1, effLoad, effStore, effFieldAddr, effField, fieldOf, sliceOf, effIndexAddr, effIndex, effLen, effExtract, effSlice, dats, bnd, effBuild, placesOf, effBuildSlice, effMakeSlice, effAppend, srcOf, fillA, chunk, seg, toD, toDs, put, eqAV, fieldsEq, leafEq, strip, unw, allB, selP_or, selP_and, tis, TyD.agg, AV.cells, AV.cell, allCell, vInt, vBool, vStr, subL_nil, subL_cons, upIds, AV.ids, AV.ids.idsL, AObj.ids, drops, Hp.get_cons, get_nil, retF, resL, one, fz, fz.fzL, List.map_cons, List.map_nil, List.nil_append, List.append_nil, List.cons_append, List.all_cons, List.all_nil, List.length_cons, List.length_nil, List.getElem?_cons_zero, List.getElem?_cons_succ, List.getD_cons_zero, List.getD_cons_succ, List.take_succ_cons, List.take_zero, List.drop_succ_cons, List.drop_zero, List.take_nil, List.drop_nil, List.contains_cons, List.contains_nil, Option.getD_some, Option.getD_none, Option.map_some, Option.map_none, if_true, if_false, true_and, and_true, and_self, or_self, or_false, false_or, false_and, and_false, reduceCtorEq, sel_and, sel_or, decide_eq_true_eq, Bool.and_eq_true, Bool.or_eq_true, Bool.and_true, Bool.true_and, Bool.or_false, Bool.false_or, Bool.true_or, Bool.or_true, Bool.not_true, Bool.not_false, Bool.false_eq_true, implies_true, not_false_eq_true, Nat.reduceLT, Nat.reduceEqDiff, Nat.reduceAdd, Nat.reduceMul, Nat.reduceMod, Nat.reduceLeDiff, Nat.reduceBEq, Nat.zero_add, Nat.add_zero, reduceIte, ↓reduceIte, List.not_mem_nil]
      have ew : IntKind.i64.wrap ((a : Int) + (ByteArray.size ⟨#[102, 97, 108, 115, 101]⟩ : Nat)) = ((a + 5 : Nat) : Int) := by rw [show (ByteArray.size ⟨#[102, 97, 108, 115, 101]⟩ : Nat) = 5 from rfl, w64 (by omega) (by omega)]; omega
      have hw := word_cond hb a 5 [102, 97, 108, 115, 101] rfl (by decide) ⟨#[102, 97, 108, 115, 101]⟩ (by decide +kernel)
      simp only [ew, Int.toNat_natCast]
      refine ⟨fun h => ⟨by omega, by omega, h⟩, fun h r hr => ?_, fun h => ⟨by omega, by omega⟩, ?_⟩
      · obtain ⟨c, -, rfl⟩ := List.mem_map.1 (List.mem_of_mem_drop (List.mem_of_mem_take hr))
        rfl
      rw [← hr]
      by_cases hc : (l.drop a).take 5 = [102, 97, 108, 115, 101] ∧ Jlex.goes ((l.drop a).drop 5) = false
      · rw [if_pos (hw.2 hc)]
        rw [wordF_1, if_pos hc]
        rw [w64 (by omega) (by omega)]
        exact Sub.refl _
      · rw [if_neg (fun h => hc (hw.1 h))]
        refine ⟨2, by omega, ⟨by omega, ?_⟩, Le.of id [] ?_⟩
        · rw [wordF_1, if_neg hc]
        · simp only [bytesD, wordsR, Mt_tup, Mt_agg, Mt_fn, forall_eq, forall_eq_or_imp, ne_eq, List.all_cons, List.all_nil, pr, Nat.reduceLeDiff, slR_nil, slR_cons, hpR_nil, hpR_cells, hpR_row, idsR_nil, idsR_cons, mtE_v, mtE_sl, mtE_nil, mtE_refl, mtE_row, mtE_born, mtE_ptr, mtE_rp, mtE_agg, mtE_tup, mtE_fn, mtE_ep, MtL_nil, MtL_cons, Mt_v, Mt_sl, Mt_nil, Mt_refl, Mt_row, Mt_born, Mt_ptr, MtO_cells, MtO_row, liveIds, distinct, Dat.v.injEq, Dat.sl.injEq, Value.int.injEq, Value.bool.injEq, Value.string.injEq, lk_cons, lk_nil, subL_nil, subL_cons, upIds, AV.ids, AV.ids.idsL, AObj.ids, Hp.get_cons, get_nil, allCell, AV.cell, vInt, vBool, vStr, id, true_and, and_true, and_self, List.append_nil, List.nil_append, List.not_mem_nil, List.mem_cons, or_false, false_or, or_self, not_true_eq_false, not_false_eq_true, false_imp_iff, false_implies, List.map_nil, not_false_eq_true, List.contains_cons, List.contains_nil, Bool.or_false, Bool.false_or, Bool.true_or, Bool.or_true, Bool.and_true, Bool.true_and, implies_true, if_true, if_false, reduceCtorEq, Nat.reduceEqDiff, Nat.reduceBEq, Nat.reduceAdd, reduceIte, ↓reduceIte]
          rw [w64 (by omega) (by omega)]; rfl
    · simp only [bytesD, wordsR, getD_iD, iD, num_iD, nz1, G_wdj_at, calmE, F_endj, Int.toNat_natCast, AV.flat, AV.flat.flatL, List.length_map, Int.ofNat_zero, Int.cast_ofNat_Int, Int.reduceLE, Int.reduceLT, Int.reduceGT, Int.reduceGE, Int.reduceBEq, Int.reduceBNe, Int.reduceEq, Int.reduceToNat, Int.reduceSub, Int.reduceAdd, Int.reduceMul, Int.reducePow, Int.reduceNeg, goTG_val, goTG_new, goTG_up, goTG_none, goG_none, goG_new, goG_up, ne_eq, evK, evH, retHF, DRun_mk, runT_nil, runT_none, runT_guard, goT_val, goT_new, goT_store, goTH_true, goTH_false, evO, keys, Option.toList_some, Option.toList_none, nzL_nil, nzL_cons, nz_k, nz_sl, nz_nil, nz_agg, startL, evC, evV, goE_val, goE_new, goE_store, goH_true, goH_false, goG_val, lk_cons, lk_nil, lk_func, lk_int, lk_bool, lk_string, lk_slice, lk_agg, look_mk, St.effOf, eff, effCall, effBinC, isConst, effBin, effUn, effConv, effPick, effNil, effFold, fold1, effLoad, effStore, effFieldAddr, effField, fieldOf, sliceOf, effIndexAddr, effIndex, effLen, effExtract, effSlice, dats, bnd, effBuild, placesOf, effBuildSlice, effMakeSlice, effAppend, srcOf, fillA, chunk, seg, toD, toDs, put, eqAV, fieldsEq, leafEq, strip, unw, allB, selP_or, selP_and, tis, TyD.agg, AV.cells, AV.cell, allCell, vInt, vBool, vStr, subL_nil, subL_cons, upIds, AV.ids, AV.ids.idsL, AObj.ids, drops, Hp.get_cons, get_nil, retF, resL, one, fz, fz.fzL, List.map_cons, List.map_nil, List.nil_append, List.append_nil, List.cons_append, List.all_cons, List.all_nil, List.length_cons, List.length_nil, List.getElem?_cons_zero, List.getElem?_cons_succ, List.getD_cons_zero, List.getD_cons_succ, List.take_succ_cons, List.take_zero, List.drop_succ_cons, List.drop_zero, List.take_nil, List.drop_nil, List.contains_cons, List.contains_nil, Option.getD_some, Option.getD_none, Option.map_some, Option.map_none, if_true, if_false, true_and, and_true, and_self, or_self, or_false, false_or, false_and, and_false, reduceCtorEq, sel_and, sel_or, decide_eq_true_eq, Bool.and_eq_true, Bool.or_eq_true, Bool.and_true, Bool.true_and, Bool.or_false, Bool.false_or, Bool.true_or, Bool.or_true, Bool.not_true, Bool.not_false, Bool.false_eq_true, implies_true, not_false_eq_true, Nat.reduceLT, Nat.reduceEqDiff, Nat.reduceAdd, Nat.reduceMul, Nat.reduceMod, Nat.reduceLeDiff, Nat.reduceBEq, Nat.zero_add, Nat.add_zero, reduceIte, ↓reduceIte, List.not_mem_nil]
      have ew : IntKind.i64.wrap ((a : Int) + (ByteArray.size ⟨#[110, 117, 108, 108]⟩ : Nat)) = ((a + 4 : Nat) : Int) := by rw [show (ByteArray.size ⟨#[110, 117, 108, 108]⟩ : Nat) = 4 from rfl, w64 (by omega) (by omega)]; omega
      have hw := word_cond hb a 4 [110, 117, 108, 108] rfl (by decide) ⟨#[110, 117, 108, 108]⟩ (by decide +kernel)
      simp only [ew, Int.toNat_natCast]
      refine ⟨fun h => ⟨by omega, by omega, h⟩, fun h r hr => ?_, fun h => ⟨by omega, by omega⟩, ?_⟩
      · obtain ⟨c, -, rfl⟩ := List.mem_map.1 (List.mem_of_mem_drop (List.mem_of_mem_take hr))
        rfl
      rw [← hr]
      by_cases hc : (l.drop a).take 4 = [110, 117, 108, 108] ∧ Jlex.goes ((l.drop a).drop 4) = false
      · rw [if_pos (hw.2 hc)]
        rw [wordF_2, if_pos hc]
        rw [w64 (by omega) (by omega)]
        exact Sub.refl _
      · rw [if_neg (fun h => hc (hw.1 h))]
        refine ⟨3, by omega, ⟨by omega, ?_⟩, Le.of id [] ?_⟩
        · rw [wordF_2, if_neg hc]
        · simp only [bytesD, wordsR, Mt_tup, Mt_agg, Mt_fn, forall_eq, forall_eq_or_imp, ne_eq, List.all_cons, List.all_nil, pr, Nat.reduceLeDiff, slR_nil, slR_cons, hpR_nil, hpR_cells, hpR_row, idsR_nil, idsR_cons, mtE_v, mtE_sl, mtE_nil, mtE_refl, mtE_row, mtE_born, mtE_ptr, mtE_rp, mtE_agg, mtE_tup, mtE_fn, mtE_ep, MtL_nil, MtL_cons, Mt_v, Mt_sl, Mt_nil, Mt_refl, Mt_row, Mt_born, Mt_ptr, MtO_cells, MtO_row, liveIds, distinct, Dat.v.injEq, Dat.sl.injEq, Value.int.injEq, Value.bool.injEq, Value.string.injEq, lk_cons, lk_nil, subL_nil, subL_cons, upIds, AV.ids, AV.ids.idsL, AObj.ids, Hp.get_cons, get_nil, allCell, AV.cell, vInt, vBool, vStr, id, true_and, and_true, and_self, List.append_nil, List.nil_append, List.not_mem_nil, List.mem_cons, or_false, false_or, or_self, not_true_eq_false, not_false_eq_true, false_imp_iff, false_implies, List.map_nil, not_false_eq_true, List.contains_cons, List.contains_nil, Bool.or_false, Bool.false_or, Bool.true_or, Bool.or_true, Bool.and_true, Bool.true_and, implies_true, if_true, if_false, reduceCtorEq, Nat.reduceEqDiff, Nat.reduceBEq, Nat.reduceAdd, reduceIte, ↓reduceIte]
          rw [w64 (by omega) (by omega)]; rfl
    · simp only [bytesD, wordsR, getD_iD, iD, num_iD, nz1, G_wdj_at, calmE, F_endj, Int.toNat_natCast, AV.flat, AV.flat.flatL, List.length_map, Int.ofNat_zero, Int.cast_ofNat_Int, Int.reduceLE, Int.reduceLT, Int.reduceGT, Int.reduceGE, Int.reduceBEq, Int.reduceBNe, Int.reduceEq, Int.reduceToNat, Int.reduceSub, Int.reduceAdd, Int.reduceMul, Int.reducePow, Int.reduceNeg, goTG_val, goTG_new, goTG_up, goTG_none, goG_none, goG_new, goG_up, ne_eq, evK, evH, retHF, DRun_mk, runT_nil, runT_none, runT_guard, goT_val, goT_new, goT_store, goTH_true, goTH_false, evO, keys, Option.toList_some, Option.toList_none, nzL_nil, nzL_cons, nz_k, nz_sl, nz_nil, nz_agg, startL, evC, evV, goE_val, goE_new, goE_store, goH_true, goH_false, goG_val, lk_cons, lk_nil, lk_func, lk_int, lk_bool, lk_string, lk_slice, lk_agg, look_mk, St.effOf, eff, effCall, effBinC, isConst, effBin, effUn, effConv, effPick, effNil, effFold, fold1, effLoad, effStore, effFieldAddr, effField, fieldOf, sliceOf, effIndexAddr, effIndex, effLen, effExtract, effSlice, dats, bnd, effBuild, placesOf, effBuildSlice, effMakeSlice, effAppend, srcOf, fillA, chunk, seg, toD, toDs, put, eqAV, fieldsEq, leafEq, strip, unw, allB, selP_or, selP_and, tis, TyD.agg, AV.cells, AV.cell, allCell, vInt, vBool, vStr, subL_nil, subL_cons, upIds, AV.ids, AV.ids.idsL, AObj.ids, drops, Hp.get_cons, get_nil, retF, resL, one, fz, fz.fzL, List.map_cons, List.map_nil, List.nil_append, List.append_nil, List.cons_append, List.all_cons, List.all_nil, List.length_cons, List.length_nil, List.getElem?_cons_zero, List.getElem?_cons_succ, List.getD_cons_zero, List.getD_cons_succ, List.take_succ_cons, List.take_zero, List.drop_succ_cons, List.drop_zero, List.take_nil, List.drop_nil, List.contains_cons, List.contains_nil, Option.getD_some, Option.getD_none, Option.map_some, Option.map_none, if_true, if_false, true_and, and_true, and_self, or_self, or_false, false_or, false_and, and_false, reduceCtorEq, sel_and, sel_or, decide_eq_true_eq, Bool.and_eq_true, Bool.or_eq_true, Bool.and_true, Bool.true_and, Bool.or_false, Bool.false_or, Bool.true_or, Bool.or_true, Bool.not_true, Bool.not_false, Bool.false_eq_true, implies_true, not_false_eq_true, Nat.reduceLT, Nat.reduceEqDiff, Nat.reduceAdd, Nat.reduceMul, Nat.reduceMod, Nat.reduceLeDiff, Nat.reduceBEq, Nat.zero_add, Nat.add_zero, reduceIte, ↓reduceIte, List.not_mem_nil]
      rw [← hr]
      exact Sub.refl _
def F_wdj : List AV → Option (Prop × AV)
  | [.d (.sl 1 xs), .d (.v (.int .i64 a))] => some (xs = (xs.map numOf).map (iD .u8) ∧ Bytes (xs.map numOf) ∧ xs.length ≤ 100000000 ∧ 0 ≤ a ∧ a ≤ xs.length, .tup [vInt .i64 (Jlex.wordTok ((xs.map numOf).drop a.toNat)).1, vInt .i64 (ansN a.toNat (Jlex.wordTok ((xs.map numOf).drop a.toNat)).2)])
  | _ => none
theorem wdj_calm : ∀ args sc res, F_wdj args = some (sc, res) → sc → Calm Try.prog 25 args res := by
  intro args sc res h hs
  unfold F_wdj at h
  split at h <;> cases h
  rename_i xs a
  obtain ⟨h1, hb, h2, h3, h4⟩ := hs
  obtain ⟨k, rfl⟩ := Int.eq_ofNat_of_zero_le h3
  have hq := wdj_body (xs.map numOf) hb k (by simpa using h2) (by simpa using h4)
  rw [bytesD, ← h1] at hq
  exact known_G_wdj.calm mixed rfl rfl hq
/-- The token's sign, among the signs. -/
theorem sign_ix {c : Int} (h : 0 ≤ c ∧ c < 256) : Lib.indexByte [123, 125, 91, 93, 58, 44] c.toNat.toUInt8 = (match Jlex.sign c with | some k => k - 1 | none => -1) := fin_int (p := fun c => Lib.indexByte [123, 125, 91, 93, 58, 44] c.toNat.toUInt8 = (match Jlex.sign c with | some k => k - 1 | none => -1)) (by decide +kernel) h
def tokD (k f t : Int) : AV := .agg [vInt .i64 k, vInt .i64 f, vInt .i64 t]
noncomputable def G_tkj : Gam := (((((Gam.none.add 21 fun a => F_ib (NT.nz.nzL [] a)).add 22 fun a => F_txj (NT.nz.nzL [.s 1] a)).add 23 fun a => F_pr digB (NT.nz.nzL [] a)).add 24 fun a => F_nbj (NT.nz.nzL [.s 1] a)).add 25 fun a => F_wdj (NT.nz.nzL [.s 1] a))
theorem known_G_tkj : Known Try.prog G_tkj := (((((Known.none _).addC _ ib_calm).addC _ txj_calm).addC _ digitJ_calm).addC _ nbj_calm).addC _ wdj_calm
theorem G_tkj_at : (∀ h d a, G_tkj 21 h d a = calmE (fun a => F_ib (NT.nz.nzL [] a)) h a) ∧ (∀ h d a, G_tkj 22 h d a = calmE (fun a => F_txj (NT.nz.nzL [.s 1] a)) h a) ∧ (∀ h d a, G_tkj 23 h d a = calmE (fun a => F_pr digB (NT.nz.nzL [] a)) h a) ∧ (∀ h d a, G_tkj 24 h d a = calmE (fun a => F_nbj (NT.nz.nzL [.s 1] a)) h a) ∧ (∀ h d a, G_tkj 25 h d a = calmE (fun a => F_wdj (NT.nz.nzL [.s 1] a)) h a) := ⟨fun _ _ _ => rfl, fun _ _ _ => rfl, fun _ _ _ => rfl, fun _ _ _ => rfl, fun _ _ _ => rfl⟩
theorem tkj_body (l : List Int) (hb : Bytes l) (a : Nat) (hl : l.length ≤ 100000000) (ha : a < l.length) : Body Try.prog G_tkj (DRun Try.prog G_tkj) 14 [.d (bytesD l), vInt .i64 a] (tokD (Jlex.tok (l.drop a)).1 a (ansN a (Jlex.tok (l.drop a)).2)) := by
  refine Body.of Try.func14 Try.ntmps14 (by kernel_rfl) rfl rfl rfl ?_
  have nz1 : ∀ xs, (NT.s 1).nz (.d (.sl 1 xs)) = .d (.sl 1 xs) := fun xs => rfl
  simp only [bytesD, getD_iD, iD, num_iD, nz1, G_tkj_at, calmE, F_ib, F_txj, F_pr, F_nbj, F_wdj, Int.toNat_natCast, AV.flat, AV.flat.flatL, List.length_map, Int.reduceLE, Int.reduceLT, Int.reduceGT, Int.reduceGE, Int.reduceBEq, Int.reduceBNe, Int.reduceEq, Int.reduceToNat, Int.reduceSub, Int.reduceAdd, Int.reduceMul, Int.reducePow, Int.reduceNeg, goTG_val, goTG_new, goTG_up, goTG_none, goG_none, goG_new, goG_up, ne_eq, evK, evH, retHF, DRun_mk, runT_nil, runT_none, runT_guard, goT_val, goT_new, goT_store, goTH_true, goTH_false, evO, keys, Option.toList_some, Option.toList_none, nzL_nil, nzL_cons, nz_k, nz_sl, nz_nil, nz_agg, startL, evC, evV, goE_val, goE_new, goE_store, goH_true, goH_false, goG_val, lk_cons, lk_nil, lk_func, lk_int, lk_bool, lk_string, lk_slice, lk_agg, look_mk, St.effOf, eff, effCall, effBinC, isConst, effBin, effUn, effConv, effPick, effNil, effFold, fold1, effLoad, effStore, effFieldAddr, effField, fieldOf, sliceOf, effIndexAddr, effIndex, effLen, effExtract, effSlice, dats, bnd, effBuild, placesOf, effBuildSlice, effMakeSlice, effAppend, srcOf, fillA, chunk, seg, toD, toDs, put, eqAV, fieldsEq, leafEq, strip, unw, allB, selP_or, selP_and, tis, TyD.agg, AV.cells, AV.cell, allCell, vInt, vBool, vStr, subL_nil, subL_cons, upIds, AV.ids, AV.ids.idsL, AObj.ids, drops, Hp.get_cons, get_nil, retF, resL, one, fz, fz.fzL, List.map_cons, List.map_nil, List.nil_append, List.append_nil, List.cons_append, List.all_cons, List.all_nil, List.length_cons, List.length_nil, List.getElem?_cons_zero, List.getElem?_cons_succ, List.getD_cons_zero, List.getD_cons_succ, List.take_succ_cons, List.take_zero, List.drop_succ_cons, List.drop_zero, List.take_nil, List.drop_nil, List.contains_cons, List.contains_nil, Option.getD_some, Option.getD_none, Option.map_some, Option.map_none, if_true, if_false, true_and, and_true, and_self, or_self, or_false, false_or, false_and, and_false, reduceCtorEq, sel_and, sel_or, decide_eq_true_eq, Bool.and_eq_true, Bool.or_eq_true, Bool.and_true, Bool.true_and, Bool.or_false, Bool.false_or, Bool.true_or, Bool.or_true, Bool.not_true, Bool.not_false, Bool.false_eq_true, implies_true, not_false_eq_true, Nat.reduceLT, Nat.reduceEqDiff, Nat.reduceAdd, Nat.reduceMul, Nat.reduceMod, Nat.reduceLeDiff, Nat.reduceBEq, Nat.zero_add, Nat.add_zero, reduceIte, ↓reduceIte, List.not_mem_nil]
  refine ⟨by omega, ?_⟩
  obtain ⟨c, t, h⟩ : ∃ c t, l.drop a = c :: t := by
    rcases h : l.drop a with _ | ⟨c, t⟩
    · have := List.drop_eq_nil_iff.1 h; omega
    · exact ⟨c, t, rfl⟩
  have hc : l.getD a 0 = c := by
    have h2 : l[a]? = some c := by have := congrArg List.head? h; rwa [List.head?_drop] at this
    rw [List.getD_eq_getElem?_getD, h2]; rfl
  have hcb := byte_at hb h
  simp only [hc, sign_ix hcb, beq_iff_eq, h, drop_tail h]
  unfold Jlex.tok
  rcases hs : Jlex.sign c with _ | k
  · simp only [hs]
    rw [if_neg (by omega)]
    by_cases c1 : c = 34
    · rw [if_pos c1, if_pos c1]
      refine ⟨⟨hb, by omega, by omega, by omega⟩, ?_⟩
      rw [← ansN_map]
      exact Sub.refl _
    rw [if_neg c1, if_neg c1]
    by_cases c2 : c = 45 ∨ digB c = true
    · rw [if_pos c2, if_pos (show c = 45 ∨ Jlex.dig c = true from c2)]
      exact ⟨⟨hb, by omega, by omega, by omega⟩, Sub.refl _⟩
    · rw [if_neg c2, if_neg (show ¬ (c = 45 ∨ Jlex.dig c = true) from c2)]
      exact ⟨⟨hb, by omega, by omega, by omega⟩, Sub.refl _⟩
  · have hk := Jlex.sign_range hs
    simp only [hs]
    rw [if_pos (by omega), w64 (by omega) (by omega), w64 (by omega) (by omega), show 1 + (k - 1) = k by omega]
    exact Sub.refl _
def F_tkj : List AV → Option (Prop × AV)
  | [.d (.sl 1 xs), .d (.v (.int .i64 a))] => some (xs = (xs.map numOf).map (iD .u8) ∧ Bytes (xs.map numOf) ∧ xs.length ≤ 100000000 ∧ 0 ≤ a ∧ a < xs.length, tokD (Jlex.tok ((xs.map numOf).drop a.toNat)).1 a (ansN a.toNat (Jlex.tok ((xs.map numOf).drop a.toNat)).2))
  | _ => none
theorem tkj_calm : ∀ args sc res, F_tkj args = some (sc, res) → sc → Calm Try.prog 14 args res := by
  intro args sc res h hs
  unfold F_tkj at h
  split at h <;> cases h
  rename_i xs a
  obtain ⟨h1, hb, h2, h3, h4⟩ := hs
  obtain ⟨k, rfl⟩ := Int.eq_ofNat_of_zero_le h3
  have hq := tkj_body (xs.map numOf) hb k (by simpa using h2) (by rw [List.length_map]; omega)
  rw [bytesD, ← h1] at hq
  exact known_G_tkj.calm mixed rfl rfl hq
end Go.Proofs.Ytlhhibhcoefolaa.Eng
