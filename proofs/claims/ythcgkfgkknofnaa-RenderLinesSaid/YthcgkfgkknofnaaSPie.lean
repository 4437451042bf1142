/- Documents, laid out, on the small machine. -/
import Derived.Test.YthcgkfgkknofnaaSStep
namespace Go.Proofs.Ythcgkfgkknofnaa.Eng
open Go Go.Proofs.Ythcgkfgkknofnaa.Base
set_option maxRecDepth 100000
set_option linter.unusedSimpArgs false
set_option linter.unusedVariables false
theorem ren_match {args cargs : List AV} {res : AV} {out : List (Nat × AObj)} {new : Bool} {o : Nat} {hp : Hp} {v : Rv} (hv : renAt hp.get o = some v)
    (hm : Mt.MtL (rsg o v.b v.c) [] args cargs) : HMatch hp args ⟨rsg o v.b v.c, [], cargs, renC v.xs v.col v.w v.i v.ps, res, out, new⟩ := by
  obtain ⟨q1, q2, q3, q4, q5, q6⟩ := renAt_inv hv
  refine ⟨hm, ?_, ?_⟩
  · refine ⟨?_, ?_, ?_, trivial⟩
    · rw [if_neg (by simp)]
      simp only [rsg, show ((10000 : Nat) = 10002) = False by simp, show ((10000 : Nat) = 10001) = False by simp, if_false, q1]
      exact ⟨rfl, ⟨⟨by simp, rfl, rfl⟩, .inl rfl, .inl rfl, .inl rfl, ⟨by simp, rfl, rfl⟩, trivial⟩, rfl⟩
    · rw [if_neg (by simp)]
      simp only [rsg, show ((10001 : Nat) = 10002) = False by simp, if_false, if_true, q2]
      exact ⟨rfl, rfl, rfl⟩
    · rw [if_neg (by simp)]
      simp only [rsg, if_true, q3]
      exact ⟨rfl, rfl, rfl⟩
  · refine ⟨fun _ i hi _ _ => ?_, fun _ i hi _ _ => ?_, (fun _ i hi => nomatch (show i ∈ ([] : List Nat) from hi)), trivial⟩
    · rcases List.mem_cons.mp (show i ∈ [10001, 10002] from hi) with rfl | hi
      · exact q4
      · rcases List.mem_singleton.mp hi with rfl
        exact q5
    · rcases List.mem_singleton.mp (show i ∈ [10002] from hi) with rfl
      exact q6
/-- The layout of a document. -/
def rnd (D : Doc) (width indent : Int) : List Pc := layR (mx 1 (mn width 1000)) (mx 0 (mn indent 16)) [⟨D, 0, false⟩] 0
noncomputable def G_pie : Gam := Gam.none.add 24 fun a => F_Right (NT.nz.nzL [] a)
theorem known_pie : Known Try.prog G_pie := (Known.none _).addC _ Right_calm
theorem G_pie_at (h : Nat → Option AObj) (d : Nat) (a : List AV) : G_pie 24 h d a = calmE (fun a => F_Right (NT.nz.nzL [] a)) h a := rfl
def T_pie (w i : Int) (q : List It × Int × List Pc) : St := ⟨34, [21, 101, 102], [(7, .ptr 21 0)], [(21, some (renO 101 102 (q.1.reverse.map itD) q.2.1 w i (q.2.2.map pcD))), (101, some (.row 49 6 (q.1.reverse.map itD))), (102, some (.row 34 2 (q.2.2.map pcD)))]⟩
theorem Pieces_body (D : Doc) (width indent : Int) (h1 : okD D) (h2 : tot D ≤ 1000000) : BodyW Try.prog 12 [.agg ((docD D).map .d), vInt .i64 width, vInt .i64 indent] (.d (.sl 2 (if right 200 D = true then (rnd D width indent).map pcD else []))) := by
  by_cases hr : right 200 D = true
  rotate_left
  · rw [if_neg hr]
    refine BodyW.of Try.func12 Try.ntmps12 (by kernel_rfl) rfl rfl rfl fun C => ?_
    refine Wp.seq (Wp.of (Γ := G_pie) (D := DRun Try.prog Gam.none) known_pie.ok (draws0 _) ?_)
    simp only [docD_eq, docsOf_map, Doc.eta, G_pie_at, calmE, F_Right, AV.flat, AV.flat.flatL, List.length_map, List.map_cons, List.map_nil, goTG_val, goTG_new, goTG_up, goTG_none, goG_none, goG_new, goG_up, ne_eq, evK, evH, retHF, DRun_mk, runT_nil, runT_none, runT_guard, goT_val, goT_new, goT_store, goTH_true, goTH_false, evO, keys, Option.toList_some, Option.toList_none, nzL_nil, nzL_cons, nz_k, nz_sl, nz_nil, nz_agg, startL, evC, evV, goE_val, goE_new, goE_store, goH_true, goH_false, goG_val, lk_cons, lk_nil, lk_func, lk_int, lk_bool, lk_string, lk_slice, lk_agg, look_mk, St.effOf, eff, effCall, effBin, effUn, effConv, effPick, effNil, effFold, fold1, effLoad, effStore, effFieldAddr, effField, fieldOf, sliceOf, effIndexAddr, effIndex, effLen, effExtract, effSlice, bnd, effBuild, placesOf, effBuildSlice, effMakeSlice, effAppend, srcOf, fillA, chunk, seg, toD, toDs, put, eqAV, fieldsEq, leafEq, strip, unw, allB, selP_or, selP_and, tis, TyD.agg, AV.cells, AV.cell, allCell, vInt, vBool, vStr, subL_nil, subL_cons, upIds, AV.ids, AV.ids.idsL, AObj.ids, drops, Hp.get_cons, get_nil, retF, resL, one, fz, fz.fzL, List.map_cons, List.map_nil, List.nil_append, List.append_nil, List.cons_append, List.all_cons, List.all_nil, List.length_cons, List.length_nil, List.getElem?_cons_zero, List.getElem?_cons_succ, List.getD_cons_zero, List.getD_cons_succ, List.take_succ_cons, List.take_zero, List.drop_succ_cons, List.drop_zero, List.take_nil, List.drop_nil, List.contains_cons, List.contains_nil, Option.getD_some, Option.getD_none, Option.map_some, Option.map_none, if_true, if_false, true_and, and_true, and_self, or_self, or_false, false_or, false_and, and_false, reduceCtorEq, sel_and, sel_or, decide_eq_true_eq, Bool.and_eq_true, Bool.or_eq_true, Bool.and_true, Bool.true_and, Bool.or_false, Bool.false_or, Bool.true_or, Bool.or_true, Bool.not_true, Bool.not_false, Bool.false_eq_true, implies_true, not_false_eq_true, Nat.reduceLT, Nat.reduceEqDiff, Nat.reduceAdd, Nat.reduceMul, Nat.reduceMod, Nat.reduceLeDiff, Nat.reduceBEq, Nat.zero_add, Nat.add_zero, reduceIte, ↓reduceIte, List.not_mem_nil]
    refine Wp.seq (Wp.of (Γ := G_pie) (D := DRun Try.prog Gam.none) known_pie.ok (draws0 _) ?_)
    simp only [docD_eq, docsOf_map, Doc.eta, G_pie_at, calmE, F_Right, AV.flat, AV.flat.flatL, List.length_map, List.map_cons, List.map_nil, goTG_val, goTG_new, goTG_up, goTG_none, goG_none, goG_new, goG_up, ne_eq, evK, evH, retHF, DRun_mk, runT_nil, runT_none, runT_guard, goT_val, goT_new, goT_store, goTH_true, goTH_false, evO, keys, Option.toList_some, Option.toList_none, nzL_nil, nzL_cons, nz_k, nz_sl, nz_nil, nz_agg, startL, evC, evV, goE_val, goE_new, goE_store, goH_true, goH_false, goG_val, lk_cons, lk_nil, lk_func, lk_int, lk_bool, lk_string, lk_slice, lk_agg, look_mk, St.effOf, eff, effCall, effBin, effUn, effConv, effPick, effNil, effFold, fold1, effLoad, effStore, effFieldAddr, effField, fieldOf, sliceOf, effIndexAddr, effIndex, effLen, effExtract, effSlice, bnd, effBuild, placesOf, effBuildSlice, effMakeSlice, effAppend, srcOf, fillA, chunk, seg, toD, toDs, put, eqAV, fieldsEq, leafEq, strip, unw, allB, selP_or, selP_and, tis, TyD.agg, AV.cells, AV.cell, allCell, vInt, vBool, vStr, subL_nil, subL_cons, upIds, AV.ids, AV.ids.idsL, AObj.ids, drops, Hp.get_cons, get_nil, retF, resL, one, fz, fz.fzL, List.map_cons, List.map_nil, List.nil_append, List.append_nil, List.cons_append, List.all_cons, List.all_nil, List.length_cons, List.length_nil, List.getElem?_cons_zero, List.getElem?_cons_succ, List.getD_cons_zero, List.getD_cons_succ, List.take_succ_cons, List.take_zero, List.drop_succ_cons, List.drop_zero, List.take_nil, List.drop_nil, List.contains_cons, List.contains_nil, Option.getD_some, Option.getD_none, Option.map_some, Option.map_none, if_true, if_false, true_and, and_true, and_self, or_self, or_false, false_or, false_and, and_false, reduceCtorEq, sel_and, sel_or, decide_eq_true_eq, Bool.and_eq_true, Bool.or_eq_true, Bool.and_true, Bool.true_and, Bool.or_false, Bool.false_or, Bool.true_or, Bool.or_true, Bool.not_true, Bool.not_false, Bool.false_eq_true, implies_true, not_false_eq_true, Nat.reduceLT, Nat.reduceEqDiff, Nat.reduceAdd, Nat.reduceMul, Nat.reduceMod, Nat.reduceLeDiff, Nat.reduceBEq, Nat.zero_add, Nat.add_zero, reduceIte, ↓reduceIte, List.not_mem_nil]
    refine ⟨h1, ?_⟩
    rw [if_pos (by simpa using hr)]
    exact Sub.nil 2
  rw [if_pos hr]
  refine BodyW.of Try.func12 Try.ntmps12 (by kernel_rfl) rfl rfl rfl fun C => ?_
  refine Wp.seq (Wp.of (Γ := G_pie) (D := DRun Try.prog Gam.none) known_pie.ok (draws0 _) ?_)
  simp only [docD_eq, docsOf_map, Doc.eta, G_pie_at, calmE, F_Right, AV.flat, AV.flat.flatL, List.length_map, List.map_cons, List.map_nil, goTG_val, goTG_new, goTG_up, goTG_none, goG_none, goG_new, goG_up, ne_eq, evK, evH, retHF, DRun_mk, runT_nil, runT_none, runT_guard, goT_val, goT_new, goT_store, goTH_true, goTH_false, evO, keys, Option.toList_some, Option.toList_none, nzL_nil, nzL_cons, nz_k, nz_sl, nz_nil, nz_agg, startL, evC, evV, goE_val, goE_new, goE_store, goH_true, goH_false, goG_val, lk_cons, lk_nil, lk_func, lk_int, lk_bool, lk_string, lk_slice, lk_agg, look_mk, St.effOf, eff, effCall, effBin, effUn, effConv, effPick, effNil, effFold, fold1, effLoad, effStore, effFieldAddr, effField, fieldOf, sliceOf, effIndexAddr, effIndex, effLen, effExtract, effSlice, bnd, effBuild, placesOf, effBuildSlice, effMakeSlice, effAppend, srcOf, fillA, chunk, seg, toD, toDs, put, eqAV, fieldsEq, leafEq, strip, unw, allB, selP_or, selP_and, tis, TyD.agg, AV.cells, AV.cell, allCell, vInt, vBool, vStr, subL_nil, subL_cons, upIds, AV.ids, AV.ids.idsL, AObj.ids, drops, Hp.get_cons, get_nil, retF, resL, one, fz, fz.fzL, List.map_cons, List.map_nil, List.nil_append, List.append_nil, List.cons_append, List.all_cons, List.all_nil, List.length_cons, List.length_nil, List.getElem?_cons_zero, List.getElem?_cons_succ, List.getD_cons_zero, List.getD_cons_succ, List.take_succ_cons, List.take_zero, List.drop_succ_cons, List.drop_zero, List.take_nil, List.drop_nil, List.contains_cons, List.contains_nil, Option.getD_some, Option.getD_none, Option.map_some, Option.map_none, if_true, if_false, true_and, and_true, and_self, or_self, or_false, false_or, false_and, and_false, reduceCtorEq, sel_and, sel_or, decide_eq_true_eq, Bool.and_eq_true, Bool.or_eq_true, Bool.and_true, Bool.true_and, Bool.or_false, Bool.false_or, Bool.true_or, Bool.or_true, Bool.not_true, Bool.not_false, Bool.false_eq_true, implies_true, not_false_eq_true, Nat.reduceLT, Nat.reduceEqDiff, Nat.reduceAdd, Nat.reduceMul, Nat.reduceMod, Nat.reduceLeDiff, Nat.reduceBEq, Nat.zero_add, Nat.add_zero, reduceIte, ↓reduceIte, List.not_mem_nil]
  refine Wp.seq (Wp.of (Γ := G_pie) (D := DRun Try.prog Gam.none) known_pie.ok (draws0 _) ?_)
  simp only [docD_eq, docsOf_map, Doc.eta, G_pie_at, calmE, F_Right, AV.flat, AV.flat.flatL, List.length_map, List.map_cons, List.map_nil, goTG_val, goTG_new, goTG_up, goTG_none, goG_none, goG_new, goG_up, ne_eq, evK, evH, retHF, DRun_mk, runT_nil, runT_none, runT_guard, goT_val, goT_new, goT_store, goTH_true, goTH_false, evO, keys, Option.toList_some, Option.toList_none, nzL_nil, nzL_cons, nz_k, nz_sl, nz_nil, nz_agg, startL, evC, evV, goE_val, goE_new, goE_store, goH_true, goH_false, goG_val, lk_cons, lk_nil, lk_func, lk_int, lk_bool, lk_string, lk_slice, lk_agg, look_mk, St.effOf, eff, effCall, effBin, effUn, effConv, effPick, effNil, effFold, fold1, effLoad, effStore, effFieldAddr, effField, fieldOf, sliceOf, effIndexAddr, effIndex, effLen, effExtract, effSlice, bnd, effBuild, placesOf, effBuildSlice, effMakeSlice, effAppend, srcOf, fillA, chunk, seg, toD, toDs, put, eqAV, fieldsEq, leafEq, strip, unw, allB, selP_or, selP_and, tis, TyD.agg, AV.cells, AV.cell, allCell, vInt, vBool, vStr, subL_nil, subL_cons, upIds, AV.ids, AV.ids.idsL, AObj.ids, drops, Hp.get_cons, get_nil, retF, resL, one, fz, fz.fzL, List.map_cons, List.map_nil, List.nil_append, List.append_nil, List.cons_append, List.all_cons, List.all_nil, List.length_cons, List.length_nil, List.getElem?_cons_zero, List.getElem?_cons_succ, List.getD_cons_zero, List.getD_cons_succ, List.take_succ_cons, List.take_zero, List.drop_succ_cons, List.drop_zero, List.take_nil, List.drop_nil, List.contains_cons, List.contains_nil, Option.getD_some, Option.getD_none, Option.map_some, Option.map_none, if_true, if_false, true_and, and_true, and_self, or_self, or_false, false_or, false_and, and_false, reduceCtorEq, sel_and, sel_or, decide_eq_true_eq, Bool.and_eq_true, Bool.or_eq_true, Bool.and_true, Bool.true_and, Bool.or_false, Bool.false_or, Bool.true_or, Bool.or_true, Bool.not_true, Bool.not_false, Bool.false_eq_true, implies_true, not_false_eq_true, Nat.reduceLT, Nat.reduceEqDiff, Nat.reduceAdd, Nat.reduceMul, Nat.reduceMod, Nat.reduceLeDiff, Nat.reduceBEq, Nat.zero_add, Nat.add_zero, reduceIte, ↓reduceIte, List.not_mem_nil]
  refine ⟨h1, ?_⟩
  rw [if_neg (by simp [hr])]
  refine Wp.seq (Wp.of (Γ := G_pie) (D := DRun Try.prog Gam.none) known_pie.ok (draws0 _) ?_)
  simp only [docD_eq, docsOf_map, Doc.eta, G_pie_at, calmE, F_Right, AV.flat, AV.flat.flatL, List.length_map, List.map_cons, List.map_nil, goTG_val, goTG_new, goTG_up, goTG_none, goG_none, goG_new, goG_up, ne_eq, evK, evH, retHF, DRun_mk, runT_nil, runT_none, runT_guard, goT_val, goT_new, goT_store, goTH_true, goTH_false, evO, keys, Option.toList_some, Option.toList_none, nzL_nil, nzL_cons, nz_k, nz_sl, nz_nil, nz_agg, startL, evC, evV, goE_val, goE_new, goE_store, goH_true, goH_false, goG_val, lk_cons, lk_nil, lk_func, lk_int, lk_bool, lk_string, lk_slice, lk_agg, look_mk, St.effOf, eff, effCall, effBin, effUn, effConv, effPick, effNil, effFold, fold1, effLoad, effStore, effFieldAddr, effField, fieldOf, sliceOf, effIndexAddr, effIndex, effLen, effExtract, effSlice, bnd, effBuild, placesOf, effBuildSlice, effMakeSlice, effAppend, srcOf, fillA, chunk, seg, toD, toDs, put, eqAV, fieldsEq, leafEq, strip, unw, allB, selP_or, selP_and, tis, TyD.agg, AV.cells, AV.cell, allCell, vInt, vBool, vStr, subL_nil, subL_cons, upIds, AV.ids, AV.ids.idsL, AObj.ids, drops, Hp.get_cons, get_nil, retF, resL, one, fz, fz.fzL, List.map_cons, List.map_nil, List.nil_append, List.append_nil, List.cons_append, List.all_cons, List.all_nil, List.length_cons, List.length_nil, List.getElem?_cons_zero, List.getElem?_cons_succ, List.getD_cons_zero, List.getD_cons_succ, List.take_succ_cons, List.take_zero, List.drop_succ_cons, List.drop_zero, List.take_nil, List.drop_nil, List.contains_cons, List.contains_nil, Option.getD_some, Option.getD_none, Option.map_some, Option.map_none, if_true, if_false, true_and, and_true, and_self, or_self, or_false, false_or, false_and, and_false, reduceCtorEq, sel_and, sel_or, decide_eq_true_eq, Bool.and_eq_true, Bool.or_eq_true, Bool.and_true, Bool.true_and, Bool.or_false, Bool.false_or, Bool.true_or, Bool.or_true, Bool.not_true, Bool.not_false, Bool.false_eq_true, implies_true, not_false_eq_true, Nat.reduceLT, Nat.reduceEqDiff, Nat.reduceAdd, Nat.reduceMul, Nat.reduceMod, Nat.reduceLeDiff, Nat.reduceBEq, Nat.zero_add, Nat.add_zero, reduceIte, ↓reduceIte, List.not_mem_nil]
  have hmx : ∀ a b c : Int, b ≤ c → b ≤ mx b (mn a c) ∧ mx b (mn a c) ≤ c := fun a b c h => by
    unfold mx mn; split <;> split <;> omega
  obtain ⟨w1, w2⟩ := hmx width 1 1000 (by decide)
  obtain ⟨i1, i2⟩ := hmx indent 0 16 (by decide)
  unfold rnd
  generalize mx 1 (mn width 1000) = w at w1 w2 ⊢
  generalize mx 0 (mn indent 16) = i at i1 i2 ⊢
  have hD := dsz_tot D
  refine Wp.seq (Wp.block (Wp.loop (T_pie w i) (fun q => RowOk (dsz D) (tot D) q.1 ∧ 0 ≤ q.2.1 ∧ q.2.1 + trr q.1 ≤ 16 * (dsz D) + tot D ∧ q.2.2.length + szr q.1 ≤ dsz D ∧ q.2.2 ++ layR w i q.1 q.2.1 = layR w i [⟨D, 0, false⟩] 0) (fun q => szr q.1) ([⟨D, 0, false⟩], 0, []) ⟨?_, Int.le_refl _, ?_, ?_, rfl⟩ ?_ ?_))
  · refine ⟨fun x hx => ?_, fun x hx => ?_, ?_, ?_⟩
    · obtain rfl := List.mem_singleton.mp hx; exact ⟨h1, hr⟩
    · obtain rfl := List.mem_singleton.mp hx; exact ⟨Int.le_refl _, by show (0 : Int) + (dsz D : Nat) ≤ (dsz D : Nat); omega⟩
    · simp [szr]
    · simp [trr]
  · simp only [trr]; omega
  · simp [szr]
  · refine Le.of (fun o => if o = 101 then 19 else o) [102] ?_
    simp only [T_pie, renO, itD_eq, List.reverse_cons, List.reverse_nil, List.nil_append, List.map_cons, List.map_nil, List.length_cons, List.length_nil, Mt_tup, Mt_agg, Mt_fn, forall_eq, forall_eq_or_imp, ne_eq, List.all_cons, List.all_nil, pr, Nat.reduceLeDiff, slR_nil, slR_cons, hpR_nil, hpR_cells, hpR_row, idsR_nil, idsR_cons, mtE_v, mtE_sl, mtE_nil, mtE_refl, mtE_row, mtE_born, mtE_ptr, mtE_rp, mtE_agg, mtE_tup, mtE_fn, mtE_ep, MtL_nil, MtL_cons, Mt_v, Mt_sl, Mt_nil, Mt_refl, Mt_row, Mt_born, Mt_ptr, MtO_cells, MtO_row, liveIds, distinct, Dat.v.injEq, Dat.sl.injEq, Value.int.injEq, Value.bool.injEq, Value.string.injEq, lk_cons, lk_nil, subL_nil, subL_cons, upIds, AV.ids, AV.ids.idsL, AObj.ids, Hp.get_cons, get_nil, allCell, AV.cell, vInt, vBool, vStr, id, true_and, and_true, and_self, List.append_nil, List.nil_append, List.not_mem_nil, List.mem_cons, or_false, false_or, or_self, not_true_eq_false, not_false_eq_true, false_imp_iff, false_implies, List.map_nil, not_false_eq_true, List.contains_cons, List.contains_nil, Bool.or_false, Bool.false_or, Bool.true_or, Bool.or_true, Bool.and_true, Bool.true_and, implies_true, if_true, if_false, reduceCtorEq, Nat.reduceEqDiff, Nat.reduceBEq, Nat.reduceAdd, reduceIte, ↓reduceIte]
    rfl
  · rintro ⟨r, col, ps⟩ ⟨hrow, hc0, hc1, hn, he⟩
    simp only [] at hrow hc0 hc1 hn he
    refine Wp.seq (Wp.of (Γ := G_pie) (D := DRun Try.prog Gam.none) known_pie.ok (draws0 _) ?_)
    simp only [T_pie, renO, List.length_map, List.length_reverse, goTG_val, goTG_new, goTG_up, goTG_none, goG_none, goG_new, goG_up, ne_eq, evK, evH, retHF, DRun_mk, runT_nil, runT_none, runT_guard, goT_val, goT_new, goT_store, goTH_true, goTH_false, evO, keys, Option.toList_some, Option.toList_none, nzL_nil, nzL_cons, nz_k, nz_sl, nz_nil, nz_agg, startL, evC, evV, goE_val, goE_new, goE_store, goH_true, goH_false, goG_val, lk_cons, lk_nil, lk_func, lk_int, lk_bool, lk_string, lk_slice, lk_agg, look_mk, St.effOf, eff, effCall, effBin, effUn, effConv, effPick, effNil, effFold, fold1, effLoad, effStore, effFieldAddr, effField, fieldOf, sliceOf, effIndexAddr, effIndex, effLen, effExtract, effSlice, bnd, effBuild, placesOf, effBuildSlice, effMakeSlice, effAppend, srcOf, fillA, chunk, seg, toD, toDs, put, eqAV, fieldsEq, leafEq, strip, unw, allB, selP_or, selP_and, tis, TyD.agg, AV.cells, AV.cell, allCell, vInt, vBool, vStr, subL_nil, subL_cons, upIds, AV.ids, AV.ids.idsL, AObj.ids, drops, Hp.get_cons, get_nil, retF, resL, one, fz, fz.fzL, List.map_cons, List.map_nil, List.nil_append, List.append_nil, List.cons_append, List.all_cons, List.all_nil, List.length_cons, List.length_nil, List.getElem?_cons_zero, List.getElem?_cons_succ, List.getD_cons_zero, List.getD_cons_succ, List.take_succ_cons, List.take_zero, List.drop_succ_cons, List.drop_zero, List.take_nil, List.drop_nil, List.contains_cons, List.contains_nil, Option.getD_some, Option.getD_none, Option.map_some, Option.map_none, if_true, if_false, true_and, and_true, and_self, or_self, or_false, false_or, false_and, and_false, reduceCtorEq, sel_and, sel_or, decide_eq_true_eq, Bool.and_eq_true, Bool.or_eq_true, Bool.and_true, Bool.true_and, Bool.or_false, Bool.false_or, Bool.true_or, Bool.or_true, Bool.not_true, Bool.not_false, Bool.false_eq_true, implies_true, not_false_eq_true, Nat.reduceLT, Nat.reduceEqDiff, Nat.reduceAdd, Nat.reduceMul, Nat.reduceMod, Nat.reduceLeDiff, Nat.reduceBEq, Nat.zero_add, Nat.add_zero, reduceIte, ↓reduceIte, List.not_mem_nil]
    cases r with
    | nil =>
      rw [if_neg (by simp)]
      refine Wp.of (Γ := G_pie) (D := DRun Try.prog Gam.none) known_pie.ok (draws0 _) ?_
      rw [layR_nil, List.append_nil] at he
      simp only [renO, List.length_map, List.length_reverse, goTG_val, goTG_new, goTG_up, goTG_none, goG_none, goG_new, goG_up, ne_eq, evK, evH, retHF, DRun_mk, runT_nil, runT_none, runT_guard, goT_val, goT_new, goT_store, goTH_true, goTH_false, evO, keys, Option.toList_some, Option.toList_none, nzL_nil, nzL_cons, nz_k, nz_sl, nz_nil, nz_agg, startL, evC, evV, goE_val, goE_new, goE_store, goH_true, goH_false, goG_val, lk_cons, lk_nil, lk_func, lk_int, lk_bool, lk_string, lk_slice, lk_agg, look_mk, St.effOf, eff, effCall, effBin, effUn, effConv, effPick, effNil, effFold, fold1, effLoad, effStore, effFieldAddr, effField, fieldOf, sliceOf, effIndexAddr, effIndex, effLen, effExtract, effSlice, bnd, effBuild, placesOf, effBuildSlice, effMakeSlice, effAppend, srcOf, fillA, chunk, seg, toD, toDs, put, eqAV, fieldsEq, leafEq, strip, unw, allB, selP_or, selP_and, tis, TyD.agg, AV.cells, AV.cell, allCell, vInt, vBool, vStr, subL_nil, subL_cons, upIds, AV.ids, AV.ids.idsL, AObj.ids, drops, Hp.get_cons, get_nil, retF, resL, one, fz, fz.fzL, List.map_cons, List.map_nil, List.nil_append, List.append_nil, List.cons_append, List.all_cons, List.all_nil, List.length_cons, List.length_nil, List.getElem?_cons_zero, List.getElem?_cons_succ, List.getD_cons_zero, List.getD_cons_succ, List.take_succ_cons, List.take_zero, List.drop_succ_cons, List.drop_zero, List.take_nil, List.drop_nil, List.contains_cons, List.contains_nil, Option.getD_some, Option.getD_none, Option.map_some, Option.map_none, if_true, if_false, true_and, and_true, and_self, or_self, or_false, false_or, false_and, and_false, reduceCtorEq, sel_and, sel_or, decide_eq_true_eq, Bool.and_eq_true, Bool.or_eq_true, Bool.and_true, Bool.true_and, Bool.or_false, Bool.false_or, Bool.true_or, Bool.or_true, Bool.not_true, Bool.not_false, Bool.false_eq_true, implies_true, not_false_eq_true, Nat.reduceLT, Nat.reduceEqDiff, Nat.reduceAdd, Nat.reduceMul, Nat.reduceMod, Nat.reduceLeDiff, Nat.reduceBEq, Nat.zero_add, Nat.add_zero, reduceIte, ↓reduceIte, List.not_mem_nil]
      rw [he]
    | cons x r =>
      rw [if_pos (by simp)]
      refine Wp.block ?_
      have hs := step_sz w i x r col
      have hcc := step_col (w := w) hrow i1 i2 hc0 hc1
      have hso := step_out w i x r col
      have htl := hrow.tail
      obtain ⟨d1, d2⟩ := hrow.doc x List.mem_cons_self
      obtain ⟨l1, l2⟩ := hrow.lev x List.mem_cons_self
      have hsz := hrow.sz
      have htr := hrow.tr
      have htx := row_mem_tot (r := x :: r) List.mem_cons_self
      have hrl := szr_len r
      have hkl := dszs_len x.d.kids
      have hdx := dsz_eq x.d
      simp only [szr] at hsz
      have hmul : 0 ≤ x.lv * i ∧ x.lv * i ≤ 16 * (dsz D) := by
        have a1 := Int.mul_nonneg l1 i1
        have a2 : x.lv * i ≤ x.lv * 16 := Int.mul_le_mul_of_nonneg_left i2 l1
        omega
      have hok : StepOk r.reverse x col i (ps.map pcD) := ⟨d1, d2, by omega, fun y hy => htl.doc y (List.mem_reverse.mp hy), by rw [trr_rev]; have := htl.tr; omega, by rw [List.length_reverse]; omega, hc0, by omega, by rw [List.length_map]; omega, hmul.1, by omega, l1, by omega⟩
      have hcalm := step_calm r.reverse x col w i (ps.map pcD) hok
      rw [List.reverse_reverse] at hcalm
      have hrow2 := hrow.step (w := w) (i := i) (col := col)
      have hlay := layR_cons w i x r col
      rw [List.reverse_cons]
      generalize stepR w i x r col = q at hs hcc hso hcalm hrow2 hlay
      obtain ⟨r2, col2, nw⟩ := q
      simp only [] at hs hcc hso hcalm hrow2 hlay
      refine Wp.call2 (X := ⟨rsg 21 101 102, [], [.ptr 10000 0], renC ((r.reverse ++ [x]).map itD) col w i (ps.map pcD), .tup [], stepO (r2.reverse.map itD) col2 w i (ps.map pcD ++ nw.map pcD), false⟩) 29 9500 rfl rfl rfl rfl rfl rfl (show 28 < 34 by decide) (show 29 < 34 by decide) (c := .ptr 21 0) rfl hcalm rfl (ren_match (v := ⟨101, 102, (r.reverse ++ [x]).map itD, col, w, i, ps.map pcD⟩) ?_ ⟨⟨by simp, rfl, rfl⟩, trivial⟩) (show 29 ∉ [21, 101, 102] by decide) (show 9500 ∉ [21, 101, 102] by decide) (by decide) (by decide) (by decide) rfl ?_
      · simp [renAt, Hp.get_cons]
      · simp only [inBlockS, thenS]
        refine ⟨(r2, col2, ps ++ nw), hs, ⟨hrow2, hcc.1, hcc.2, by simp only [List.length_append]; simp only [szr] at hn hs; omega, by simp only []; rw [← he, hlay, List.append_assoc]⟩, ?_⟩
        show Le ⟨34, [29, 9500, 21, 101, 102], [(29, .tup []), (28, .ptr 21 0), _, _, _, _, _, _, (7, .ptr 21 0)], [(21, some (renO 29 9500 (r2.reverse.map itD) col2 w i (ps.map pcD ++ nw.map pcD))), (29, some (.row 49 6 (r2.reverse.map itD))), (9500, some (.row 34 2 (ps.map pcD ++ nw.map pcD))), (101, none), (102, none), _, _, _]⟩ _
        refine Le.of (fun o => if o = 101 then 29 else if o = 102 then 9500 else o) [] ?_
        simp only [renO, List.map_append, List.length_append, List.length_map, List.length_reverse, Mt_tup, Mt_agg, Mt_fn, forall_eq, forall_eq_or_imp, ne_eq, List.all_cons, List.all_nil, pr, Nat.reduceLeDiff, slR_nil, slR_cons, hpR_nil, hpR_cells, hpR_row, idsR_nil, idsR_cons, mtE_v, mtE_sl, mtE_nil, mtE_refl, mtE_row, mtE_born, mtE_ptr, mtE_rp, mtE_agg, mtE_tup, mtE_fn, mtE_ep, MtL_nil, MtL_cons, Mt_v, Mt_sl, Mt_nil, Mt_refl, Mt_row, Mt_born, Mt_ptr, MtO_cells, MtO_row, liveIds, distinct, Dat.v.injEq, Dat.sl.injEq, Value.int.injEq, Value.bool.injEq, Value.string.injEq, lk_cons, lk_nil, subL_nil, subL_cons, upIds, AV.ids, AV.ids.idsL, AObj.ids, Hp.get_cons, get_nil, allCell, AV.cell, vInt, vBool, vStr, id, true_and, and_true, and_self, List.append_nil, List.nil_append, List.not_mem_nil, List.mem_cons, or_false, false_or, or_self, not_true_eq_false, not_false_eq_true, false_imp_iff, false_implies, List.map_nil, not_false_eq_true, List.contains_cons, List.contains_nil, Bool.or_false, Bool.false_or, Bool.true_or, Bool.or_true, Bool.and_true, Bool.true_and, implies_true, if_true, if_false, reduceCtorEq, Nat.reduceEqDiff, Nat.reduceBEq, Nat.reduceAdd, reduceIte, ↓reduceIte]
        try rfl
noncomputable def F_Pieces : List AV → Option (Prop × AV)
  | [.agg [.d (.v (.int .i64 k)), .d (.v (.int .i64 f)), .d (.v (.string t)), .d (.sl 4 ks)], .d (.v (.int .i64 width)), .d (.v (.int .i64 indent))] => some (ks = (docsOf ks).map docD ∧ okD (.mk k f t (docsOf ks)) ∧ tot (.mk k f t (docsOf ks)) ≤ 1000000, .d (.sl 2 (if right 200 (.mk k f t (docsOf ks)) = true then (rnd (.mk k f t (docsOf ks)) width indent).map pcD else [])))
  | _ => none
theorem Pieces_calm : ∀ args sc res, F_Pieces args = some (sc, res) → sc → Calm Try.prog 12 args res := by
  intro args sc res h hs
  unfold F_Pieces at h
  split at h <;> cases h
  rename_i k f t ks width indent
  obtain ⟨q1, q2, q3⟩ := hs
  rw [docD_args k f t q1]
  exact BodyW.calm (by simp only [AV.ids.idsL, AV.ids, idsL_ds]; rfl) rfl (Pieces_body _ _ _ q2 q3)
end Go.Proofs.Ythcgkfgkknofnaa.Eng
