/- The law's and the reference's functions on documents, on the small machine. -/
import Derived.Test.YthcgkfgkknofnaaSDoc3
namespace Go.Proofs.Ythcgkfgkknofnaa.Eng
open Go Go.Proofs.Ythcgkfgkknofnaa.Base
set_option maxRecDepth 100000
set_option linter.unusedSimpArgs false
/- How many texts' bytes and parts there are. -/
mutual
def tot : Doc → Nat
  | .mk _ _ t l => 1 + t.size + tots l
def tots : List Doc → Nat
  | [] => 0
  | d :: l => tot d + tots l
end
/- The law's size. -/
mutual
def sizeD : Int → Doc → Int
  | deep, .mk _ _ t l => if deep > 250 ∨ (t.size : Int) > 100 then 1000 else sizeL (deep + 1) 1 l
def sizeL : Int → Int → List Doc → Int
  | _, n, [] => n
  | deep, n, d :: l => if n < 1000 then sizeL deep (n + sizeD deep d) l else n
end
theorem sizeD_eq (deep : Int) (d : Doc) : sizeD deep d = if deep > 250 ∨ (d.t.size : Int) > 100 then 1000 else sizeL (deep + 1) 1 d.kids := by cases d; rw [sizeD]; rfl
mutual
theorem sizeD_bound : ∀ (deep : Int) (d : Doc), 0 ≤ deep → deep ≤ 251 → 1 ≤ sizeD deep d ∧ sizeD deep d ≤ 1000 + 1000 * (251 - deep)
  | deep, .mk k f t l, h0, h1 => by
    rw [sizeD]
    split
    · omega
    · have := sizeL_bound (deep + 1) 1 l (by omega) (by omega) (by omega) (by omega); omega
theorem sizeL_bound : ∀ (deep n : Int) (l : List Doc), 0 ≤ deep → deep ≤ 251 → 1 ≤ n → n ≤ 1999 + 1000 * (251 - deep) → n ≤ sizeL deep n l ∧ sizeL deep n l ≤ 1999 + 1000 * (251 - deep)
  | deep, n, [], _, _, _, h => ⟨Int.le_refl _, h⟩
  | deep, n, d :: l, h0, h1, h2, h3 => by
    rw [sizeL]
    split
    · have h4 := sizeD_bound deep d h0 h1
      have := sizeL_bound deep (n + sizeD deep d) l h0 h1 (by omega) (by omega)
      omega
    · exact ⟨Int.le_refl _, h3⟩
end
mutual
theorem tot_size : ∀ (deep : Int) (d : Doc), 0 ≤ deep → deep ≤ 251 → sizeD deep d ≤ 300 → (tot d : Int) ≤ 101 * sizeD deep d
  | deep, .mk k f t l, h0, h1, h => by
    rw [sizeD] at h ⊢
    split at h
    · omega
    · rename_i hc
      rw [if_neg hc]
      have := tots_size (deep + 1) 1 l (by omega) (by omega) (by omega) h
      rw [tot]
      omega
theorem tots_size : ∀ (deep n : Int) (l : List Doc), 0 ≤ deep → deep ≤ 251 → 1 ≤ n → sizeL deep n l ≤ 300 → (tots l : Int) + 101 * n ≤ 101 * sizeL deep n l
  | deep, n, [], _, _, _, _ => by rw [tots, sizeL]; omega
  | deep, n, d :: l, h0, h1, h2, h => by
    rw [sizeL] at h ⊢
    split at h
    · rename_i hn
      rw [if_pos hn]
      have h4 := sizeD_bound deep d h0 h1
      have h5 := tots_size deep (n + sizeD deep d) l h0 h1 (by omega) h
      have : n + sizeD deep d ≤ sizeL deep (n + sizeD deep d) l ∨ True := .inr trivial
      have h6 : sizeD deep d ≤ 300 := by omega
      have := tot_size deep d h0 h1 h6
      rw [tots]
      omega
    · omega
end
def deep_of : List AV → Nat
  | [_, .d (.v (.int _ deep))] => (251 - deep).toNat
  | _ => 0
noncomputable def F_size10 : List AV → Option (Prop × AV)
  | [.agg [.d (.v (.int .i64 k)), .d (.v (.int .i64 f)), .d (.v (.string t)), .d (.sl 4 ks)], .d (.v (.int .i64 deep))] => some (ks = (docsOf ks).map docD ∧ okD (.mk k f t (docsOf ks)) ∧ 0 ≤ deep ∧ deep ≤ 251, vInt .i64 (sizeD deep (.mk k f t (docsOf ks))))
  | _ => none
noncomputable def G_sz (n : Nat) : Gam := Gam.none.add 23 (lim F_size10 deep_of n)
theorem G_sz_at (n : Nat) (h : Nat → Option AObj) (d : Nat) (a : List AV) : G_sz n 23 h d a = calmE (lim F_size10 deep_of n) h a := rfl
theorem sizeL_stop {deep n : Int} (h : ¬ n < 1000) (l : List Doc) : sizeL deep n l = n := by
  cases l with
  | nil => rfl
  | cons d l => rw [sizeL, if_neg h]
theorem size10_body (n : Nat) (deep : Int) (D : Doc) (h0 : 0 ≤ deep) (h1 : deep ≤ 251) (h2 : (251 - deep).toNat ≤ n) (h3 : okD D) : Body Try.prog (G_sz n) (DRun Try.prog (G_sz n)) 23 [.agg ((docD D).map .d), vInt .i64 deep] (vInt .i64 (sizeD deep D)) := by
  refine Body.of Try.func23 Try.ntmps23 (by kernel_rfl) rfl rfl rfl ?_
  rw [okD_eq] at h3
  have hk : D.kids.length ≤ 9223372036854775807 := h3.2.1
  rw [sizeD_eq]
  simp only [docD_eq, G_sz_at, calmE, F_size10, lim, deep_of, docsOf_map, Doc.eta, AV.flat, AV.flat.flatL, List.length_map, goTG_val, goTG_new, goTG_up, goTG_none, goG_none, goG_new, goG_up, ne_eq, evK, evH, retHF, DRun_mk, runT_nil, runT_none, runT_guard, goT_val, goT_new, goT_store, goTH_true, goTH_false, evO, keys, Option.toList_some, Option.toList_none, nzL_nil, nzL_cons, nz_k, nz_sl, nz_nil, nz_agg, startL, evC, evV, goE_val, goE_new, goE_store, goH_true, goH_false, goG_val, lk_cons, lk_nil, lk_func, lk_int, lk_bool, lk_string, lk_slice, lk_agg, look_mk, St.effOf, eff, effCall, effBin, effUn, effConv, effPick, effNil, effFold, fold1, effLoad, effStore, effFieldAddr, effField, fieldOf, sliceOf, effIndexAddr, effIndex, effLen, effExtract, effSlice, bnd, effBuild, placesOf, effBuildSlice, effMakeSlice, effAppend, srcOf, fillA, chunk, seg, toD, toDs, put, eqAV, fieldsEq, leafEq, strip, unw, allB, selP_or, selP_and, tis, TyD.agg, AV.cells, AV.cell, allCell, vInt, vBool, vStr, subL_nil, subL_cons, upIds, AV.ids, AV.ids.idsL, AObj.ids, drops, Hp.get_cons, get_nil, retF, resL, one, fz, fz.fzL, List.map_cons, List.map_nil, List.nil_append, List.append_nil, List.cons_append, List.all_cons, List.all_nil, List.length_cons, List.length_nil, List.getElem?_cons_zero, List.getElem?_cons_succ, List.getD_cons_zero, List.getD_cons_succ, List.take_succ_cons, List.take_zero, List.drop_succ_cons, List.drop_zero, List.take_nil, List.drop_nil, List.contains_cons, List.contains_nil, Option.getD_some, Option.getD_none, Option.map_some, Option.map_none, if_true, if_false, true_and, and_true, and_self, or_self, or_false, false_or, false_and, and_false, reduceCtorEq, sel_and, sel_or, decide_eq_true_eq, Bool.and_eq_true, Bool.or_eq_true, Bool.and_true, Bool.true_and, Bool.or_false, Bool.false_or, Bool.true_or, Bool.or_true, Bool.not_true, Bool.not_false, Bool.false_eq_true, implies_true, not_false_eq_true, Nat.reduceLT, Nat.reduceEqDiff, Nat.reduceAdd, Nat.reduceMul, Nat.reduceMod, Nat.reduceLeDiff, Nat.reduceBEq, Nat.zero_add, Nat.add_zero, reduceIte, ↓reduceIte, List.not_mem_nil]
  by_cases c : deep > 250 ∨ (D.t.size : Int) > 100
  · rw [if_pos c, if_pos c]
  · rw [if_neg c, if_neg c]
    refine wpc_loop (fun p : Int × Nat => ⟨37, [102], [(1, vInt .i64 deep), (2, .ptr 102 0), (5, vInt .i64 p.1), (6, vInt .i64 p.2)], [(102, some (.cells 24 ((docD D).map .d)))]⟩)
      (fun p => p.2 ≤ D.kids.length ∧ 1 ≤ p.1 ∧ p.1 ≤ 1999 + 1000 * (250 - deep) ∧ sizeL (deep + 1) p.1 (D.kids.drop p.2) = sizeL (deep + 1) 1 D.kids) (fun p => D.kids.length - p.2) (1, 0) ⟨Nat.zero_le _, Int.le_refl _, by simp only []; omega, rfl⟩ ?_ ?_
    · refine Le.of (fun _ => 2) [] ?_
      simp only [docD_eq, List.map_cons, List.map_nil, Mt_tup, Mt_agg, Mt_fn, forall_eq, forall_eq_or_imp, ne_eq, List.all_cons, List.all_nil, pr, Nat.reduceLeDiff, slR_nil, slR_cons, hpR_nil, hpR_cells, hpR_row, idsR_nil, idsR_cons, mtE_v, mtE_sl, mtE_nil, mtE_refl, mtE_row, mtE_born, mtE_ptr, mtE_rp, mtE_agg, mtE_tup, mtE_fn, mtE_ep, MtL_nil, MtL_cons, Mt_v, Mt_sl, Mt_nil, Mt_refl, Mt_row, Mt_born, Mt_ptr, MtO_cells, MtO_row, liveIds, distinct, Dat.v.injEq, Dat.sl.injEq, Value.int.injEq, Value.bool.injEq, Value.string.injEq, lk_cons, lk_nil, subL_nil, subL_cons, upIds, AV.ids, AV.ids.idsL, AObj.ids, Hp.get_cons, get_nil, allCell, AV.cell, vInt, vBool, vStr, id, true_and, and_true, and_self, List.append_nil, List.nil_append, List.not_mem_nil, List.mem_cons, or_false, false_or, or_self, not_true_eq_false, not_false_eq_true, false_imp_iff, false_implies, List.map_nil, not_false_eq_true, List.contains_cons, List.contains_nil, Bool.or_false, Bool.false_or, Bool.true_or, Bool.or_true, Bool.and_true, Bool.true_and, implies_true, if_true, if_false, reduceCtorEq, Nat.reduceEqDiff, Nat.reduceBEq, Nat.reduceAdd, reduceIte, ↓reduceIte]
      rfl
    · rintro ⟨x, j⟩ ⟨hj, hx, hx2, hr⟩
      simp only [] at hj hx hx2 hr
      have hd1 : deep ≤ 250 := by omega
      by_cases hj2 : (j : Int) < D.kids.length
      · obtain ⟨d, hd⟩ : ∃ d, D.kids[j]? = some d := ⟨_, List.getElem?_eq_getElem (by omega)⟩
        have hg := getD_doc hd
        simp only [docD_eq, List.map_cons, List.map_nil, hg, G_sz_at, calmE, F_size10, lim, deep_of, docsOf_map, Doc.eta, AV.flat, AV.flat.flatL, List.length_map, goTG_val, goTG_new, goTG_up, goTG_none, goG_none, goG_new, goG_up, ne_eq, evK, evH, retHF, DRun_mk, runT_nil, runT_none, runT_guard, goT_val, goT_new, goT_store, goTH_true, goTH_false, evO, keys, Option.toList_some, Option.toList_none, nzL_nil, nzL_cons, nz_k, nz_sl, nz_nil, nz_agg, startL, evC, evV, goE_val, goE_new, goE_store, goH_true, goH_false, goG_val, lk_cons, lk_nil, lk_func, lk_int, lk_bool, lk_string, lk_slice, lk_agg, look_mk, St.effOf, eff, effCall, effBin, effUn, effConv, effPick, effNil, effFold, fold1, effLoad, effStore, effFieldAddr, effField, fieldOf, sliceOf, effIndexAddr, effIndex, effLen, effExtract, effSlice, bnd, effBuild, placesOf, effBuildSlice, effMakeSlice, effAppend, srcOf, fillA, chunk, seg, toD, toDs, put, eqAV, fieldsEq, leafEq, strip, unw, allB, selP_or, selP_and, tis, TyD.agg, AV.cells, AV.cell, allCell, vInt, vBool, vStr, subL_nil, subL_cons, upIds, AV.ids, AV.ids.idsL, AObj.ids, drops, Hp.get_cons, get_nil, retF, resL, one, fz, fz.fzL, List.map_cons, List.map_nil, List.nil_append, List.append_nil, List.cons_append, List.all_cons, List.all_nil, List.length_cons, List.length_nil, List.getElem?_cons_zero, List.getElem?_cons_succ, List.getD_cons_zero, List.getD_cons_succ, List.take_succ_cons, List.take_zero, List.drop_succ_cons, List.drop_zero, List.take_nil, List.drop_nil, List.contains_cons, List.contains_nil, Option.getD_some, Option.getD_none, Option.map_some, Option.map_none, if_true, if_false, true_and, and_true, and_self, or_self, or_false, false_or, false_and, and_false, reduceCtorEq, sel_and, sel_or, decide_eq_true_eq, Bool.and_eq_true, Bool.or_eq_true, Bool.and_true, Bool.true_and, Bool.or_false, Bool.false_or, Bool.true_or, Bool.or_true, Bool.not_true, Bool.not_false, Bool.false_eq_true, implies_true, not_false_eq_true, Nat.reduceLT, Nat.reduceEqDiff, Nat.reduceAdd, Nat.reduceMul, Nat.reduceMod, Nat.reduceLeDiff, Nat.reduceBEq, Nat.zero_add, Nat.add_zero, reduceIte, ↓reduceIte, List.not_mem_nil]
        rw [drop_at hd] at hr
        by_cases hx3 : x < 1000
        · rw [if_pos ⟨hj2, hx3⟩, w64 (n := deep + 1) (by omega) (by omega)]
          have hb := sizeD_bound (deep + 1) d (by omega) (by omega)
          rw [sizeL, if_pos hx3] at hr
          rw [w64 (n := x + sizeD (deep + 1) d) (by omega) (by omega)]
          refine ⟨by omega, ⟨⟨okDs_get h3.2.2 hd, by omega, by omega⟩, by omega⟩, (x + sizeD (deep + 1) d, j + 1), by simp only []; omega, ⟨by simp only []; omega, by simp only []; omega, by simp only []; omega, hr⟩, Le.of id [] ?_⟩
          simp only [docD_eq, List.map_cons, List.map_nil, Mt_tup, Mt_agg, Mt_fn, forall_eq, forall_eq_or_imp, ne_eq, List.all_cons, List.all_nil, pr, Nat.reduceLeDiff, slR_nil, slR_cons, hpR_nil, hpR_cells, hpR_row, idsR_nil, idsR_cons, mtE_v, mtE_sl, mtE_nil, mtE_refl, mtE_row, mtE_born, mtE_ptr, mtE_rp, mtE_agg, mtE_tup, mtE_fn, mtE_ep, MtL_nil, MtL_cons, Mt_v, Mt_sl, Mt_nil, Mt_refl, Mt_row, Mt_born, Mt_ptr, MtO_cells, MtO_row, liveIds, distinct, Dat.v.injEq, Dat.sl.injEq, Value.int.injEq, Value.bool.injEq, Value.string.injEq, lk_cons, lk_nil, subL_nil, subL_cons, upIds, AV.ids, AV.ids.idsL, AObj.ids, Hp.get_cons, get_nil, allCell, AV.cell, vInt, vBool, vStr, id, true_and, and_true, and_self, List.append_nil, List.nil_append, List.not_mem_nil, List.mem_cons, or_false, false_or, or_self, not_true_eq_false, not_false_eq_true, false_imp_iff, false_implies, List.map_nil, not_false_eq_true, List.contains_cons, List.contains_nil, Bool.or_false, Bool.false_or, Bool.true_or, Bool.or_true, Bool.and_true, Bool.true_and, implies_true, if_true, if_false, reduceCtorEq, Nat.reduceEqDiff, Nat.reduceBEq, Nat.reduceAdd, reduceIte, ↓reduceIte]
          exact w64 (by omega) (by omega)
        · rw [if_neg (fun h => hx3 h.2)]
          rw [sizeL_stop hx3] at hr
          rw [← hr]
      · simp only [docD_eq, List.map_cons, List.map_nil, G_sz_at, calmE, F_size10, lim, deep_of, docsOf_map, Doc.eta, AV.flat, AV.flat.flatL, List.length_map, goTG_val, goTG_new, goTG_up, goTG_none, goG_none, goG_new, goG_up, ne_eq, evK, evH, retHF, DRun_mk, runT_nil, runT_none, runT_guard, goT_val, goT_new, goT_store, goTH_true, goTH_false, evO, keys, Option.toList_some, Option.toList_none, nzL_nil, nzL_cons, nz_k, nz_sl, nz_nil, nz_agg, startL, evC, evV, goE_val, goE_new, goE_store, goH_true, goH_false, goG_val, lk_cons, lk_nil, lk_func, lk_int, lk_bool, lk_string, lk_slice, lk_agg, look_mk, St.effOf, eff, effCall, effBin, effUn, effConv, effPick, effNil, effFold, fold1, effLoad, effStore, effFieldAddr, effField, fieldOf, sliceOf, effIndexAddr, effIndex, effLen, effExtract, effSlice, bnd, effBuild, placesOf, effBuildSlice, effMakeSlice, effAppend, srcOf, fillA, chunk, seg, toD, toDs, put, eqAV, fieldsEq, leafEq, strip, unw, allB, selP_or, selP_and, tis, TyD.agg, AV.cells, AV.cell, allCell, vInt, vBool, vStr, subL_nil, subL_cons, upIds, AV.ids, AV.ids.idsL, AObj.ids, drops, Hp.get_cons, get_nil, retF, resL, one, fz, fz.fzL, List.map_cons, List.map_nil, List.nil_append, List.append_nil, List.cons_append, List.all_cons, List.all_nil, List.length_cons, List.length_nil, List.getElem?_cons_zero, List.getElem?_cons_succ, List.getD_cons_zero, List.getD_cons_succ, List.take_succ_cons, List.take_zero, List.drop_succ_cons, List.drop_zero, List.take_nil, List.drop_nil, List.contains_cons, List.contains_nil, Option.getD_some, Option.getD_none, Option.map_some, Option.map_none, if_true, if_false, true_and, and_true, and_self, or_self, or_false, false_or, false_and, and_false, reduceCtorEq, sel_and, sel_or, decide_eq_true_eq, Bool.and_eq_true, Bool.or_eq_true, Bool.and_true, Bool.true_and, Bool.or_false, Bool.false_or, Bool.true_or, Bool.or_true, Bool.not_true, Bool.not_false, Bool.false_eq_true, implies_true, not_false_eq_true, Nat.reduceLT, Nat.reduceEqDiff, Nat.reduceAdd, Nat.reduceMul, Nat.reduceMod, Nat.reduceLeDiff, Nat.reduceBEq, Nat.zero_add, Nat.add_zero, reduceIte, ↓reduceIte, List.not_mem_nil]
        rw [if_neg (fun h => hj2 h.1)]
        rw [List.drop_eq_nil_of_le (by omega), sizeL] at hr
        rw [← hr]
theorem size10_calm : ∀ args sc res, F_size10 args = some (sc, res) → sc → Calm Try.prog 23 args res := by
  refine (Known.none Try.prog).recur deep_of fun n K args sc res h hs hn => ?_
  unfold F_size10 at h
  split at h <;> cases h
  rename_i k f t ks deep
  obtain ⟨q1, q2, q3, q4⟩ := hs
  rw [docD_args k f t q1]
  exact K.calm mixed rfl rfl (size10_body n deep _ q3 q4 (Nat.le_of_eq hn) q2)
noncomputable def F_Few : List AV → Option (Prop × AV)
  | [.agg [.d (.v (.int .i64 k)), .d (.v (.int .i64 f)), .d (.v (.string t)), .d (.sl 4 ks)]] => some (ks = (docsOf ks).map docD ∧ okD (.mk k f t (docsOf ks)), vBool (decide (sizeD 0 (.mk k f t (docsOf ks)) ≤ 300)))
  | _ => none
noncomputable def G_few : Gam := Gam.none.add 23 fun a => F_size10 (NT.nz.nzL [] a)
theorem G_few_at (h : Nat → Option AObj) (d : Nat) (a : List AV) : G_few 23 h d a = calmE (fun a => F_size10 (NT.nz.nzL [] a)) h a := rfl
theorem Few_body (D : Doc) (h3 : okD D) : Body Try.prog G_few (DRun Try.prog G_few) 11 [.agg ((docD D).map .d)] (vBool (decide (sizeD 0 D ≤ 300))) := by
  refine Body.of Try.func11 Try.ntmps11 (by kernel_rfl) rfl rfl rfl ?_
  simp only [docD_eq, G_few_at, calmE, F_size10, docsOf_map, Doc.eta, AV.flat, AV.flat.flatL, List.length_map, goTG_val, goTG_new, goTG_up, goTG_none, goG_none, goG_new, goG_up, ne_eq, evK, evH, retHF, DRun_mk, runT_nil, runT_none, runT_guard, goT_val, goT_new, goT_store, goTH_true, goTH_false, evO, keys, Option.toList_some, Option.toList_none, nzL_nil, nzL_cons, nz_k, nz_sl, nz_nil, nz_agg, startL, evC, evV, goE_val, goE_new, goE_store, goH_true, goH_false, goG_val, lk_cons, lk_nil, lk_func, lk_int, lk_bool, lk_string, lk_slice, lk_agg, look_mk, St.effOf, eff, effCall, effBin, effUn, effConv, effPick, effNil, effFold, fold1, effLoad, effStore, effFieldAddr, effField, fieldOf, sliceOf, effIndexAddr, effIndex, effLen, effExtract, effSlice, bnd, effBuild, placesOf, effBuildSlice, effMakeSlice, effAppend, srcOf, fillA, chunk, seg, toD, toDs, put, eqAV, fieldsEq, leafEq, strip, unw, allB, selP_or, selP_and, tis, TyD.agg, AV.cells, AV.cell, allCell, vInt, vBool, vStr, subL_nil, subL_cons, upIds, AV.ids, AV.ids.idsL, AObj.ids, drops, Hp.get_cons, get_nil, retF, resL, one, fz, fz.fzL, List.map_cons, List.map_nil, List.nil_append, List.append_nil, List.cons_append, List.all_cons, List.all_nil, List.length_cons, List.length_nil, List.getElem?_cons_zero, List.getElem?_cons_succ, List.getD_cons_zero, List.getD_cons_succ, List.take_succ_cons, List.take_zero, List.drop_succ_cons, List.drop_zero, List.take_nil, List.drop_nil, List.contains_cons, List.contains_nil, Option.getD_some, Option.getD_none, Option.map_some, Option.map_none, if_true, if_false, true_and, and_true, and_self, or_self, or_false, false_or, false_and, and_false, reduceCtorEq, sel_and, sel_or, decide_eq_true_eq, Bool.and_eq_true, Bool.or_eq_true, Bool.and_true, Bool.true_and, Bool.or_false, Bool.false_or, Bool.true_or, Bool.or_true, Bool.not_true, Bool.not_false, Bool.false_eq_true, implies_true, not_false_eq_true, Nat.reduceLT, Nat.reduceEqDiff, Nat.reduceAdd, Nat.reduceMul, Nat.reduceMod, Nat.reduceLeDiff, Nat.reduceBEq, Nat.zero_add, Nat.add_zero, reduceIte, ↓reduceIte, List.not_mem_nil]
  exact ⟨⟨h3, by decide, by decide⟩, Sub.refl _⟩
theorem Few_calm : ∀ args sc res, F_Few args = some (sc, res) → sc → Calm Try.prog 11 args res := by
  intro args sc res h hs
  unfold F_Few at h
  split at h <;> cases h
  rename_i k f t ks
  obtain ⟨q1, q2⟩ := hs
  rw [docD_args k f t q1]
  exact ((Known.none _).addC _ size10_calm).calm mixed rfl rfl (Few_body _ q2)
/- Are two documents one? -/
mutual
def sameD : Doc → Doc → Bool
  | .mk k f t l, .mk k' f' t' l' => k == k' && f == f' && (t.toList == t'.toList) && sameL l l'
def sameL : List Doc → List Doc → Bool
  | [], [] => true
  | d :: l, e :: m => sameD d e && sameL l m
  | _, _ => false
end
mutual
theorem sameD_refl : ∀ d, sameD d d = true
  | .mk k f t l => by rw [sameD, sameL_refl l]; simp
theorem sameL_refl : ∀ l, sameL l l = true
  | [] => rfl
  | d :: l => by rw [sameL, sameD_refl d, sameL_refl l]; rfl
end
theorem sameL_len : ∀ {l m : List Doc}, sameL l m = true → l.length = m.length
  | [], [], _ => rfl
  | _ :: _, _ :: _, h => by
    rw [sameL, Bool.and_eq_true] at h
    simp only [List.length_cons, sameL_len h.2]
  | [], _ :: _, h => by simp [sameL] at h
  | _ :: _, [], h => by simp [sameL] at h
theorem sameD_eq (a b : Doc) : sameD a b = (a.k == b.k && a.f == b.f && (a.t.toList == b.t.toList) && sameL a.kids b.kids) := by cases a; cases b; rw [sameD]; rfl
noncomputable def G_rr (n : Nat) : Gam := Gam.none.add 33 (lim F_dright left_of n)
theorem G_rr_at (n : Nat) (h : Nat → Option AObj) (d : Nat) (a : List AV) : G_rr n 33 h d a = calmE (lim F_dright left_of n) h a := rfl
theorem rr_plain (left k f : Int) (T A : Bool) (n : Nat) (hA : n = 0 → A = true) : (if k = 1 then (n : Int) == 0 else if k = 2 ∨ k = 3 ∨ k = 4 then (if ((n : Int) == 0) = true ∧ T = true then f == 0 else false) else if k = 5 ∨ k = 6 ∨ k = 7 then (if (left > 0 ∧ T = true) ∧ (f == 0) = true then A else false) else false) =
    if (((k < 1 ∨ k > 7) ∨ k ≥ 5 ∧ left ≤ 0) ∨ (k != 1) = true ∧ ((!T) = true ∨ (f != 0) = true)) ∨ k < 5 ∧ (n : Int) > 0 then false else A := by
  have b1 : ((n : Int) == 0) = decide (n = 0) := by by_cases h : n = 0 <;> simp [h]
  have b2 : (f == 0) = decide (f = 0) := by by_cases h : f = 0 <;> simp [h]
  have b3 : ((k != 1) = true) = (k ≠ 1) := by simp
  have b4 : ((f != 0) = true) = (f ≠ 0) := by simp
  simp only [b1, b2, b3, b4]
  cases T <;> simp only [Bool.not_true, Bool.not_false, Bool.false_eq_true, and_false, false_and, if_false, true_or, false_or, and_true, decide_eq_true_eq]
  · by_cases h1 : k = 1
    · rw [if_pos h1]
      by_cases hn : n = 0
      · rw [if_neg (by omega), hA hn, hn]; rfl
      · rw [if_pos (by omega)]; exact decide_eq_false hn
    · rw [if_neg h1]
      rw [if_pos (show ((((k < 1 ∨ k > 7) ∨ k ≥ 5 ∧ left ≤ 0) ∨ k ≠ 1) ∨ k < 5 ∧ (n : Int) > 0) by omega)]
      (repeat' split) <;> rfl
  · by_cases h1 : k = 1
    · rw [if_pos h1]
      by_cases hn : n = 0
      · rw [if_neg (by omega), hA hn, hn]; rfl
      · rw [if_pos (by omega)]; exact decide_eq_false hn
    rw [if_neg h1]
    by_cases h2 : k = 2 ∨ k = 3 ∨ k = 4
    · rw [if_pos h2]
      by_cases hn : n = 0
      · rw [if_pos hn]
        by_cases hf : f = 0
        · rw [if_neg (by omega), hA hn]; exact decide_eq_true hf
        · rw [if_pos (by omega)]; exact decide_eq_false hf
      · rw [if_neg hn, if_pos (by omega)]
    rw [if_neg h2]
    by_cases h3 : k = 5 ∨ k = 6 ∨ k = 7
    · rw [if_pos h3]
      by_cases h4 : left > 0 ∧ f = 0
      · rw [if_pos h4, if_neg (by omega)]
      · rw [if_neg h4, if_pos (by omega)]
    · rw [if_neg h3, if_pos (by omega)]
theorem rright_body (n : Nat) (left : Int) (D : Doc) (h0 : -1000000000 ≤ left) (h1 : left ≤ 1000000000) (h2 : left.toNat ≤ n) (h3 : okD D) : Body Try.prog (G_rr n) (DRun Try.prog (G_rr n)) 33 [.agg ((docD D).map .d), vInt .i64 left] (vBool (right left D)) := by
  refine Body.of Try.func33 Try.ntmps33 (by kernel_rfl) rfl rfl rfl ?_
  rw [okD_eq] at h3
  have hk : D.kids.length ≤ 9223372036854775807 := h3.2.1
  simp only [docD_eq, G_rr_at, calmE, F_dright, lim, left_of, docsOf_map, Doc.eta, AV.flat, AV.flat.flatL, List.length_map, goTG_val, goTG_new, goTG_up, goTG_none, goG_none, goG_new, goG_up, ne_eq, evK, evH, retHF, DRun_mk, runT_nil, runT_none, runT_guard, goT_val, goT_new, goT_store, goTH_true, goTH_false, evO, keys, Option.toList_some, Option.toList_none, nzL_nil, nzL_cons, nz_k, nz_sl, nz_nil, nz_agg, startL, evC, evV, goE_val, goE_new, goE_store, goH_true, goH_false, goG_val, lk_cons, lk_nil, lk_func, lk_int, lk_bool, lk_string, lk_slice, lk_agg, look_mk, St.effOf, eff, effCall, effBin, effUn, effConv, effPick, effNil, effFold, fold1, effLoad, effStore, effFieldAddr, effField, fieldOf, sliceOf, effIndexAddr, effIndex, effLen, effExtract, effSlice, bnd, effBuild, placesOf, effBuildSlice, effMakeSlice, effAppend, srcOf, fillA, chunk, seg, toD, toDs, put, eqAV, fieldsEq, leafEq, strip, unw, allB, selP_or, selP_and, tis, TyD.agg, AV.cells, AV.cell, allCell, vInt, vBool, vStr, subL_nil, subL_cons, upIds, AV.ids, AV.ids.idsL, AObj.ids, drops, Hp.get_cons, get_nil, retF, resL, one, fz, fz.fzL, List.map_cons, List.map_nil, List.nil_append, List.append_nil, List.cons_append, List.all_cons, List.all_nil, List.length_cons, List.length_nil, List.getElem?_cons_zero, List.getElem?_cons_succ, List.getD_cons_zero, List.getD_cons_succ, List.take_succ_cons, List.take_zero, List.drop_succ_cons, List.drop_zero, List.take_nil, List.drop_nil, List.contains_cons, List.contains_nil, Option.getD_some, Option.getD_none, Option.map_some, Option.map_none, if_true, if_false, true_and, and_true, and_self, or_self, or_false, false_or, false_and, and_false, reduceCtorEq, sel_and, sel_or, decide_eq_true_eq, Bool.and_eq_true, Bool.or_eq_true, Bool.and_true, Bool.true_and, Bool.or_false, Bool.false_or, Bool.true_or, Bool.or_true, Bool.not_true, Bool.not_false, Bool.false_eq_true, implies_true, not_false_eq_true, Nat.reduceLT, Nat.reduceEqDiff, Nat.reduceAdd, Nat.reduceMul, Nat.reduceMod, Nat.reduceLeDiff, Nat.reduceBEq, Nat.zero_add, Nat.add_zero, reduceIte, ↓reduceIte, List.not_mem_nil]
  have hp := rr_plain left D.k D.f (D.t.toList == (⟨#[]⟩ : ByteArray).toList) (D.kids.all (right (left - 1))) D.kids.length (fun h => by rw [List.eq_nil_of_length_eq_zero h]; rfl)
  rw [right_eq, rightC, hp]
  by_cases c : (((D.k < 1 ∨ D.k > 7) ∨ D.k ≥ 5 ∧ left ≤ 0) ∨ (D.k != 1) = true ∧ ((!D.t.toList == (⟨#[]⟩ : ByteArray).toList) = true ∨ (D.f != 0) = true)) ∨ D.k < 5 ∧ (D.kids.length : Int) > 0
  · rw [if_pos c, if_pos c]
  · rw [if_neg c, if_neg c]
    have hleft : D.kids.length = 0 ∨ 0 < left := by
      rcases Int.lt_or_le 0 left with h | h
      · exact .inr h
      · refine .inl ?_
        have c' := c
        clear hp
        generalize (D.k != 1) = u1 at c'
        omega
    refine wpc_loop (fun j : Nat => ⟨65, [102], [(1, vInt .i64 left), (2, .ptr 102 0), (5, vInt .i64 j)], [(102, some (.cells 24 ((docD D).map .d)))]⟩)
      (fun j => j ≤ D.kids.length ∧ (D.kids.drop j).all (right (left - 1)) = D.kids.all (right (left - 1))) (fun j => D.kids.length - j) 0 ⟨Nat.zero_le _, rfl⟩ ?_ ?_
    · refine Le.of (fun _ => 2) [] ?_
      simp only [docD_eq, List.map_cons, List.map_nil, Mt_tup, Mt_agg, Mt_fn, forall_eq, forall_eq_or_imp, ne_eq, List.all_cons, List.all_nil, pr, Nat.reduceLeDiff, slR_nil, slR_cons, hpR_nil, hpR_cells, hpR_row, idsR_nil, idsR_cons, mtE_v, mtE_sl, mtE_nil, mtE_refl, mtE_row, mtE_born, mtE_ptr, mtE_rp, mtE_agg, mtE_tup, mtE_fn, mtE_ep, MtL_nil, MtL_cons, Mt_v, Mt_sl, Mt_nil, Mt_refl, Mt_row, Mt_born, Mt_ptr, MtO_cells, MtO_row, liveIds, distinct, Dat.v.injEq, Dat.sl.injEq, Value.int.injEq, Value.bool.injEq, Value.string.injEq, lk_cons, lk_nil, subL_nil, subL_cons, upIds, AV.ids, AV.ids.idsL, AObj.ids, Hp.get_cons, get_nil, allCell, AV.cell, vInt, vBool, vStr, id, true_and, and_true, and_self, List.append_nil, List.nil_append, List.not_mem_nil, List.mem_cons, or_false, false_or, or_self, not_true_eq_false, not_false_eq_true, false_imp_iff, false_implies, List.map_nil, not_false_eq_true, List.contains_cons, List.contains_nil, Bool.or_false, Bool.false_or, Bool.true_or, Bool.or_true, Bool.and_true, Bool.true_and, implies_true, if_true, if_false, reduceCtorEq, Nat.reduceEqDiff, Nat.reduceBEq, Nat.reduceAdd, reduceIte, ↓reduceIte]
      rfl
    · rintro j ⟨hj, hr⟩
      by_cases hj2 : (j : Int) < D.kids.length
      · obtain ⟨d, hd⟩ : ∃ d, D.kids[j]? = some d := ⟨_, List.getElem?_eq_getElem (by omega)⟩
        have hg := getD_doc hd
        simp only [docD_eq, List.map_cons, List.map_nil, hg, G_rr_at, calmE, F_dright, lim, left_of, docsOf_map, Doc.eta, AV.flat, AV.flat.flatL, List.length_map, goTG_val, goTG_new, goTG_up, goTG_none, goG_none, goG_new, goG_up, ne_eq, evK, evH, retHF, DRun_mk, runT_nil, runT_none, runT_guard, goT_val, goT_new, goT_store, goTH_true, goTH_false, evO, keys, Option.toList_some, Option.toList_none, nzL_nil, nzL_cons, nz_k, nz_sl, nz_nil, nz_agg, startL, evC, evV, goE_val, goE_new, goE_store, goH_true, goH_false, goG_val, lk_cons, lk_nil, lk_func, lk_int, lk_bool, lk_string, lk_slice, lk_agg, look_mk, St.effOf, eff, effCall, effBin, effUn, effConv, effPick, effNil, effFold, fold1, effLoad, effStore, effFieldAddr, effField, fieldOf, sliceOf, effIndexAddr, effIndex, effLen, effExtract, effSlice, bnd, effBuild, placesOf, effBuildSlice, effMakeSlice, effAppend, srcOf, fillA, chunk, seg, toD, toDs, put, eqAV, fieldsEq, leafEq, strip, unw, allB, selP_or, selP_and, tis, TyD.agg, AV.cells, AV.cell, allCell, vInt, vBool, vStr, subL_nil, subL_cons, upIds, AV.ids, AV.ids.idsL, AObj.ids, drops, Hp.get_cons, get_nil, retF, resL, one, fz, fz.fzL, List.map_cons, List.map_nil, List.nil_append, List.append_nil, List.cons_append, List.all_cons, List.all_nil, List.length_cons, List.length_nil, List.getElem?_cons_zero, List.getElem?_cons_succ, List.getD_cons_zero, List.getD_cons_succ, List.take_succ_cons, List.take_zero, List.drop_succ_cons, List.drop_zero, List.take_nil, List.drop_nil, List.contains_cons, List.contains_nil, Option.getD_some, Option.getD_none, Option.map_some, Option.map_none, if_true, if_false, true_and, and_true, and_self, or_self, or_false, false_or, false_and, and_false, reduceCtorEq, sel_and, sel_or, decide_eq_true_eq, Bool.and_eq_true, Bool.or_eq_true, Bool.and_true, Bool.true_and, Bool.or_false, Bool.false_or, Bool.true_or, Bool.or_true, Bool.not_true, Bool.not_false, Bool.false_eq_true, implies_true, not_false_eq_true, Nat.reduceLT, Nat.reduceEqDiff, Nat.reduceAdd, Nat.reduceMul, Nat.reduceMod, Nat.reduceLeDiff, Nat.reduceBEq, Nat.zero_add, Nat.add_zero, reduceIte, ↓reduceIte, List.not_mem_nil]
        rw [drop_at hd, List.all_cons] at hr
        have hl0 : 0 < left := by omega
        rw [if_pos hj2, w64 (n := left - 1) (by omega) (by omega)]
        refine ⟨by omega, ⟨⟨okDs_get h3.2.2 hd, by omega, by omega⟩, by omega⟩, ?_⟩
        cases hs : right (left - 1) d with
        | false =>
          rw [hs, Bool.false_and] at hr
          rw [if_pos (by decide), ← hr]
        | true =>
          rw [hs, Bool.true_and] at hr
          rw [if_neg (by decide)]
          refine ⟨j + 1, by omega, ⟨by omega, hr⟩, Le.of id [] ?_⟩
          simp only [docD_eq, List.map_cons, List.map_nil, Mt_tup, Mt_agg, Mt_fn, forall_eq, forall_eq_or_imp, ne_eq, List.all_cons, List.all_nil, pr, Nat.reduceLeDiff, slR_nil, slR_cons, hpR_nil, hpR_cells, hpR_row, idsR_nil, idsR_cons, mtE_v, mtE_sl, mtE_nil, mtE_refl, mtE_row, mtE_born, mtE_ptr, mtE_rp, mtE_agg, mtE_tup, mtE_fn, mtE_ep, MtL_nil, MtL_cons, Mt_v, Mt_sl, Mt_nil, Mt_refl, Mt_row, Mt_born, Mt_ptr, MtO_cells, MtO_row, liveIds, distinct, Dat.v.injEq, Dat.sl.injEq, Value.int.injEq, Value.bool.injEq, Value.string.injEq, lk_cons, lk_nil, subL_nil, subL_cons, upIds, AV.ids, AV.ids.idsL, AObj.ids, Hp.get_cons, get_nil, allCell, AV.cell, vInt, vBool, vStr, id, true_and, and_true, and_self, List.append_nil, List.nil_append, List.not_mem_nil, List.mem_cons, or_false, false_or, or_self, not_true_eq_false, not_false_eq_true, false_imp_iff, false_implies, List.map_nil, not_false_eq_true, List.contains_cons, List.contains_nil, Bool.or_false, Bool.false_or, Bool.true_or, Bool.or_true, Bool.and_true, Bool.true_and, implies_true, if_true, if_false, reduceCtorEq, Nat.reduceEqDiff, Nat.reduceBEq, Nat.reduceAdd, reduceIte, ↓reduceIte]
          exact w64 (by omega) (by omega)
      · simp only [docD_eq, List.map_cons, List.map_nil, G_rr_at, calmE, F_dright, lim, left_of, docsOf_map, Doc.eta, AV.flat, AV.flat.flatL, List.length_map, goTG_val, goTG_new, goTG_up, goTG_none, goG_none, goG_new, goG_up, ne_eq, evK, evH, retHF, DRun_mk, runT_nil, runT_none, runT_guard, goT_val, goT_new, goT_store, goTH_true, goTH_false, evO, keys, Option.toList_some, Option.toList_none, nzL_nil, nzL_cons, nz_k, nz_sl, nz_nil, nz_agg, startL, evC, evV, goE_val, goE_new, goE_store, goH_true, goH_false, goG_val, lk_cons, lk_nil, lk_func, lk_int, lk_bool, lk_string, lk_slice, lk_agg, look_mk, St.effOf, eff, effCall, effBin, effUn, effConv, effPick, effNil, effFold, fold1, effLoad, effStore, effFieldAddr, effField, fieldOf, sliceOf, effIndexAddr, effIndex, effLen, effExtract, effSlice, bnd, effBuild, placesOf, effBuildSlice, effMakeSlice, effAppend, srcOf, fillA, chunk, seg, toD, toDs, put, eqAV, fieldsEq, leafEq, strip, unw, allB, selP_or, selP_and, tis, TyD.agg, AV.cells, AV.cell, allCell, vInt, vBool, vStr, subL_nil, subL_cons, upIds, AV.ids, AV.ids.idsL, AObj.ids, drops, Hp.get_cons, get_nil, retF, resL, one, fz, fz.fzL, List.map_cons, List.map_nil, List.nil_append, List.append_nil, List.cons_append, List.all_cons, List.all_nil, List.length_cons, List.length_nil, List.getElem?_cons_zero, List.getElem?_cons_succ, List.getD_cons_zero, List.getD_cons_succ, List.take_succ_cons, List.take_zero, List.drop_succ_cons, List.drop_zero, List.take_nil, List.drop_nil, List.contains_cons, List.contains_nil, Option.getD_some, Option.getD_none, Option.map_some, Option.map_none, if_true, if_false, true_and, and_true, and_self, or_self, or_false, false_or, false_and, and_false, reduceCtorEq, sel_and, sel_or, decide_eq_true_eq, Bool.and_eq_true, Bool.or_eq_true, Bool.and_true, Bool.true_and, Bool.or_false, Bool.false_or, Bool.true_or, Bool.or_true, Bool.not_true, Bool.not_false, Bool.false_eq_true, implies_true, not_false_eq_true, Nat.reduceLT, Nat.reduceEqDiff, Nat.reduceAdd, Nat.reduceMul, Nat.reduceMod, Nat.reduceLeDiff, Nat.reduceBEq, Nat.zero_add, Nat.add_zero, reduceIte, ↓reduceIte, List.not_mem_nil]
        rw [if_neg hj2]
        rw [List.drop_eq_nil_of_le (by omega), List.all_nil] at hr
        rw [← hr]
theorem rright_calm : ∀ args sc res, F_dright args = some (sc, res) → sc → Calm Try.prog 33 args res := by
  refine (Known.none Try.prog).recur left_of fun n K args sc res h hs hn => ?_
  unfold F_dright at h
  split at h <;> cases h
  rename_i k f t ks left
  obtain ⟨q1, q2, q3, q4⟩ := hs
  rw [docD_args k f t q1]
  exact K.calm mixed rfl rfl (rright_body n left _ q3 q4 (Nat.le_of_eq hn) q2)
noncomputable def G_RD : Gam := Gam.none.add 33 fun a => F_dright (NT.nz.nzL [] a)
theorem G_RD_at (h : Nat → Option AObj) (d : Nat) (a : List AV) : G_RD 33 h d a = calmE (fun a => F_dright (NT.nz.nzL [] a)) h a := rfl
theorem RD_body (D : Doc) (h1 : okD D) : Body Try.prog G_RD (DRun Try.prog G_RD) 20 [.agg ((docD D).map .d)] (vBool (right 200 D)) := by
  refine Body.of Try.func20 Try.ntmps20 (by kernel_rfl) rfl rfl rfl ?_
  simp only [docD_eq, G_RD_at, calmE, F_dright, docsOf_map, Doc.eta, AV.flat, AV.flat.flatL, List.length_map, goTG_val, goTG_new, goTG_up, goTG_none, goG_none, goG_new, goG_up, ne_eq, evK, evH, retHF, DRun_mk, runT_nil, runT_none, runT_guard, goT_val, goT_new, goT_store, goTH_true, goTH_false, evO, keys, Option.toList_some, Option.toList_none, nzL_nil, nzL_cons, nz_k, nz_sl, nz_nil, nz_agg, startL, evC, evV, goE_val, goE_new, goE_store, goH_true, goH_false, goG_val, lk_cons, lk_nil, lk_func, lk_int, lk_bool, lk_string, lk_slice, lk_agg, look_mk, St.effOf, eff, effCall, effBin, effUn, effConv, effPick, effNil, effFold, fold1, effLoad, effStore, effFieldAddr, effField, fieldOf, sliceOf, effIndexAddr, effIndex, effLen, effExtract, effSlice, bnd, effBuild, placesOf, effBuildSlice, effMakeSlice, effAppend, srcOf, fillA, chunk, seg, toD, toDs, put, eqAV, fieldsEq, leafEq, strip, unw, allB, selP_or, selP_and, tis, TyD.agg, AV.cells, AV.cell, allCell, vInt, vBool, vStr, subL_nil, subL_cons, upIds, AV.ids, AV.ids.idsL, AObj.ids, drops, Hp.get_cons, get_nil, retF, resL, one, fz, fz.fzL, List.map_cons, List.map_nil, List.nil_append, List.append_nil, List.cons_append, List.all_cons, List.all_nil, List.length_cons, List.length_nil, List.getElem?_cons_zero, List.getElem?_cons_succ, List.getD_cons_zero, List.getD_cons_succ, List.take_succ_cons, List.take_zero, List.drop_succ_cons, List.drop_zero, List.take_nil, List.drop_nil, List.contains_cons, List.contains_nil, Option.getD_some, Option.getD_none, Option.map_some, Option.map_none, if_true, if_false, true_and, and_true, and_self, or_self, or_false, false_or, false_and, and_false, reduceCtorEq, sel_and, sel_or, decide_eq_true_eq, Bool.and_eq_true, Bool.or_eq_true, Bool.and_true, Bool.true_and, Bool.or_false, Bool.false_or, Bool.true_or, Bool.or_true, Bool.not_true, Bool.not_false, Bool.false_eq_true, implies_true, not_false_eq_true, Nat.reduceLT, Nat.reduceEqDiff, Nat.reduceAdd, Nat.reduceMul, Nat.reduceMod, Nat.reduceLeDiff, Nat.reduceBEq, Nat.zero_add, Nat.add_zero, reduceIte, ↓reduceIte, List.not_mem_nil]
  exact ⟨⟨h1, by decide, by decide⟩, Sub.refl _⟩
theorem RD_calm : ∀ args sc res, F_Right args = some (sc, res) → sc → Calm Try.prog 20 args res := by
  intro args sc res h hs
  unfold F_Right at h
  split at h <;> cases h
  rename_i k f t ks
  obtain ⟨q1, q2⟩ := hs
  rw [docD_args k f t q1]
  exact ((Known.none _).addC _ rright_calm).calm mixed rfl rfl (RD_body _ q2)
/- The reference's flat. -/
def rfJ (acc : List UInt8) (r : List UInt8 × Bool) : List UInt8 × Bool := if r.2 = true then (acc ++ r.1, true) else ([], false)
mutual
def rfS : Doc → List UInt8 × Bool
  | .mk k _ t l => if k = 1 then (t.data.toList, true) else if k = 2 then ([32], true) else if k = 3 then ([], true) else if k = 4 then ([], false) else rfL l
def rfL : List Doc → List UInt8 × Bool
  | [] => ([], true)
  | d :: l => if (rfS d).2 = true then rfJ (rfS d).1 (rfL l) else ([], false)
end
theorem rfS_eq (D : Doc) : rfS D = if D.k = 1 then (D.t.data.toList, true) else if D.k = 2 then ([32], true) else if D.k = 3 then ([], true) else if D.k = 4 then ([], false) else rfL D.kids := by cases D; rw [rfS]; rfl
theorem rfJ_len (acc : List UInt8) (r : List UInt8 × Bool) : (rfJ acc r).1.length ≤ acc.length + r.1.length := by
  unfold rfJ; split <;> simp
theorem rfJ_nil (r : List UInt8 × Bool) (h : r.2 = false → r.1 = []) : rfJ [] r = r := by
  obtain ⟨a, b⟩ := r
  cases b
  · have := h rfl; simp only at this; subst this; rfl
  · rfl
theorem rfJ_J (a b : List UInt8) (r : List UInt8 × Bool) : rfJ a (rfJ b r) = rfJ (a ++ b) r := by
  unfold rfJ
  cases r.2 <;> simp
mutual
theorem rfS_tot : ∀ d, (rfS d).1.length ≤ tot d
  | .mk k f t l => by
    have := rfL_tot l
    have hs := size_toList t
    rw [rfS, tot]
    (repeat' split) <;> (try simp only [List.length_cons, List.length_nil]) <;> omega
theorem rfL_tot : ∀ l, (rfL l).1.length ≤ tots l
  | [] => Nat.zero_le _
  | d :: l => by
    have h1 := rfS_tot d
    have h2 := rfL_tot l
    have h3 := rfJ_len (rfS d).1 (rfL l)
    rw [rfL, tots]
    split
    · omega
    · exact Nat.zero_le _
end
theorem rfL_false : ∀ l, (rfL l).2 = false → (rfL l).1 = []
  | [], h => by cases h
  | d :: l, h => by
    rw [rfL] at h ⊢
    split at h
    · rename_i h1
      rw [if_pos h1]
      unfold rfJ at h ⊢
      split at h
      · cases h
      · rename_i h2; rw [if_neg h2]
    · rename_i h1; rw [if_neg h1]
noncomputable def F_rflat : List AV → Option (Prop × AV)
  | [.agg [.d (.v (.int .i64 k)), .d (.v (.int .i64 f)), .d (.v (.string t)), .d (.sl 4 ks)]] => some (ks = (docsOf ks).map docD ∧ okD (.mk k f t (docsOf ks)) ∧ tot (.mk k f t (docsOf ks)) ≤ 1000000000, .tup [vStr ⟨(rfS (.mk k f t (docsOf ks))).1.toArray⟩, vBool (rfS (.mk k f t (docsOf ks))).2])
  | _ => none
noncomputable def rfμ : List AV → Nat
  | [.agg [_, _, _, .d (.sl 4 ks)]] => dszs (docsOf ks)
  | _ => 0
noncomputable def G_rf (n : Nat) : Gam := Gam.none.add 28 (lim F_rflat rfμ n)
theorem G_rf_at (n : Nat) (h : Nat → Option AObj) (d : Nat) (a : List AV) : G_rf n 28 h d a = calmE (lim F_rflat rfμ n) h a := rfl
theorem rflat_body (n : Nat) (D : Doc) (h2 : dszs D.kids ≤ n) (h3 : okD D) (h4 : tot D ≤ 1000000000) : Body Try.prog (G_rf n) (DRun Try.prog (G_rf n)) 28 [.agg ((docD D).map .d)] (.tup [vStr ⟨(rfS D).1.toArray⟩, vBool (rfS D).2]) := by
  refine Body.of Try.func28 Try.ntmps28 (by kernel_rfl) rfl rfl rfl ?_
  rw [okD_eq] at h3
  have hk : D.kids.length ≤ 9223372036854775807 := h3.2.1
  rw [rfS_eq]
  simp only [docD_eq, G_rf_at, calmE, F_rflat, lim, rfμ, docsOf_map, Doc.eta, AV.flat, AV.flat.flatL, List.length_map, goTG_val, goTG_new, goTG_up, goTG_none, goG_none, goG_new, goG_up, ne_eq, evK, evH, retHF, DRun_mk, runT_nil, runT_none, runT_guard, goT_val, goT_new, goT_store, goTH_true, goTH_false, evO, keys, Option.toList_some, Option.toList_none, nzL_nil, nzL_cons, nz_k, nz_sl, nz_nil, nz_agg, startL, evC, evV, goE_val, goE_new, goE_store, goH_true, goH_false, goG_val, lk_cons, lk_nil, lk_func, lk_int, lk_bool, lk_string, lk_slice, lk_agg, look_mk, St.effOf, eff, effCall, effBin, effUn, effConv, effPick, effNil, effFold, fold1, effLoad, effStore, effFieldAddr, effField, fieldOf, sliceOf, effIndexAddr, effIndex, effLen, effExtract, effSlice, bnd, effBuild, placesOf, effBuildSlice, effMakeSlice, effAppend, srcOf, fillA, chunk, seg, toD, toDs, put, eqAV, fieldsEq, leafEq, strip, unw, allB, selP_or, selP_and, tis, TyD.agg, AV.cells, AV.cell, allCell, vInt, vBool, vStr, subL_nil, subL_cons, upIds, AV.ids, AV.ids.idsL, AObj.ids, drops, Hp.get_cons, get_nil, retF, resL, one, fz, fz.fzL, List.map_cons, List.map_nil, List.nil_append, List.append_nil, List.cons_append, List.all_cons, List.all_nil, List.length_cons, List.length_nil, List.getElem?_cons_zero, List.getElem?_cons_succ, List.getD_cons_zero, List.getD_cons_succ, List.take_succ_cons, List.take_zero, List.drop_succ_cons, List.drop_zero, List.take_nil, List.drop_nil, List.contains_cons, List.contains_nil, Option.getD_some, Option.getD_none, Option.map_some, Option.map_none, if_true, if_false, true_and, and_true, and_self, or_self, or_false, false_or, false_and, and_false, reduceCtorEq, sel_and, sel_or, decide_eq_true_eq, Bool.and_eq_true, Bool.or_eq_true, Bool.and_true, Bool.true_and, Bool.or_false, Bool.false_or, Bool.true_or, Bool.or_true, Bool.not_true, Bool.not_false, Bool.false_eq_true, implies_true, not_false_eq_true, Nat.reduceLT, Nat.reduceEqDiff, Nat.reduceAdd, Nat.reduceMul, Nat.reduceMod, Nat.reduceLeDiff, Nat.reduceBEq, Nat.zero_add, Nat.add_zero, reduceIte, ↓reduceIte, List.not_mem_nil]
  by_cases k1 : D.k = 1
  · rw [if_pos (by simp [k1]), if_pos k1]
  rw [if_neg (by simpa using k1), if_neg k1]
  by_cases k2 : D.k = 2
  · rw [if_pos (by simp [k2]), if_pos k2]
  rw [if_neg (by simpa using k2), if_neg k2]
  by_cases k3 : D.k = 3
  · rw [if_pos (by simp [k3]), if_pos k3]
  rw [if_neg (by simpa using k3), if_neg k3]
  by_cases k4 : D.k = 4
  · rw [if_pos (by simp [k4]), if_pos k4]
  rw [if_neg (by simpa using k4), if_neg k4]
  have h5 : tots D.kids ≤ 1000000000 := by cases D; rw [tot] at h4; simp only [Doc.kids]; omega
  refine wpc_loop (fun p : List UInt8 × Nat => ⟨42, [101], [(1, .ptr 101 0), (4, vStr ⟨p.1.toArray⟩), (5, vInt .i64 p.2)], [(101, some (.cells 24 ((docD D).map .d)))]⟩)
    (fun p => p.2 ≤ D.kids.length ∧ p.1.length + tots (D.kids.drop p.2) ≤ 1000000000 ∧ rfJ p.1 (rfL (D.kids.drop p.2)) = rfL D.kids) (fun p => D.kids.length - p.2) ([], 0) ⟨Nat.zero_le _, by simpa using h5, rfJ_nil _ (rfL_false _)⟩ ?_ ?_
  · refine Le.of (fun _ => 1) [] ?_
    simp only [docD_eq, List.map_cons, List.map_nil, Mt_tup, Mt_agg, Mt_fn, forall_eq, forall_eq_or_imp, ne_eq, List.all_cons, List.all_nil, pr, Nat.reduceLeDiff, slR_nil, slR_cons, hpR_nil, hpR_cells, hpR_row, idsR_nil, idsR_cons, mtE_v, mtE_sl, mtE_nil, mtE_refl, mtE_row, mtE_born, mtE_ptr, mtE_rp, mtE_agg, mtE_tup, mtE_fn, mtE_ep, MtL_nil, MtL_cons, Mt_v, Mt_sl, Mt_nil, Mt_refl, Mt_row, Mt_born, Mt_ptr, MtO_cells, MtO_row, liveIds, distinct, Dat.v.injEq, Dat.sl.injEq, Value.int.injEq, Value.bool.injEq, Value.string.injEq, lk_cons, lk_nil, subL_nil, subL_cons, upIds, AV.ids, AV.ids.idsL, AObj.ids, Hp.get_cons, get_nil, allCell, AV.cell, vInt, vBool, vStr, id, true_and, and_true, and_self, List.append_nil, List.nil_append, List.not_mem_nil, List.mem_cons, or_false, false_or, or_self, not_true_eq_false, not_false_eq_true, false_imp_iff, false_implies, List.map_nil, not_false_eq_true, List.contains_cons, List.contains_nil, Bool.or_false, Bool.false_or, Bool.true_or, Bool.or_true, Bool.and_true, Bool.true_and, implies_true, if_true, if_false, reduceCtorEq, Nat.reduceEqDiff, Nat.reduceBEq, Nat.reduceAdd, reduceIte, ↓reduceIte]
    rfl
  · rintro ⟨acc, j⟩ ⟨hj, hb, hr⟩
    simp only [] at hj hb hr
    by_cases hj2 : (j : Int) < D.kids.length
    · obtain ⟨d, hd⟩ : ∃ d, D.kids[j]? = some d := ⟨_, List.getElem?_eq_getElem (by omega)⟩
      have hg := getD_doc hd
      simp only [docD_eq, List.map_cons, List.map_nil, hg, G_rf_at, calmE, F_rflat, lim, rfμ, docsOf_map, Doc.eta, AV.flat, AV.flat.flatL, List.length_map, goTG_val, goTG_new, goTG_up, goTG_none, goG_none, goG_new, goG_up, ne_eq, evK, evH, retHF, DRun_mk, runT_nil, runT_none, runT_guard, goT_val, goT_new, goT_store, goTH_true, goTH_false, evO, keys, Option.toList_some, Option.toList_none, nzL_nil, nzL_cons, nz_k, nz_sl, nz_nil, nz_agg, startL, evC, evV, goE_val, goE_new, goE_store, goH_true, goH_false, goG_val, lk_cons, lk_nil, lk_func, lk_int, lk_bool, lk_string, lk_slice, lk_agg, look_mk, St.effOf, eff, effCall, effBin, effUn, effConv, effPick, effNil, effFold, fold1, effLoad, effStore, effFieldAddr, effField, fieldOf, sliceOf, effIndexAddr, effIndex, effLen, effExtract, effSlice, bnd, effBuild, placesOf, effBuildSlice, effMakeSlice, effAppend, srcOf, fillA, chunk, seg, toD, toDs, put, eqAV, fieldsEq, leafEq, strip, unw, allB, selP_or, selP_and, tis, TyD.agg, AV.cells, AV.cell, allCell, vInt, vBool, vStr, subL_nil, subL_cons, upIds, AV.ids, AV.ids.idsL, AObj.ids, drops, Hp.get_cons, get_nil, retF, resL, one, fz, fz.fzL, List.map_cons, List.map_nil, List.nil_append, List.append_nil, List.cons_append, List.all_cons, List.all_nil, List.length_cons, List.length_nil, List.getElem?_cons_zero, List.getElem?_cons_succ, List.getD_cons_zero, List.getD_cons_succ, List.take_succ_cons, List.take_zero, List.drop_succ_cons, List.drop_zero, List.take_nil, List.drop_nil, List.contains_cons, List.contains_nil, Option.getD_some, Option.getD_none, Option.map_some, Option.map_none, if_true, if_false, true_and, and_true, and_self, or_self, or_false, false_or, false_and, and_false, reduceCtorEq, sel_and, sel_or, decide_eq_true_eq, Bool.and_eq_true, Bool.or_eq_true, Bool.and_true, Bool.true_and, Bool.or_false, Bool.false_or, Bool.true_or, Bool.or_true, Bool.not_true, Bool.not_false, Bool.false_eq_true, implies_true, not_false_eq_true, Nat.reduceLT, Nat.reduceEqDiff, Nat.reduceAdd, Nat.reduceMul, Nat.reduceMod, Nat.reduceLeDiff, Nat.reduceBEq, Nat.zero_add, Nat.add_zero, reduceIte, ↓reduceIte, List.not_mem_nil]
      rw [drop_at hd, rfL] at hr
      rw [drop_at hd, tots] at hb
      have ht := rfS_tot d
      rw [if_pos hj2]
      refine ⟨by omega, ⟨⟨okDs_get h3.2.2 hd, by omega⟩, Nat.lt_of_lt_of_le (dszs_get hd) h2⟩, ?_⟩
      cases hs : (rfS d).2 with
      | false =>
        rw [hs, if_neg (by decide)] at hr
        rw [if_pos (by decide), ← hr]
        exact Sub.refl _
      | true =>
        rw [hs, if_pos rfl, rfJ_J] at hr
        rw [if_neg (by decide)]
        have e1 : ∀ l : List UInt8, (⟨l.toArray⟩ : ByteArray).size = l.length := fun l => by rw [ByteArray.size]; simp
        have e2 : (⟨acc.toArray⟩ : ByteArray) ++ ⟨(rfS d).1.toArray⟩ = ⟨(acc ++ (rfS d).1).toArray⟩ := by
          apply ByteArray.ext
          simp
        rw [e1, e1, e2]
        refine ⟨by omega, (acc ++ (rfS d).1, j + 1), by simp only []; omega, ⟨by simp only []; omega, by simp only [List.length_append]; omega, hr⟩, Le.of id [] ?_⟩
        simp only [docD_eq, List.map_cons, List.map_nil, Mt_tup, Mt_agg, Mt_fn, forall_eq, forall_eq_or_imp, ne_eq, List.all_cons, List.all_nil, pr, Nat.reduceLeDiff, slR_nil, slR_cons, hpR_nil, hpR_cells, hpR_row, idsR_nil, idsR_cons, mtE_v, mtE_sl, mtE_nil, mtE_refl, mtE_row, mtE_born, mtE_ptr, mtE_rp, mtE_agg, mtE_tup, mtE_fn, mtE_ep, MtL_nil, MtL_cons, Mt_v, Mt_sl, Mt_nil, Mt_refl, Mt_row, Mt_born, Mt_ptr, MtO_cells, MtO_row, liveIds, distinct, Dat.v.injEq, Dat.sl.injEq, Value.int.injEq, Value.bool.injEq, Value.string.injEq, lk_cons, lk_nil, subL_nil, subL_cons, upIds, AV.ids, AV.ids.idsL, AObj.ids, Hp.get_cons, get_nil, allCell, AV.cell, vInt, vBool, vStr, id, true_and, and_true, and_self, List.append_nil, List.nil_append, List.not_mem_nil, List.mem_cons, or_false, false_or, or_self, not_true_eq_false, not_false_eq_true, false_imp_iff, false_implies, List.map_nil, not_false_eq_true, List.contains_cons, List.contains_nil, Bool.or_false, Bool.false_or, Bool.true_or, Bool.or_true, Bool.and_true, Bool.true_and, implies_true, if_true, if_false, reduceCtorEq, Nat.reduceEqDiff, Nat.reduceBEq, Nat.reduceAdd, reduceIte, ↓reduceIte]
        exact w64 (by omega) (by omega)
    · simp only [docD_eq, List.map_cons, List.map_nil, G_rf_at, calmE, F_rflat, lim, rfμ, docsOf_map, Doc.eta, AV.flat, AV.flat.flatL, List.length_map, goTG_val, goTG_new, goTG_up, goTG_none, goG_none, goG_new, goG_up, ne_eq, evK, evH, retHF, DRun_mk, runT_nil, runT_none, runT_guard, goT_val, goT_new, goT_store, goTH_true, goTH_false, evO, keys, Option.toList_some, Option.toList_none, nzL_nil, nzL_cons, nz_k, nz_sl, nz_nil, nz_agg, startL, evC, evV, goE_val, goE_new, goE_store, goH_true, goH_false, goG_val, lk_cons, lk_nil, lk_func, lk_int, lk_bool, lk_string, lk_slice, lk_agg, look_mk, St.effOf, eff, effCall, effBin, effUn, effConv, effPick, effNil, effFold, fold1, effLoad, effStore, effFieldAddr, effField, fieldOf, sliceOf, effIndexAddr, effIndex, effLen, effExtract, effSlice, bnd, effBuild, placesOf, effBuildSlice, effMakeSlice, effAppend, srcOf, fillA, chunk, seg, toD, toDs, put, eqAV, fieldsEq, leafEq, strip, unw, allB, selP_or, selP_and, tis, TyD.agg, AV.cells, AV.cell, allCell, vInt, vBool, vStr, subL_nil, subL_cons, upIds, AV.ids, AV.ids.idsL, AObj.ids, drops, Hp.get_cons, get_nil, retF, resL, one, fz, fz.fzL, List.map_cons, List.map_nil, List.nil_append, List.append_nil, List.cons_append, List.all_cons, List.all_nil, List.length_cons, List.length_nil, List.getElem?_cons_zero, List.getElem?_cons_succ, List.getD_cons_zero, List.getD_cons_succ, List.take_succ_cons, List.take_zero, List.drop_succ_cons, List.drop_zero, List.take_nil, List.drop_nil, List.contains_cons, List.contains_nil, Option.getD_some, Option.getD_none, Option.map_some, Option.map_none, if_true, if_false, true_and, and_true, and_self, or_self, or_false, false_or, false_and, and_false, reduceCtorEq, sel_and, sel_or, decide_eq_true_eq, Bool.and_eq_true, Bool.or_eq_true, Bool.and_true, Bool.true_and, Bool.or_false, Bool.false_or, Bool.true_or, Bool.or_true, Bool.not_true, Bool.not_false, Bool.false_eq_true, implies_true, not_false_eq_true, Nat.reduceLT, Nat.reduceEqDiff, Nat.reduceAdd, Nat.reduceMul, Nat.reduceMod, Nat.reduceLeDiff, Nat.reduceBEq, Nat.zero_add, Nat.add_zero, reduceIte, ↓reduceIte, List.not_mem_nil]
      rw [if_neg hj2]
      rw [List.drop_eq_nil_of_le (by omega), rfL, rfJ, if_pos rfl, List.append_nil] at hr
      rw [← hr]
theorem rflat_calm : ∀ args sc res, F_rflat args = some (sc, res) → sc → Calm Try.prog 28 args res := by
  refine (Known.none Try.prog).recur rfμ fun n K args sc res h hs hn => ?_
  unfold F_rflat at h
  split at h <;> cases h
  rename_i k f t ks
  obtain ⟨q1, q2, q3⟩ := hs
  rw [docD_args k f t q1]
  exact K.calm mixed rfl rfl (rflat_body n _ (Nat.le_of_eq hn) q2 q3)
/- The two are one. -/
mutual
theorem rf_flat : ∀ (left : Int) (d : Doc), right left d = true → rfS d = if (flatS d).1 = true then ((flatS d).2.1, true) else ([], false)
  | left, .mk k f t l, h => by
    rw [right, rightC] at h
    rw [rfS, flatS]
    by_cases k1 : k = 1
    · rw [if_pos k1] at h
      have hl : l = [] := by
        apply List.eq_nil_of_length_eq_zero
        have : (l.length : Int) = 0 := by simpa using h
        omega
      subst hl
      rw [if_pos k1, if_neg (show ¬ k = 4 by omega)]
      simp only [if_pos k1, flatsS, if_true, List.append_nil]
    rw [if_neg k1] at h
    by_cases k2 : k = 2 ∨ k = 3 ∨ k = 4
    · rw [if_pos k2] at h
      have hl : l = [] := by
        split at h
        · rename_i h1
          apply List.eq_nil_of_length_eq_zero
          have : (l.length : Int) = 0 := by simpa using h1.1
          omega
        · cases h
      subst hl
      rcases k2 with rfl | rfl | rfl <;> simp [flatsS]
    rw [if_neg k2] at h
    simp only [if_neg k1, if_neg (show ¬ k = 2 by omega), if_neg (show ¬ k = 3 by omega), if_neg (show ¬ k = 4 by omega)]
    split at h
    · split at h
      · exact rfL_flats (left - 1) l h
      · cases h
    · cases h
theorem rfL_flats : ∀ (left : Int) (l : List Doc), rights left l = true → rfL l = if (flatsS l).1 = true then ((flatsS l).2.1, true) else ([], false)
  | _, [], _ => rfl
  | left, d :: l, h => by
    rw [rights, Bool.and_eq_true] at h
    rw [rfL, flatsS, rf_flat left d h.1]
    cases hd : (flatS d).1 with
    | false => simp [hd]
    | true =>
      simp only [if_true]
      rw [rfL_flats left l h.2, rfJ]
      cases hl : (flatsS l).1 <;> simp [hl]
end
mutual
theorem flatS_tot : ∀ d, (flatS d).2.1.length ≤ tot d
  | .mk k f t l => by
    have := flatsS_tot l
    have hs := size_toList t
    rw [flatS, tot]
    (repeat' split) <;> (try simp only [List.length_append, List.length_cons, List.length_nil]) <;> omega
theorem flatsS_tot : ∀ l, (flatsS l).2.1.length ≤ tots l
  | [] => Nat.zero_le _
  | d :: l => by
    have h1 := flatS_tot d
    have h2 := flatsS_tot l
    rw [flatsS, tots]
    (repeat' split) <;> (try simp only [List.length_append]) <;> omega
end
noncomputable def F_RFlat : List AV → Option (Prop × AV)
  | [.agg [.d (.v (.int .i64 k)), .d (.v (.int .i64 f)), .d (.v (.string t)), .d (.sl 4 ks)]] => some (ks = (docsOf ks).map docD ∧ okD (.mk k f t (docsOf ks)) ∧ tot (.mk k f t (docsOf ks)) ≤ 1000000000, .tup [vStr ⟨(flatT (.mk k f t (docsOf ks))).1.toArray⟩, vBool (flatT (.mk k f t (docsOf ks))).2])
  | _ => none
noncomputable def G_RF : Gam := (Gam.none.add 20 fun a => F_Right (NT.nz.nzL [] a)).add 28 fun a => F_rflat (NT.nz.nzL [] a)
theorem G_RF_at : (∀ h d a, G_RF 20 h d a = calmE (fun a => F_Right (NT.nz.nzL [] a)) h a) ∧ (∀ h d a, G_RF 28 h d a = calmE (fun a => F_rflat (NT.nz.nzL [] a)) h a) := ⟨fun _ _ _ => rfl, fun _ _ _ => rfl⟩
theorem RF_body (D : Doc) (h1 : okD D) (h2 : tot D ≤ 1000000000) : Body Try.prog G_RF (DRun Try.prog G_RF) 21 [.agg ((docD D).map .d)] (.tup [vStr ⟨(flatT D).1.toArray⟩, vBool (flatT D).2]) := by
  have key : right 200 D = true → rfS D = flatT D := fun h => by
    rw [rf_flat 200 D h, flatT]
    cases (flatS D).1 <;> simp [h]
  cases hr : right 200 D
  all_goals
    refine Body.of Try.func21 Try.ntmps21 (by kernel_rfl) rfl rfl rfl ?_
    simp only [docD_eq, G_RF_at, calmE, F_Right, F_rflat, hr, docsOf_map, Doc.eta, AV.flat, AV.flat.flatL, List.length_map, goTG_val, goTG_new, goTG_up, goTG_none, goG_none, goG_new, goG_up, ne_eq, evK, evH, retHF, DRun_mk, runT_nil, runT_none, runT_guard, goT_val, goT_new, goT_store, goTH_true, goTH_false, evO, keys, Option.toList_some, Option.toList_none, nzL_nil, nzL_cons, nz_k, nz_sl, nz_nil, nz_agg, startL, evC, evV, goE_val, goE_new, goE_store, goH_true, goH_false, goG_val, lk_cons, lk_nil, lk_func, lk_int, lk_bool, lk_string, lk_slice, lk_agg, look_mk, St.effOf, eff, effCall, effBin, effUn, effConv, effPick, effNil, effFold, fold1, effLoad, effStore, effFieldAddr, effField, fieldOf, sliceOf, effIndexAddr, effIndex, effLen, effExtract, effSlice, bnd, effBuild, placesOf, effBuildSlice, effMakeSlice, effAppend, srcOf, fillA, chunk, seg, toD, toDs, put, eqAV, fieldsEq, leafEq, strip, unw, allB, selP_or, selP_and, tis, TyD.agg, AV.cells, AV.cell, allCell, vInt, vBool, vStr, subL_nil, subL_cons, upIds, AV.ids, AV.ids.idsL, AObj.ids, drops, Hp.get_cons, get_nil, retF, resL, one, fz, fz.fzL, List.map_cons, List.map_nil, List.nil_append, List.append_nil, List.cons_append, List.all_cons, List.all_nil, List.length_cons, List.length_nil, List.getElem?_cons_zero, List.getElem?_cons_succ, List.getD_cons_zero, List.getD_cons_succ, List.take_succ_cons, List.take_zero, List.drop_succ_cons, List.drop_zero, List.take_nil, List.drop_nil, List.contains_cons, List.contains_nil, Option.getD_some, Option.getD_none, Option.map_some, Option.map_none, if_true, if_false, true_and, and_true, and_self, or_self, or_false, false_or, false_and, and_false, reduceCtorEq, sel_and, sel_or, decide_eq_true_eq, Bool.and_eq_true, Bool.or_eq_true, Bool.and_true, Bool.true_and, Bool.or_false, Bool.false_or, Bool.true_or, Bool.or_true, Bool.not_true, Bool.not_false, Bool.false_eq_true, implies_true, not_false_eq_true, Nat.reduceLT, Nat.reduceEqDiff, Nat.reduceAdd, Nat.reduceMul, Nat.reduceMod, Nat.reduceLeDiff, Nat.reduceBEq, Nat.zero_add, Nat.add_zero, reduceIte, ↓reduceIte, List.not_mem_nil]
  · rw [show flatT D = ([], false) by simp [flatT, hr]]
    exact ⟨h1, Sub.refl _⟩
  · rw [← key hr]
    exact ⟨h1, ⟨h1, h2⟩, Sub.refl _⟩
theorem RF_calm : ∀ args sc res, F_RFlat args = some (sc, res) → sc → Calm Try.prog 21 args res := by
  intro args sc res h hs
  unfold F_RFlat at h
  split at h <;> cases h
  rename_i k f t ks
  obtain ⟨q1, q2, q3⟩ := hs
  rw [docD_args k f t q1]
  exact (((Known.none _).addC _ RD_calm).addC _ rflat_calm).calm mixed rfl rfl (RF_body _ q2 q3)
end Go.Proofs.Ythcgkfgkknofnaa.Eng
