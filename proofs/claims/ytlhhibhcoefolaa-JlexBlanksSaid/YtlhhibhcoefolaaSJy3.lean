/- The reference's texts of JSON, on the small machine. -/
import Derived.Test.YtlhhibhcoefolaaSJy2
namespace Go.Proofs.Ytlhhibhcoefolaa.Eng
open Go Go.Proofs.Ytlhhibhcoefolaa.Base
set_option maxRecDepth 100000
set_option linter.unusedSimpArgs false
set_option linter.unusedVariables false
theorem hex4_all {l : List Int} (hb : Bytes l) (m : Nat) : hex4B (l.drop m) = true ↔ ∀ j, j < 4 → m + j < l.length ∧ 0 ≤ Jstr.hexv (l.getD (m + j) 0) := by
  have hbd : Bytes (l.drop m) := fun x hx => hb x (List.mem_of_mem_drop hx)
  have hg : ∀ j, l.getD (m + j) 0 = (l.drop m).getD j 0 := fun j => by rw [List.getD_eq_getElem?_getD, List.getD_eq_getElem?_getD, List.getElem?_drop]
  have hl : (l.drop m).length = l.length - m := List.length_drop
  simp only [hg]
  rw [hex4B_iff hbd]
  constructor
  · intro h j hj
    have h4 := Jlex.hex4_len h
    refine ⟨by omega, ?_⟩
    generalize l.drop m = u at h
    rcases u with _ | ⟨p, _ | ⟨q, _ | ⟨r, _ | ⟨s, t⟩⟩⟩⟩
    · exact h.elim
    · exact h.elim
    · exact h.elim
    · exact h.elim
    · obtain ⟨h1, h2, h3, h4⟩ := h
      obtain rfl | rfl | rfl | rfl : j = 0 ∨ j = 1 ∨ j = 2 ∨ j = 3 := by omega
      · exact h1
      · exact h2
      · exact h3
      · exact h4
  · intro h
    have h0 := h 0 (by omega)
    have h1 := h 1 (by omega)
    have h2 := h 2 (by omega)
    have h3 := h 3 (by omega)
    have h4 : 4 ≤ (l.drop m).length := by omega
    generalize l.drop m = u at h0 h1 h2 h3 h4
    rcases u with _ | ⟨p, _ | ⟨q, _ | ⟨r, _ | ⟨s, t⟩⟩⟩⟩
    · simp at h4
    · simp at h4
    · simp at h4
    · simp at h4
    · exact ⟨h0.2, h1.2, h2.2, h3.2⟩
def escL : List Int := [34, 92, 47, 98, 102, 110, 114, 116]
def escP (j : Nat) (d : Int) : Bool := (escL.take j).contains d
theorem escP_step {j : Nat} (hj : j < 8) (d : Int) : escP (j + 1) d = (escP j d || d == escL.getD j 0) := by
  unfold escP
  have : escL[j]? = some (escL.getD j 0) := by
    obtain rfl | rfl | rfl | rfl | rfl | rfl | rfl | rfl : j = 0 ∨ j = 1 ∨ j = 2 ∨ j = 3 ∨ j = 4 ∨ j = 5 ∨ j = 6 ∨ j = 7 := by omega
    all_goals rfl
  rw [List.take_add_one, this, Option.toList_some, Bool.eq_iff_iff]
  simp only [List.contains_eq_mem, List.mem_append, List.mem_singleton, Bool.or_eq_true, decide_eq_true_eq, beq_iff_eq]
theorem escP_all (d : Int) : escP 8 d = decide (Jstr.esc d) := by
  rw [Bool.eq_iff_iff, decide_eq_true_eq]
  unfold escP escL Jstr.esc
  simp
def ansT (l : List Int) (k : Nat) : Int := ansN k (Jlex.textLen (l.drop k))
noncomputable def G_rtx : Gam := (Gam.none.add 27 fun a => F_hexd (NT.nz.nzL [] a))
theorem known_G_rtx : Known Try.prog G_rtx := (Known.none _).addC _ hexd_calm
theorem G_rtx_at : (∀ h d a, G_rtx 27 h d a = calmE (fun a => F_hexd (NT.nz.nzL [] a)) h a) := fun _ _ _ => rfl
theorem rtx_body (l : List Int) (hb : Bytes l) (a : Nat) (hl : l.length ≤ 100000000) (ha : a < l.length) : Body Try.prog G_rtx (DRun Try.prog G_rtx) 18 [.d (bytesD l), vInt .i64 a] (vInt .i64 (ansN (a + 1) (Jlex.textLen (l.drop (a + 1))))) := by
  refine Body.of Try.func18 Try.ntmps18 (by kernel_rfl) rfl rfl rfl ?_
  have nz1 : ∀ xs, (NT.s 1).nz (.d (.sl 1 xs)) = .d (.sl 1 xs) := fun xs => rfl
  have wn : ∀ k j : Nat, k ≤ 1000000000 → j ≤ 100 → IntKind.i64.wrap ((k : Int) + (j : Int)) = ((k + j : Nat) : Int) := fun k j hk hj => by rw [w64 (by omega) (by omega)]; omega
  simp only [bytesD, num_iD, G_rtx_at, calmE, F_hexd, Int.toNat_natCast, AV.flat, AV.flat.flatL, List.length_map, Int.reduceLE, Int.reduceLT, Int.reduceGT, Int.reduceGE, Int.reduceBEq, Int.reduceBNe, Int.reduceEq, Int.reduceToNat, Int.reduceSub, Int.reduceAdd, Int.reduceMul, Int.reducePow, Int.reduceNeg, goTG_val, goTG_new, goTG_up, goTG_none, goG_none, goG_new, goG_up, ne_eq, evK, evH, retHF, DRun_mk, runT_nil, runT_none, runT_guard, goT_val, goT_new, goT_store, goTH_true, goTH_false, evO, keys, Option.toList_some, Option.toList_none, nzL_nil, nzL_cons, nz_k, nz_sl, nz_nil, nz_agg, startL, evC, evV, goE_val, goE_new, goE_store, goH_true, goH_false, goG_val, lk_cons, lk_nil, lk_func, lk_int, lk_bool, lk_string, lk_slice, lk_agg, look_mk, St.effOf, eff, effCall, effBinC, isConst, effBin, effUn, effConv, effPick, effNil, effFold, fold1, effLoad, effStore, effFieldAddr, effField, fieldOf, sliceOf, effIndexAddr, effIndex, effLen, effExtract, effSlice, dats, bnd, effBuild, placesOf, effBuildSlice, effMakeSlice, effAppend, srcOf, fillA, chunk, seg, toD, toDs, put, eqAV, fieldsEq, leafEq, strip, unw, allB, selP_or, selP_and, tis, TyD.agg, AV.cells, AV.cell, allCell, vInt, vBool, vStr, subL_nil, subL_cons, upIds, AV.ids, AV.ids.idsL, AObj.ids, drops, Hp.get_cons, get_nil, retF, resL, one, fz, fz.fzL, List.map_cons, List.map_nil, List.nil_append, List.append_nil, List.cons_append, List.all_cons, List.all_nil, List.length_cons, List.length_nil, List.getElem?_cons_zero, List.getElem?_cons_succ, List.getD_cons_zero, List.getD_cons_succ, List.take_succ_cons, List.take_zero, List.drop_succ_cons, List.drop_zero, List.take_nil, List.drop_nil, List.contains_cons, List.contains_nil, Option.getD_some, Option.getD_none, Option.map_some, Option.map_none, if_true, if_false, true_and, and_true, and_self, or_self, or_false, false_or, false_and, and_false, reduceCtorEq, sel_and, sel_or, decide_eq_true_eq, Bool.and_eq_true, Bool.or_eq_true, Bool.and_true, Bool.true_and, Bool.or_false, Bool.false_or, Bool.true_or, Bool.or_true, Bool.not_true, Bool.not_false, Bool.false_eq_true, implies_true, not_false_eq_true, Nat.reduceLT, Nat.reduceEqDiff, Nat.reduceAdd, Nat.reduceMul, Nat.reduceMod, Nat.reduceLeDiff, Nat.reduceBEq, Nat.zero_add, Nat.add_zero, reduceIte, ↓reduceIte, List.not_mem_nil]
  refine wpc_loop (fun k : Nat => ⟨103, [], [(0, .d (bytesD l)), (5, vInt .i64 k)], []⟩) (fun k => k ≤ l.length ∧ ansT l k = ansN (a + 1) (Jlex.textLen (l.drop (a + 1)))) (fun k => l.length - k) (a + 1) ⟨ha, rfl⟩ ?_ ?_
  · refine Le.of id [] ?_
    simp only [bytesD, Mt_tup, Mt_agg, Mt_fn, forall_eq, forall_eq_or_imp, ne_eq, List.all_cons, List.all_nil, pr, Nat.reduceLeDiff, slR_nil, slR_cons, hpR_nil, hpR_cells, hpR_row, idsR_nil, idsR_cons, mtE_v, mtE_sl, mtE_nil, mtE_refl, mtE_row, mtE_born, mtE_ptr, mtE_rp, mtE_agg, mtE_tup, mtE_fn, mtE_ep, MtL_nil, MtL_cons, Mt_v, Mt_sl, Mt_nil, Mt_refl, Mt_row, Mt_born, Mt_ptr, MtO_cells, MtO_row, liveIds, distinct, Dat.v.injEq, Dat.sl.injEq, Value.int.injEq, Value.bool.injEq, Value.string.injEq, lk_cons, lk_nil, subL_nil, subL_cons, upIds, AV.ids, AV.ids.idsL, AObj.ids, Hp.get_cons, get_nil, allCell, AV.cell, vInt, vBool, vStr, id, true_and, and_true, and_self, List.append_nil, List.nil_append, List.not_mem_nil, List.mem_cons, or_false, false_or, or_self, not_true_eq_false, not_false_eq_true, false_imp_iff, false_implies, List.map_nil, not_false_eq_true, List.contains_cons, List.contains_nil, Bool.or_false, Bool.false_or, Bool.true_or, Bool.or_true, Bool.and_true, Bool.true_and, implies_true, if_true, if_false, reduceCtorEq, Nat.reduceEqDiff, Nat.reduceBEq, Nat.reduceAdd, reduceIte, ↓reduceIte]
    rw [w64 (by omega) (by omega)]; omega
  · rintro k ⟨hk, hr⟩
    simp only [bytesD, getD_iD, iD, num_iD, nz1, G_rtx_at, calmE, F_hexd, Int.toNat_natCast, AV.flat, AV.flat.flatL, List.length_map, Int.reduceLE, Int.reduceLT, Int.reduceGT, Int.reduceGE, Int.reduceBEq, Int.reduceBNe, Int.reduceEq, Int.reduceToNat, Int.reduceSub, Int.reduceAdd, Int.reduceMul, Int.reducePow, Int.reduceNeg, goTG_val, goTG_new, goTG_up, goTG_none, goG_none, goG_new, goG_up, ne_eq, evK, evH, retHF, DRun_mk, runT_nil, runT_none, runT_guard, goT_val, goT_new, goT_store, goTH_true, goTH_false, evO, keys, Option.toList_some, Option.toList_none, nzL_nil, nzL_cons, nz_k, nz_sl, nz_nil, nz_agg, startL, evC, evV, goE_val, goE_new, goE_store, goH_true, goH_false, goG_val, lk_cons, lk_nil, lk_func, lk_int, lk_bool, lk_string, lk_slice, lk_agg, look_mk, St.effOf, eff, effCall, effBinC, isConst, effBin, effUn, effConv, effPick, effNil, effFold, fold1, effLoad, effStore, effFieldAddr, effField, fieldOf, sliceOf, effIndexAddr, effIndex, effLen, effExtract, effSlice, dats, bnd, effBuild, placesOf, effBuildSlice, effMakeSlice, effAppend, srcOf, fillA, chunk, seg, toD, toDs, put, eqAV, fieldsEq, leafEq, strip, unw, allB, selP_or, selP_and, tis, TyD.agg, AV.cells, AV.cell, allCell, vInt, vBool, vStr, subL_nil, subL_cons, upIds, AV.ids, AV.ids.idsL, AObj.ids, drops, Hp.get_cons, get_nil, retF, resL, one, fz, fz.fzL, List.map_cons, List.map_nil, List.nil_append, List.append_nil, List.cons_append, List.all_cons, List.all_nil, List.length_cons, List.length_nil, List.getElem?_cons_zero, List.getElem?_cons_succ, List.getD_cons_zero, List.getD_cons_succ, List.take_succ_cons, List.take_zero, List.drop_succ_cons, List.drop_zero, List.take_nil, List.drop_nil, List.contains_cons, List.contains_nil, Option.getD_some, Option.getD_none, Option.map_some, Option.map_none, if_true, if_false, true_and, and_true, and_self, or_self, or_false, false_or, false_and, and_false, reduceCtorEq, sel_and, sel_or, decide_eq_true_eq, Bool.and_eq_true, Bool.or_eq_true, Bool.and_true, Bool.true_and, Bool.or_false, Bool.false_or, Bool.true_or, Bool.or_true, Bool.not_true, Bool.not_false, Bool.false_eq_true, implies_true, not_false_eq_true, Nat.reduceLT, Nat.reduceEqDiff, Nat.reduceAdd, Nat.reduceMul, Nat.reduceMod, Nat.reduceLeDiff, Nat.reduceBEq, Nat.zero_add, Nat.add_zero, reduceIte, ↓reduceIte, List.not_mem_nil]
    by_cases h1 : k < l.length
    · rw [if_pos (by omega)]
      refine ⟨by omega, ?_⟩
      obtain ⟨c, t, h⟩ : ∃ c t, l.drop k = c :: t := by
        rcases h : l.drop k with _ | ⟨c, t⟩
        · have := List.drop_eq_nil_iff.1 h; omega
        · exact ⟨c, t, rfl⟩
      have hc := (getD_drop h).1
      have hbt : Bytes t := fun x hx => hb x ((List.drop_sublist k l).subset (by rw [h]; exact List.mem_cons_of_mem _ hx))
      have hlt := congrArg List.length h
      rw [List.length_drop, List.length_cons] at hlt
      unfold ansT at hr
      rw [h, textLen_step hbt] at hr
      rw [hc]
      simp only [beq_iff_eq, bne_iff_ne, ne_eq]
      by_cases c1 : c = 34
      · rw [if_pos c1]
        rw [if_pos c1] at hr
        rw [← hr, w64 (by omega) (by omega)]
        exact Sub.refl _
      rw [if_neg c1]
      rw [if_neg c1] at hr
      refine ⟨by omega, ?_⟩
      by_cases c2 : c < 32
      · rw [if_pos c2]
        rw [if_pos c2] at hr
        rw [← hr]
        exact Sub.refl _
      rw [if_neg c2]
      rw [if_neg c2] at hr
      refine ⟨by omega, ?_⟩
      by_cases c3 : c = 92
      · rw [if_neg (fun h => h c3)]
        rw [if_pos c3] at hr
        have e1 : IntKind.i64.wrap ((k : Int) + 1) = ((k + 1 : Nat) : Int) := wn k 1 (by omega) (by omega)
        have e2 : IntKind.i64.wrap ((k : Int) + 2) = ((k + 2 : Nat) : Int) := wn k 2 (by omega) (by omega)
        have e6 : IntKind.i64.wrap ((k : Int) + 6) = ((k + 6 : Nat) : Int) := wn k 6 (by omega) (by omega)
        simp only [e1, e2, Int.toNat_natCast]
        refine ⟨fun h => by omega, ?_⟩
        have ht1 := drop_tail h
        by_cases c4 : ((k + 1 : Nat) : Int) < (l.length : Int) ∧ l.getD (k + 1) 0 = 117
        · rw [if_pos c4]
          obtain ⟨d, t, rfl⟩ : ∃ d t', t = d :: t' := by
            rcases t with _ | ⟨d, t⟩
            · simp only [List.length_nil] at hlt; omega
            · exact ⟨d, t, rfl⟩
          have hd := (getD_drop ht1).1
          have hd117 : d = 117 := hd.symm.trans c4.2
          have ht2 : l.drop (k + 2) = t := drop_tail ht1
          have hesc : escN (d :: t) = if hex4B t = true then some 6 else none := by
            rw [escN_cons, hd117, if_neg (by decide)]
            by_cases q : hex4B t = true
            · rw [if_pos ⟨rfl, q⟩, if_pos q]
            · rw [if_neg (fun h => q h.2), if_neg q]
          have hall := hex4_all hb (k + 2)
          rw [ht2] at hall
          rw [hesc] at hr
          refine wpc_loop (fun j : Nat => ⟨103, [], [(0, .d (bytesD l)), (5, vInt .i64 k), (6, vInt .i64 ((k + 2 + j : Nat) : Int))], []⟩) (fun j => j ≤ 4 ∧ ∀ i, i < j → k + 2 + i < l.length ∧ 0 ≤ Jstr.hexv (l.getD (k + 2 + i) 0)) (fun j => 4 - j) 0 ⟨by omega, fun i hi => by omega⟩ ?_ ?_
          · refine Le.of id [] ?_
            simp only [bytesD, Mt_tup, Mt_agg, Mt_fn, forall_eq, forall_eq_or_imp, ne_eq, List.all_cons, List.all_nil, pr, Nat.reduceLeDiff, slR_nil, slR_cons, hpR_nil, hpR_cells, hpR_row, idsR_nil, idsR_cons, mtE_v, mtE_sl, mtE_nil, mtE_refl, mtE_row, mtE_born, mtE_ptr, mtE_rp, mtE_agg, mtE_tup, mtE_fn, mtE_ep, MtL_nil, MtL_cons, Mt_v, Mt_sl, Mt_nil, Mt_refl, Mt_row, Mt_born, Mt_ptr, MtO_cells, MtO_row, liveIds, distinct, Dat.v.injEq, Dat.sl.injEq, Value.int.injEq, Value.bool.injEq, Value.string.injEq, lk_cons, lk_nil, subL_nil, subL_cons, upIds, AV.ids, AV.ids.idsL, AObj.ids, Hp.get_cons, get_nil, allCell, AV.cell, vInt, vBool, vStr, id, true_and, and_true, and_self, List.append_nil, List.nil_append, List.not_mem_nil, List.mem_cons, or_false, false_or, or_self, not_true_eq_false, not_false_eq_true, false_imp_iff, false_implies, List.map_nil, not_false_eq_true, List.contains_cons, List.contains_nil, Bool.or_false, Bool.false_or, Bool.true_or, Bool.or_true, Bool.and_true, Bool.true_and, implies_true, if_true, if_false, reduceCtorEq, Nat.reduceEqDiff, Nat.reduceBEq, Nat.reduceAdd, reduceIte, ↓reduceIte]
          · rintro j ⟨hj, hj2⟩
            have f1 : IntKind.i64.wrap (((k + 2 + j : Nat) : Int) + 1) = ((k + 2 + j + 1 : Nat) : Int) := wn (k + 2 + j) 1 (by omega) (by omega)
            simp only [bytesD, getD_iD, iD, num_iD, nz1, e6, f1, G_rtx_at, calmE, F_hexd, Int.toNat_natCast, AV.flat, AV.flat.flatL, List.length_map, Int.reduceLE, Int.reduceLT, Int.reduceGT, Int.reduceGE, Int.reduceBEq, Int.reduceBNe, Int.reduceEq, Int.reduceToNat, Int.reduceSub, Int.reduceAdd, Int.reduceMul, Int.reducePow, Int.reduceNeg, goTG_val, goTG_new, goTG_up, goTG_none, goG_none, goG_new, goG_up, ne_eq, evK, evH, retHF, DRun_mk, runT_nil, runT_none, runT_guard, goT_val, goT_new, goT_store, goTH_true, goTH_false, evO, keys, Option.toList_some, Option.toList_none, nzL_nil, nzL_cons, nz_k, nz_sl, nz_nil, nz_agg, startL, evC, evV, goE_val, goE_new, goE_store, goH_true, goH_false, goG_val, lk_cons, lk_nil, lk_func, lk_int, lk_bool, lk_string, lk_slice, lk_agg, look_mk, St.effOf, eff, effCall, effBinC, isConst, effBin, effUn, effConv, effPick, effNil, effFold, fold1, effLoad, effStore, effFieldAddr, effField, fieldOf, sliceOf, effIndexAddr, effIndex, effLen, effExtract, effSlice, dats, bnd, effBuild, placesOf, effBuildSlice, effMakeSlice, effAppend, srcOf, fillA, chunk, seg, toD, toDs, put, eqAV, fieldsEq, leafEq, strip, unw, allB, selP_or, selP_and, tis, TyD.agg, AV.cells, AV.cell, allCell, vInt, vBool, vStr, subL_nil, subL_cons, upIds, AV.ids, AV.ids.idsL, AObj.ids, drops, Hp.get_cons, get_nil, retF, resL, one, fz, fz.fzL, List.map_cons, List.map_nil, List.nil_append, List.append_nil, List.cons_append, List.all_cons, List.all_nil, List.length_cons, List.length_nil, List.getElem?_cons_zero, List.getElem?_cons_succ, List.getD_cons_zero, List.getD_cons_succ, List.take_succ_cons, List.take_zero, List.drop_succ_cons, List.drop_zero, List.take_nil, List.drop_nil, List.contains_cons, List.contains_nil, Option.getD_some, Option.getD_none, Option.map_some, Option.map_none, if_true, if_false, true_and, and_true, and_self, or_self, or_false, false_or, false_and, and_false, reduceCtorEq, sel_and, sel_or, decide_eq_true_eq, Bool.and_eq_true, Bool.or_eq_true, Bool.and_true, Bool.true_and, Bool.or_false, Bool.false_or, Bool.true_or, Bool.or_true, Bool.not_true, Bool.not_false, Bool.false_eq_true, implies_true, not_false_eq_true, Nat.reduceLT, Nat.reduceEqDiff, Nat.reduceAdd, Nat.reduceMul, Nat.reduceMod, Nat.reduceLeDiff, Nat.reduceBEq, Nat.zero_add, Nat.add_zero, reduceIte, ↓reduceIte, List.not_mem_nil]
            by_cases q : j < 4
            · rw [if_pos (by omega)]
              have hby : k + 2 + j < l.length → 0 ≤ l.getD (k + 2 + j) 0 ∧ l.getD (k + 2 + j) 0 < 256 := fun q => by
                rw [List.getD_eq_getElem?_getD, List.getElem?_eq_getElem q]
                exact hb _ (List.getElem_mem q)
              refine ⟨fun h => ?_, fun h => ?_, ?_⟩
              · simp only [Bool.not_eq_true', decide_eq_false_iff_not] at h; omega
              · simp only [Bool.not_eq_true', decide_eq_false_iff_not] at h; exact hby (by omega)
              by_cases q2 : ((k + 2 + j : Nat) : Int) ≥ (l.length : Int) ∨ Jstr.hexv (l.getD (k + 2 + j) 0) < 0
              · rw [if_pos q2]
                rw [if_neg (fun hq => by have := (hall.1 hq) j q; omega)] at hr
                rw [← hr]
                exact Sub.refl _
              · rw [if_neg q2]
                refine ⟨j + 1, by omega, ⟨by omega, fun i hi => ?_⟩, Le.of id [] ?_⟩
                · by_cases q3 : i = j
                  · subst q3; omega
                  · exact hj2 i (by omega)
                · simp only [bytesD, Mt_tup, Mt_agg, Mt_fn, forall_eq, forall_eq_or_imp, ne_eq, List.all_cons, List.all_nil, pr, Nat.reduceLeDiff, slR_nil, slR_cons, hpR_nil, hpR_cells, hpR_row, idsR_nil, idsR_cons, mtE_v, mtE_sl, mtE_nil, mtE_refl, mtE_row, mtE_born, mtE_ptr, mtE_rp, mtE_agg, mtE_tup, mtE_fn, mtE_ep, MtL_nil, MtL_cons, Mt_v, Mt_sl, Mt_nil, Mt_refl, Mt_row, Mt_born, Mt_ptr, MtO_cells, MtO_row, liveIds, distinct, Dat.v.injEq, Dat.sl.injEq, Value.int.injEq, Value.bool.injEq, Value.string.injEq, lk_cons, lk_nil, subL_nil, subL_cons, upIds, AV.ids, AV.ids.idsL, AObj.ids, Hp.get_cons, get_nil, allCell, AV.cell, vInt, vBool, vStr, id, true_and, and_true, and_self, List.append_nil, List.nil_append, List.not_mem_nil, List.mem_cons, or_false, false_or, or_self, not_true_eq_false, not_false_eq_true, false_imp_iff, false_implies, List.map_nil, not_false_eq_true, List.contains_cons, List.contains_nil, Bool.or_false, Bool.false_or, Bool.true_or, Bool.or_true, Bool.and_true, Bool.true_and, implies_true, if_true, if_false, reduceCtorEq, Nat.reduceEqDiff, Nat.reduceBEq, Nat.reduceAdd, reduceIte, ↓reduceIte]
                  rfl
            · rw [if_neg (by omega)]
              have hq : hex4B t = true := hall.2 (fun i hi => hj2 i (by omega))
              have := hj2 3 (by omega)
              rw [if_pos hq] at hr
              simp only [ansN_map] at hr
              refine ⟨k + 6, by omega, ⟨by omega, ?_⟩, Le.of id [] ?_⟩
              · unfold ansT; rw [← hr, ← h, List.drop_drop]
              · simp only [bytesD, Mt_tup, Mt_agg, Mt_fn, forall_eq, forall_eq_or_imp, ne_eq, List.all_cons, List.all_nil, pr, Nat.reduceLeDiff, slR_nil, slR_cons, hpR_nil, hpR_cells, hpR_row, idsR_nil, idsR_cons, mtE_v, mtE_sl, mtE_nil, mtE_refl, mtE_row, mtE_born, mtE_ptr, mtE_rp, mtE_agg, mtE_tup, mtE_fn, mtE_ep, MtL_nil, MtL_cons, Mt_v, Mt_sl, Mt_nil, Mt_refl, Mt_row, Mt_born, Mt_ptr, MtO_cells, MtO_row, liveIds, distinct, Dat.v.injEq, Dat.sl.injEq, Value.int.injEq, Value.bool.injEq, Value.string.injEq, lk_cons, lk_nil, subL_nil, subL_cons, upIds, AV.ids, AV.ids.idsL, AObj.ids, Hp.get_cons, get_nil, allCell, AV.cell, vInt, vBool, vStr, id, true_and, and_true, and_self, List.append_nil, List.nil_append, List.not_mem_nil, List.mem_cons, or_false, false_or, or_self, not_true_eq_false, not_false_eq_true, false_imp_iff, false_implies, List.map_nil, not_false_eq_true, List.contains_cons, List.contains_nil, Bool.or_false, Bool.false_or, Bool.true_or, Bool.or_true, Bool.and_true, Bool.true_and, implies_true, if_true, if_false, reduceCtorEq, Nat.reduceEqDiff, Nat.reduceBEq, Nat.reduceAdd, reduceIte, ↓reduceIte]
        · rw [if_neg c4]
          refine wpc_loop (fun j : Nat => ⟨103, [], [(0, .d (bytesD l)), (5, vInt .i64 k), (7, vBool (decide (k + 1 < l.length) && escP j (l.getD (k + 1) 0))), (8, vStr ⟨#[34, 92, 47, 98, 102, 110, 114, 116]⟩), (9, vInt .i64 j)], []⟩) (fun j => j ≤ 8) (fun j => 8 - j) 0 (by omega) ?_ ?_
          · refine Le.of id [] ?_
            simp only [bytesD, Mt_tup, Mt_agg, Mt_fn, forall_eq, forall_eq_or_imp, ne_eq, List.all_cons, List.all_nil, pr, Nat.reduceLeDiff, slR_nil, slR_cons, hpR_nil, hpR_cells, hpR_row, idsR_nil, idsR_cons, mtE_v, mtE_sl, mtE_nil, mtE_refl, mtE_row, mtE_born, mtE_ptr, mtE_rp, mtE_agg, mtE_tup, mtE_fn, mtE_ep, MtL_nil, MtL_cons, Mt_v, Mt_sl, Mt_nil, Mt_refl, Mt_row, Mt_born, Mt_ptr, MtO_cells, MtO_row, liveIds, distinct, Dat.v.injEq, Dat.sl.injEq, Value.int.injEq, Value.bool.injEq, Value.string.injEq, lk_cons, lk_nil, subL_nil, subL_cons, upIds, AV.ids, AV.ids.idsL, AObj.ids, Hp.get_cons, get_nil, allCell, AV.cell, vInt, vBool, vStr, id, true_and, and_true, and_self, List.append_nil, List.nil_append, List.not_mem_nil, List.mem_cons, or_false, false_or, or_self, not_true_eq_false, not_false_eq_true, false_imp_iff, false_implies, List.map_nil, not_false_eq_true, List.contains_cons, List.contains_nil, Bool.or_false, Bool.false_or, Bool.true_or, Bool.or_true, Bool.and_true, Bool.true_and, implies_true, if_true, if_false, reduceCtorEq, Nat.reduceEqDiff, Nat.reduceBEq, Nat.reduceAdd, reduceIte, ↓reduceIte]
            have e0 : escP 0 (l.getD (k + 1) 0) = false := rfl
            rw [e0, Bool.and_false]
            exact ⟨rfl, rfl⟩
          · intro j hj
            have hS : sB ⟨#[34, 92, 47, 98, 102, 110, 114, 116]⟩ = escL := rfl
            have hZ : ((ByteArray.size ⟨#[34, 92, 47, 98, 102, 110, 114, 116]⟩ : Nat) : Int) = 8 := rfl
            have f1 : IntKind.i64.wrap ((j : Int) + 1) = ((j + 1 : Nat) : Int) := wn j 1 (by omega) (by omega)
            simp only [bytesD, getD_iD, iD, num_iD, nz1, bt_sB, hS, hZ, e1, e2, f1, G_rtx_at, calmE, F_hexd, Int.toNat_natCast, AV.flat, AV.flat.flatL, List.length_map, Int.reduceLE, Int.reduceLT, Int.reduceGT, Int.reduceGE, Int.reduceBEq, Int.reduceBNe, Int.reduceEq, Int.reduceToNat, Int.reduceSub, Int.reduceAdd, Int.reduceMul, Int.reducePow, Int.reduceNeg, goTG_val, goTG_new, goTG_up, goTG_none, goG_none, goG_new, goG_up, ne_eq, evK, evH, retHF, DRun_mk, runT_nil, runT_none, runT_guard, goT_val, goT_new, goT_store, goTH_true, goTH_false, evO, keys, Option.toList_some, Option.toList_none, nzL_nil, nzL_cons, nz_k, nz_sl, nz_nil, nz_agg, startL, evC, evV, goE_val, goE_new, goE_store, goH_true, goH_false, goG_val, lk_cons, lk_nil, lk_func, lk_int, lk_bool, lk_string, lk_slice, lk_agg, look_mk, St.effOf, eff, effCall, effBinC, isConst, effBin, effUn, effConv, effPick, effNil, effFold, fold1, effLoad, effStore, effFieldAddr, effField, fieldOf, sliceOf, effIndexAddr, effIndex, effLen, effExtract, effSlice, dats, bnd, effBuild, placesOf, effBuildSlice, effMakeSlice, effAppend, srcOf, fillA, chunk, seg, toD, toDs, put, eqAV, fieldsEq, leafEq, strip, unw, allB, selP_or, selP_and, tis, TyD.agg, AV.cells, AV.cell, allCell, vInt, vBool, vStr, subL_nil, subL_cons, upIds, AV.ids, AV.ids.idsL, AObj.ids, drops, Hp.get_cons, get_nil, retF, resL, one, fz, fz.fzL, List.map_cons, List.map_nil, List.nil_append, List.append_nil, List.cons_append, List.all_cons, List.all_nil, List.length_cons, List.length_nil, List.getElem?_cons_zero, List.getElem?_cons_succ, List.getD_cons_zero, List.getD_cons_succ, List.take_succ_cons, List.take_zero, List.drop_succ_cons, List.drop_zero, List.take_nil, List.drop_nil, List.contains_cons, List.contains_nil, Option.getD_some, Option.getD_none, Option.map_some, Option.map_none, if_true, if_false, true_and, and_true, and_self, or_self, or_false, false_or, false_and, and_false, reduceCtorEq, sel_and, sel_or, decide_eq_true_eq, Bool.and_eq_true, Bool.or_eq_true, Bool.and_true, Bool.true_and, Bool.or_false, Bool.false_or, Bool.true_or, Bool.or_true, Bool.not_true, Bool.not_false, Bool.false_eq_true, implies_true, not_false_eq_true, Nat.reduceLT, Nat.reduceEqDiff, Nat.reduceAdd, Nat.reduceMul, Nat.reduceMod, Nat.reduceLeDiff, Nat.reduceBEq, Nat.zero_add, Nat.add_zero, reduceIte, ↓reduceIte, List.not_mem_nil]
            by_cases q : (j : Int) < 8 ∧ ((k + 1 : Nat) : Int) < (l.length : Int)
            · rw [if_pos q]
              refine ⟨fun _ => by omega, fun _ => by omega, by kernel_rfl, j + 1, by omega, by omega, Le.of id [] ?_⟩
              simp only [bytesD, Mt_tup, Mt_agg, Mt_fn, forall_eq, forall_eq_or_imp, ne_eq, List.all_cons, List.all_nil, pr, Nat.reduceLeDiff, slR_nil, slR_cons, hpR_nil, hpR_cells, hpR_row, idsR_nil, idsR_cons, mtE_v, mtE_sl, mtE_nil, mtE_refl, mtE_row, mtE_born, mtE_ptr, mtE_rp, mtE_agg, mtE_tup, mtE_fn, mtE_ep, MtL_nil, MtL_cons, Mt_v, Mt_sl, Mt_nil, Mt_refl, Mt_row, Mt_born, Mt_ptr, MtO_cells, MtO_row, liveIds, distinct, Dat.v.injEq, Dat.sl.injEq, Value.int.injEq, Value.bool.injEq, Value.string.injEq, lk_cons, lk_nil, subL_nil, subL_cons, upIds, AV.ids, AV.ids.idsL, AObj.ids, Hp.get_cons, get_nil, allCell, AV.cell, vInt, vBool, vStr, id, true_and, and_true, and_self, List.append_nil, List.nil_append, List.not_mem_nil, List.mem_cons, or_false, false_or, or_self, not_true_eq_false, not_false_eq_true, false_imp_iff, false_implies, List.map_nil, not_false_eq_true, List.contains_cons, List.contains_nil, Bool.or_false, Bool.false_or, Bool.true_or, Bool.or_true, Bool.and_true, Bool.true_and, implies_true, if_true, if_false, reduceCtorEq, Nat.reduceEqDiff, Nat.reduceBEq, Nat.reduceAdd, reduceIte, ↓reduceIte]
              rw [escP_step (by omega), decide_eq_true (show k + 1 < l.length by omega), Bool.true_and]
              cases escP j (l.getD (k + 1) 0)
              · simp
              · rw [if_pos ⟨by omega, rfl⟩]; rfl
            · rw [if_neg q]
              rcases t with _ | ⟨d, t⟩
              · simp only [List.length_nil] at hlt
                rw [decide_eq_false (show ¬ (k + 1 < l.length) by omega), Bool.false_and, Bool.not_false, if_pos rfl]
                have hr : (-1 : Int) = ansN (a + 1) (Jlex.textLen (l.drop (a + 1))) := hr
                rw [← hr]
              · simp only [List.length_cons] at hlt
                have hd := (getD_drop ht1).1
                have hj8 : j = 8 := by omega
                rw [hd] at c4 ⊢
                rw [escN_cons] at hr
                rw [decide_eq_true (show k + 1 < l.length by omega), Bool.true_and, hj8, escP_all]
                by_cases c5 : Jstr.esc d
                · rw [if_pos c5] at hr
                  simp only [ansN_map] at hr
                  rw [decide_eq_true c5, Bool.not_true, if_neg Bool.false_ne_true]
                  refine ⟨k + 2, by omega, ⟨by omega, ?_⟩, Le.of id [] ?_⟩
                  · unfold ansT; rw [← hr, ← h, List.drop_drop]
                  · simp only [bytesD, Mt_tup, Mt_agg, Mt_fn, forall_eq, forall_eq_or_imp, ne_eq, List.all_cons, List.all_nil, pr, Nat.reduceLeDiff, slR_nil, slR_cons, hpR_nil, hpR_cells, hpR_row, idsR_nil, idsR_cons, mtE_v, mtE_sl, mtE_nil, mtE_refl, mtE_row, mtE_born, mtE_ptr, mtE_rp, mtE_agg, mtE_tup, mtE_fn, mtE_ep, MtL_nil, MtL_cons, Mt_v, Mt_sl, Mt_nil, Mt_refl, Mt_row, Mt_born, Mt_ptr, MtO_cells, MtO_row, liveIds, distinct, Dat.v.injEq, Dat.sl.injEq, Value.int.injEq, Value.bool.injEq, Value.string.injEq, lk_cons, lk_nil, subL_nil, subL_cons, upIds, AV.ids, AV.ids.idsL, AObj.ids, Hp.get_cons, get_nil, allCell, AV.cell, vInt, vBool, vStr, id, true_and, and_true, and_self, List.append_nil, List.nil_append, List.not_mem_nil, List.mem_cons, or_false, false_or, or_self, not_true_eq_false, not_false_eq_true, false_imp_iff, false_implies, List.map_nil, not_false_eq_true, List.contains_cons, List.contains_nil, Bool.or_false, Bool.false_or, Bool.true_or, Bool.or_true, Bool.and_true, Bool.true_and, implies_true, if_true, if_false, reduceCtorEq, Nat.reduceEqDiff, Nat.reduceBEq, Nat.reduceAdd, reduceIte, ↓reduceIte]
                · rw [if_neg c5, if_neg (fun h => c4 ⟨by omega, h.1⟩)] at hr
                  rw [decide_eq_false c5, Bool.not_false, if_pos rfl, ← hr]
                  exact Sub.refl _
      · rw [if_pos c3]
        rw [if_neg c3, ansN_map] at hr
        refine ⟨k + 1, by omega, ⟨by omega, by unfold ansT; rw [← hr, drop_tail h]⟩, Le.of id [] ?_⟩
        simp only [bytesD, Mt_tup, Mt_agg, Mt_fn, forall_eq, forall_eq_or_imp, ne_eq, List.all_cons, List.all_nil, pr, Nat.reduceLeDiff, slR_nil, slR_cons, hpR_nil, hpR_cells, hpR_row, idsR_nil, idsR_cons, mtE_v, mtE_sl, mtE_nil, mtE_refl, mtE_row, mtE_born, mtE_ptr, mtE_rp, mtE_agg, mtE_tup, mtE_fn, mtE_ep, MtL_nil, MtL_cons, Mt_v, Mt_sl, Mt_nil, Mt_refl, Mt_row, Mt_born, Mt_ptr, MtO_cells, MtO_row, liveIds, distinct, Dat.v.injEq, Dat.sl.injEq, Value.int.injEq, Value.bool.injEq, Value.string.injEq, lk_cons, lk_nil, subL_nil, subL_cons, upIds, AV.ids, AV.ids.idsL, AObj.ids, Hp.get_cons, get_nil, allCell, AV.cell, vInt, vBool, vStr, id, true_and, and_true, and_self, List.append_nil, List.nil_append, List.not_mem_nil, List.mem_cons, or_false, false_or, or_self, not_true_eq_false, not_false_eq_true, false_imp_iff, false_implies, List.map_nil, not_false_eq_true, List.contains_cons, List.contains_nil, Bool.or_false, Bool.false_or, Bool.true_or, Bool.or_true, Bool.and_true, Bool.true_and, implies_true, if_true, if_false, reduceCtorEq, Nat.reduceEqDiff, Nat.reduceBEq, Nat.reduceAdd, reduceIte, ↓reduceIte]
        rw [w64 (by omega) (by omega)]; omega
    · rw [if_neg (by omega)]
      unfold ansT at hr
      rw [List.drop_eq_nil_of_le (by omega)] at hr
      rw [← hr]
      exact Sub.refl _
def F_rtx : List AV → Option (Prop × AV) := F_txj
theorem rtx_calm : ∀ args sc res, F_txj args = some (sc, res) → sc → Calm Try.prog 18 args res := by
  intro args sc res h hs
  unfold F_txj at h
  split at h <;> cases h
  rename_i xs a
  obtain ⟨h1, hb, h2, h3, h4⟩ := hs
  obtain ⟨k, rfl⟩ := Int.eq_ofNat_of_zero_le h3
  have hq := rtx_body (xs.map numOf) hb k (by simpa using h2) (by rw [List.length_map]; omega)
  rw [bytesD, ← h1] at hq
  exact known_G_rtx.calm mixed rfl rfl hq
end Go.Proofs.Ytlhhibhcoefolaa.Eng
