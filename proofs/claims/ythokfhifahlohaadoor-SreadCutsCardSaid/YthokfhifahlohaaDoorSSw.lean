/- The laws on mappings that are read: SreadWrong and SreadCuts. -/
import Derived.Test.YthokfhifahlohaaDoorSMps
namespace Go.Proofs.YthokfhifahlohaaDoor.Eng
open Go Go.Proofs.YthokfhifahlohaaDoor.Base
set_option maxRecDepth 100000
set_option linter.unusedSimpArgs false
set_option linter.unusedVariables false
instance sgEq : DecidableEq Sg := fun x y => if h : x.a = y.a ∧ x.b = y.b ∧ x.c = y.c ∧ x.d = y.d then isTrue (by cases x; cases y; simp only at h; obtain ⟨rfl, rfl, rfl, rfl⟩ := h; rfl) else isFalse fun e => h (by rw [e]; exact ⟨rfl, rfl, rfl, rfl⟩)
/-- The same, to be reckoned. -/
def readB (s : ByteArray) : List Sg × Bool :=
  match readP s with
  | some l => if okB none l = true ∧ mapT l = s then (l, true) else ([], false)
  | none => ([], false)
theorem readT_B (s : ByteArray) : readT s = readB s := by
  unfold readT readB
  cases readP s with
  | none => rfl
  | some l =>
    simp only []
    by_cases h : okS l l.length
    · by_cases h2 : mapT l = s
      · rw [if_pos ⟨h, h2⟩, if_pos ⟨(okS_iff l).1 h, h2⟩]
      · rw [if_neg (fun q => h2 q.2), if_neg (fun q => h2 q.2)]
    · rw [if_neg (fun q => h q.1), if_neg (fun q => h ((okS_iff l).2 q.1))]
def tabW : List (List UInt8) := [[], [65, 65, 65, 65], [65, 65, 65], [65, 65, 65, 65, 65], [65, 67, 65, 65], [59], [65, 65, 65, 65, 59], [44, 65, 65, 65, 65], [65, 65, 65, 65, 44], [65, 65, 65, 65, 44, 65, 65, 65, 65], [65, 65, 65, 65, 44, 67, 65, 65, 65], [67, 65, 65, 65, 44, 68, 65, 65, 65], [65, 65, 65, 65, 59, 65, 65, 65, 65], [65, 65, 65, 65, 65, 65, 65, 65], [68, 65, 65, 65], [65, 65, 68, 65], [65, 65, 65, 68], [65, 65, 67, 65, 59, 65, 65, 68, 65], [65, 32, 65, 65], [33, 65, 65, 65]]
def okW : List Bool := [true, true, false, false, false, false, false, false, false, false, true, false, true, false, false, false, false, true, false, false]
theorem tab_read : ∀ k : Fin 20, (readB ⟨(tabW.getD k.val []).toArray⟩).2 = okW.getD k.val false := by decide +kernel
theorem al_read : readB ⟨#[]⟩ = ([], true) ∧ readB ⟨#[59, 69, 65, 65, 71]⟩ = ([⟨1, 2, 0, 3⟩], true) := by decide +kernel
/- Segments, compared. -/
theorem pe_seg : plainEq Tryd.prog 35 = true := by kernel_rfl
theorem sameSg_body (l m : List Sg) (hl : l.length ≤ 1000000000) (hm : m.length ≤ 1000000000) : Body Tryd.prog Gam.none (DRun Tryd.prog Gam.none) 9 [.d (sgsD l), .d (sgsD m)] (vBool (decide (l = m))) := by
  refine Body.of Tryd.func9 Tryd.ntmps9 (by kernel_rfl) rfl rfl rfl ?_
  simp only [sgsD, List.length_map, goTG_val, goTG_new, goTG_up, goTG_none, goG_none, goG_new, goG_up, ne_eq, evK, evH, retHF, DRun_mk, runT_nil, runT_none, runT_guard, goT_val, goT_new, goT_store, goTH_true, goTH_false, evO, keys, Option.toList_some, Option.toList_none, nzL_nil, nzL_cons, nz_k, nz_sl, nz_nil, nz_agg, startL, evC, evV, goE_val, goE_new, goE_store, goH_true, goH_false, goG_val, lk_cons, lk_nil, lk_func, lk_int, lk_bool, lk_string, lk_slice, lk_agg, look_mk, St.effOf, eff, effCall, effBin, effUn, effConv, effPick, effNil, effFold, fold1, effLoad, effStore, effFieldAddr, effField, fieldOf, sliceOf, effIndexAddr, effIndex, effLen, effExtract, effSlice, bnd, effBuild, placesOf, effBuildSlice, effMakeSlice, effAppend, srcOf, fillA, chunk, seg, toD, toDs, put, eqAV, fieldsEq, leafEq, strip, unw, allB, selP_or, selP_and, tis, TyD.agg, AV.cells, AV.cell, allCell, vInt, vBool, vStr, subL_nil, subL_cons, upIds, AV.ids, AV.ids.idsL, AObj.ids, drops, Hp.get_cons, get_nil, retF, resL, one, fz, fz.fzL, List.map_cons, List.map_nil, List.nil_append, List.append_nil, List.cons_append, List.all_cons, List.all_nil, List.length_cons, List.length_nil, List.getElem?_cons_zero, List.getElem?_cons_succ, List.getD_cons_zero, List.getD_cons_succ, List.take_succ_cons, List.take_zero, List.drop_succ_cons, List.drop_zero, List.take_nil, List.drop_nil, List.contains_cons, List.contains_nil, Option.getD_some, Option.getD_none, Option.map_some, Option.map_none, if_true, if_false, true_and, and_true, and_self, or_self, or_false, false_or, false_and, and_false, reduceCtorEq, sel_and, sel_or, decide_eq_true_eq, Bool.and_eq_true, Bool.or_eq_true, Bool.and_true, Bool.true_and, Bool.or_false, Bool.false_or, Bool.true_or, Bool.or_true, Bool.not_true, Bool.not_false, Bool.false_eq_true, implies_true, not_false_eq_true, Nat.reduceLT, Nat.reduceEqDiff, Nat.reduceAdd, Nat.reduceMul, Nat.reduceMod, Nat.reduceLeDiff, Nat.reduceBEq, Nat.zero_add, Nat.add_zero, reduceIte, ↓reduceIte, List.not_mem_nil]
  by_cases hlen : l.length = m.length
  rotate_left
  · rw [if_pos (by simp; omega), decide_eq_false (fun h => hlen (by rw [h]))]
    try exact Sub.refl _
  rw [if_neg (by simp; omega)]
  refine wpc_loop (fun j : Nat => ⟨26, [], [(0, .d (sgsD l)), (1, .d (sgsD m)), (5, vInt .i64 j)], []⟩) (fun j => j ≤ l.length ∧ l.take j = m.take j) (fun j => l.length - j) 0 ⟨Nat.zero_le _, rfl⟩ ?_ ?_
  · refine Le.of id [] ?_
    simp only [sgsD, Mt_tup, Mt_agg, Mt_fn, forall_eq, forall_eq_or_imp, ne_eq, List.all_cons, List.all_nil, pr, Nat.reduceLeDiff, slR_nil, slR_cons, hpR_nil, hpR_cells, hpR_row, idsR_nil, idsR_cons, mtE_v, mtE_sl, mtE_nil, mtE_refl, mtE_row, mtE_born, mtE_ptr, mtE_rp, mtE_agg, mtE_tup, mtE_fn, mtE_ep, MtL_nil, MtL_cons, Mt_v, Mt_sl, Mt_nil, Mt_refl, Mt_row, Mt_born, Mt_ptr, MtO_cells, MtO_row, liveIds, distinct, Dat.v.injEq, Dat.sl.injEq, Value.int.injEq, Value.bool.injEq, Value.string.injEq, lk_cons, lk_nil, subL_nil, subL_cons, upIds, AV.ids, AV.ids.idsL, AObj.ids, Hp.get_cons, get_nil, allCell, AV.cell, vInt, vBool, vStr, id, true_and, and_true, and_self, List.append_nil, List.nil_append, List.not_mem_nil, List.mem_cons, or_false, false_or, or_self, not_true_eq_false, not_false_eq_true, false_imp_iff, false_implies, List.map_nil, not_false_eq_true, List.contains_cons, List.contains_nil, Bool.or_false, Bool.false_or, Bool.true_or, Bool.or_true, Bool.and_true, Bool.true_and, implies_true, if_true, if_false, reduceCtorEq, Nat.reduceEqDiff, Nat.reduceBEq, Nat.reduceAdd, reduceIte, ↓reduceIte]
    try rfl
  · rintro j ⟨hj, he⟩
    by_cases hj2 : (j : Int) < l.length
    · obtain ⟨p, hp⟩ : ∃ p, l[j]? = some p := ⟨_, List.getElem?_eq_getElem (by omega)⟩
      obtain ⟨q, hq⟩ : ∃ q, m[j]? = some q := ⟨_, List.getElem?_eq_getElem (by omega)⟩
      have hg : ∀ z, (l.map sgD).getD (j : Int).toNat z = sgD p := getD_map hp
      have hg2 : ∀ z, (m.map sgD).getD (j : Int).toNat z = sgD q := getD_map hq
      simp only [sgsD, hg, hg2, sgD, pe_seg, List.length_map, goTG_val, goTG_new, goTG_up, goTG_none, goG_none, goG_new, goG_up, ne_eq, evK, evH, retHF, DRun_mk, runT_nil, runT_none, runT_guard, goT_val, goT_new, goT_store, goTH_true, goTH_false, evO, keys, Option.toList_some, Option.toList_none, nzL_nil, nzL_cons, nz_k, nz_sl, nz_nil, nz_agg, startL, evC, evV, goE_val, goE_new, goE_store, goH_true, goH_false, goG_val, lk_cons, lk_nil, lk_func, lk_int, lk_bool, lk_string, lk_slice, lk_agg, look_mk, St.effOf, eff, effCall, effBin, effUn, effConv, effPick, effNil, effFold, fold1, effLoad, effStore, effFieldAddr, effField, fieldOf, sliceOf, effIndexAddr, effIndex, effLen, effExtract, effSlice, bnd, effBuild, placesOf, effBuildSlice, effMakeSlice, effAppend, srcOf, fillA, chunk, seg, toD, toDs, put, eqAV, fieldsEq, leafEq, strip, unw, allB, selP_or, selP_and, tis, TyD.agg, AV.cells, AV.cell, allCell, vInt, vBool, vStr, subL_nil, subL_cons, upIds, AV.ids, AV.ids.idsL, AObj.ids, drops, Hp.get_cons, get_nil, retF, resL, one, fz, fz.fzL, List.map_cons, List.map_nil, List.nil_append, List.append_nil, List.cons_append, List.all_cons, List.all_nil, List.length_cons, List.length_nil, List.getElem?_cons_zero, List.getElem?_cons_succ, List.getD_cons_zero, List.getD_cons_succ, List.take_succ_cons, List.take_zero, List.drop_succ_cons, List.drop_zero, List.take_nil, List.drop_nil, List.contains_cons, List.contains_nil, Option.getD_some, Option.getD_none, Option.map_some, Option.map_none, if_true, if_false, true_and, and_true, and_self, or_self, or_false, false_or, false_and, and_false, reduceCtorEq, sel_and, sel_or, decide_eq_true_eq, Bool.and_eq_true, Bool.or_eq_true, Bool.and_true, Bool.true_and, Bool.or_false, Bool.false_or, Bool.true_or, Bool.or_true, Bool.not_true, Bool.not_false, Bool.false_eq_true, implies_true, not_false_eq_true, Nat.reduceLT, Nat.reduceEqDiff, Nat.reduceAdd, Nat.reduceMul, Nat.reduceMod, Nat.reduceLeDiff, Nat.reduceBEq, Nat.zero_add, Nat.add_zero, reduceIte, ↓reduceIte, List.not_mem_nil]
      rw [if_pos hj2]
      refine ⟨by omega, by omega, by kernel_rfl, ?_⟩
      by_cases hpq : p = q
      · subst hpq
        rw [if_neg (by simp)]
        refine ⟨j + 1, by omega, ⟨by omega, by rw [take_at hp, take_at hq, he]⟩, Le.of id [] ?_⟩
        simp only [sgsD, Mt_tup, Mt_agg, Mt_fn, forall_eq, forall_eq_or_imp, ne_eq, List.all_cons, List.all_nil, pr, Nat.reduceLeDiff, slR_nil, slR_cons, hpR_nil, hpR_cells, hpR_row, idsR_nil, idsR_cons, mtE_v, mtE_sl, mtE_nil, mtE_refl, mtE_row, mtE_born, mtE_ptr, mtE_rp, mtE_agg, mtE_tup, mtE_fn, mtE_ep, MtL_nil, MtL_cons, Mt_v, Mt_sl, Mt_nil, Mt_refl, Mt_row, Mt_born, Mt_ptr, MtO_cells, MtO_row, liveIds, distinct, Dat.v.injEq, Dat.sl.injEq, Value.int.injEq, Value.bool.injEq, Value.string.injEq, lk_cons, lk_nil, subL_nil, subL_cons, upIds, AV.ids, AV.ids.idsL, AObj.ids, Hp.get_cons, get_nil, allCell, AV.cell, vInt, vBool, vStr, id, true_and, and_true, and_self, List.append_nil, List.nil_append, List.not_mem_nil, List.mem_cons, or_false, false_or, or_self, not_true_eq_false, not_false_eq_true, false_imp_iff, false_implies, List.map_nil, not_false_eq_true, List.contains_cons, List.contains_nil, Bool.or_false, Bool.false_or, Bool.true_or, Bool.or_true, Bool.and_true, Bool.true_and, implies_true, if_true, if_false, reduceCtorEq, Nat.reduceEqDiff, Nat.reduceBEq, Nat.reduceAdd, reduceIte, ↓reduceIte]
        exact w64 (by omega) (by omega)
      · have hne : l ≠ m := fun h => hpq (by rw [h, hq] at hp; exact (Option.some.inj hp).symm)
        rw [if_pos, decide_eq_false hne]
        cases p; cases q
        simp only [Sg.mk.injEq] at hpq
        simp only [Bool.not_eq_true', Bool.and_eq_false_iff, beq_eq_false_iff_ne, ne_eq]
        omega
    · simp only [sgsD, List.length_map, goTG_val, goTG_new, goTG_up, goTG_none, goG_none, goG_new, goG_up, ne_eq, evK, evH, retHF, DRun_mk, runT_nil, runT_none, runT_guard, goT_val, goT_new, goT_store, goTH_true, goTH_false, evO, keys, Option.toList_some, Option.toList_none, nzL_nil, nzL_cons, nz_k, nz_sl, nz_nil, nz_agg, startL, evC, evV, goE_val, goE_new, goE_store, goH_true, goH_false, goG_val, lk_cons, lk_nil, lk_func, lk_int, lk_bool, lk_string, lk_slice, lk_agg, look_mk, St.effOf, eff, effCall, effBin, effUn, effConv, effPick, effNil, effFold, fold1, effLoad, effStore, effFieldAddr, effField, fieldOf, sliceOf, effIndexAddr, effIndex, effLen, effExtract, effSlice, bnd, effBuild, placesOf, effBuildSlice, effMakeSlice, effAppend, srcOf, fillA, chunk, seg, toD, toDs, put, eqAV, fieldsEq, leafEq, strip, unw, allB, selP_or, selP_and, tis, TyD.agg, AV.cells, AV.cell, allCell, vInt, vBool, vStr, subL_nil, subL_cons, upIds, AV.ids, AV.ids.idsL, AObj.ids, drops, Hp.get_cons, get_nil, retF, resL, one, fz, fz.fzL, List.map_cons, List.map_nil, List.nil_append, List.append_nil, List.cons_append, List.all_cons, List.all_nil, List.length_cons, List.length_nil, List.getElem?_cons_zero, List.getElem?_cons_succ, List.getD_cons_zero, List.getD_cons_succ, List.take_succ_cons, List.take_zero, List.drop_succ_cons, List.drop_zero, List.take_nil, List.drop_nil, List.contains_cons, List.contains_nil, Option.getD_some, Option.getD_none, Option.map_some, Option.map_none, if_true, if_false, true_and, and_true, and_self, or_self, or_false, false_or, false_and, and_false, reduceCtorEq, sel_and, sel_or, decide_eq_true_eq, Bool.and_eq_true, Bool.or_eq_true, Bool.and_true, Bool.true_and, Bool.or_false, Bool.false_or, Bool.true_or, Bool.or_true, Bool.not_true, Bool.not_false, Bool.false_eq_true, implies_true, not_false_eq_true, Nat.reduceLT, Nat.reduceEqDiff, Nat.reduceAdd, Nat.reduceMul, Nat.reduceMod, Nat.reduceLeDiff, Nat.reduceBEq, Nat.zero_add, Nat.add_zero, reduceIte, ↓reduceIte, List.not_mem_nil]
      rw [if_neg hj2]
      rw [List.take_of_length_le (by omega), List.take_of_length_le (by omega)] at he
      rw [decide_eq_true he]
def F_sameSg : List AV → Option (Prop × AV)
  | [.d (.sl 4 xs), .d (.sl 4 ys)] => some ((xs = (xs.map sgOf).map sgD ∧ xs.length ≤ 1000000000) ∧ ys = (ys.map sgOf).map sgD ∧ ys.length ≤ 1000000000, vBool (decide (xs.map sgOf = ys.map sgOf)))
  | _ => none
theorem sameSg_calm : ∀ args sc res, F_sameSg args = some (sc, res) → sc → Calm Tryd.prog 9 args res := by
  intro args sc res h hs
  unfold F_sameSg at h
  split at h <;> cases h
  rename_i xs ys
  obtain ⟨⟨h1, h2⟩, h3, h4⟩ := hs
  have hb := sameSg_body (xs.map sgOf) (ys.map sgOf) (by simpa using h2) (by simpa using h4)
  rw [sgsD, sgsD, ← h1, ← h3] at hb
  exact (Known.none _).calm mixed rfl rfl hb
/- The law's example. -/
noncomputable def G_al25 : Gam := Gam.none.add 8 fun a => F_maps (NT.nz.nzL [] a)
theorem known_al25 : Known Tryd.prog G_al25 := (Known.none _).addC _ maps_calm
theorem G_al25_at (h : Nat → Option AObj) (d : Nat) (a : List AV) : G_al25 8 h d a = calmE (fun a => F_maps (NT.nz.nzL [] a)) h a := rfl
theorem alive25_body : Body Tryd.prog G_al25 (DRun Tryd.prog G_al25) 5 [] (vBool true) := by
  refine Body.of Tryd.func5 Tryd.ntmps5 (by kernel_rfl) rfl rfl rfl ?_
  have e1 := al_read.1
  have e2 := al_read.2
  simp only [G_al25_at, calmE, F_maps, readA, readT_B, e1, e2, sgsD, sgD, pe_seg, Int.reduceToNat, AV.flat, AV.flat.flatL, List.length_map, List.map_cons, List.map_nil, goTG_val, goTG_new, goTG_up, goTG_none, goG_none, goG_new, goG_up, ne_eq, evK, evH, retHF, DRun_mk, runT_nil, runT_none, runT_guard, goT_val, goT_new, goT_store, goTH_true, goTH_false, evO, keys, Option.toList_some, Option.toList_none, nzL_nil, nzL_cons, nz_k, nz_sl, nz_nil, nz_agg, startL, evC, evV, goE_val, goE_new, goE_store, goH_true, goH_false, goG_val, lk_cons, lk_nil, lk_func, lk_int, lk_bool, lk_string, lk_slice, lk_agg, look_mk, St.effOf, eff, effCall, effBin, effUn, effConv, effPick, effNil, effFold, fold1, effLoad, effStore, effFieldAddr, effField, fieldOf, sliceOf, effIndexAddr, effIndex, effLen, effExtract, effSlice, bnd, effBuild, placesOf, effBuildSlice, effMakeSlice, effAppend, srcOf, fillA, chunk, seg, toD, toDs, put, eqAV, fieldsEq, leafEq, strip, unw, allB, selP_or, selP_and, tis, TyD.agg, AV.cells, AV.cell, allCell, vInt, vBool, vStr, subL_nil, subL_cons, upIds, AV.ids, AV.ids.idsL, AObj.ids, drops, Hp.get_cons, get_nil, retF, resL, one, fz, fz.fzL, List.map_cons, List.map_nil, List.nil_append, List.append_nil, List.cons_append, List.all_cons, List.all_nil, List.length_cons, List.length_nil, List.getElem?_cons_zero, List.getElem?_cons_succ, List.getD_cons_zero, List.getD_cons_succ, List.take_succ_cons, List.take_zero, List.drop_succ_cons, List.drop_zero, List.take_nil, List.drop_nil, List.contains_cons, List.contains_nil, Option.getD_some, Option.getD_none, Option.map_some, Option.map_none, if_true, if_false, true_and, and_true, and_self, or_self, or_false, false_or, false_and, and_false, reduceCtorEq, sel_and, sel_or, decide_eq_true_eq, Bool.and_eq_true, Bool.or_eq_true, Bool.and_true, Bool.true_and, Bool.or_false, Bool.false_or, Bool.true_or, Bool.or_true, Bool.not_true, Bool.not_false, Bool.false_eq_true, implies_true, not_false_eq_true, Nat.reduceLT, Nat.reduceEqDiff, Nat.reduceAdd, Nat.reduceMul, Nat.reduceMod, Nat.reduceLeDiff, Nat.reduceBEq, Nat.zero_add, Nat.add_zero, reduceIte, ↓reduceIte, List.not_mem_nil]
  refine ⟨by decide, by decide, fun _ => by decide, Sub.eq ?_⟩
  rw [if_pos (by decide)]
theorem alive25_calm : Calm Tryd.prog 5 [] (vBool true) := known_al25.calm mixed rfl rfl alive25_body
def F_alive25 : List AV → Option (Prop × AV)
  | [] => some (True, vBool true)
  | _ => none
theorem alive25_c : ∀ args sc res, F_alive25 args = some (sc, res) → sc → Calm Tryd.prog 5 args res := fun args sc res h _ => by
  unfold F_alive25 at h
  split at h <;> cases h
  exact alive25_calm
/- SreadWrong. -/
noncomputable def G25w : Gam := (Gam.none.add 5 fun a => F_alive25 (NT.nz.nzL [] a)).add 8 fun a => F_maps (NT.nz.nzL [] a)
theorem known25w : Known Tryd.prog G25w := ((Known.none _).addC _ alive25_c).addC _ maps_calm
theorem G25w_at : (∀ h d a, G25w 5 h d a = calmE (fun a => F_alive25 (NT.nz.nzL [] a)) h a) ∧ (∀ h d a, G25w 8 h d a = calmE (fun a => F_maps (NT.nz.nzL [] a)) h a) := ⟨fun _ _ _ => rfl, fun _ _ _ => rfl⟩
theorem tabW_at {k : Nat} (hk : k < 20) (z : List Dat) : ([[Dat.v (.string ⟨#[]⟩)], [Dat.v (.string ⟨#[65, 65, 65, 65]⟩)], [Dat.v (.string ⟨#[65, 65, 65]⟩)], [Dat.v (.string ⟨#[65, 65, 65, 65, 65]⟩)], [Dat.v (.string ⟨#[65, 67, 65, 65]⟩)], [Dat.v (.string ⟨#[59]⟩)], [Dat.v (.string ⟨#[65, 65, 65, 65, 59]⟩)], [Dat.v (.string ⟨#[44, 65, 65, 65, 65]⟩)], [Dat.v (.string ⟨#[65, 65, 65, 65, 44]⟩)], [Dat.v (.string ⟨#[65, 65, 65, 65, 44, 65, 65, 65, 65]⟩)], [Dat.v (.string ⟨#[65, 65, 65, 65, 44, 67, 65, 65, 65]⟩)], [Dat.v (.string ⟨#[67, 65, 65, 65, 44, 68, 65, 65, 65]⟩)], [Dat.v (.string ⟨#[65, 65, 65, 65, 59, 65, 65, 65, 65]⟩)], [Dat.v (.string ⟨#[65, 65, 65, 65, 65, 65, 65, 65]⟩)], [Dat.v (.string ⟨#[68, 65, 65, 65]⟩)], [Dat.v (.string ⟨#[65, 65, 68, 65]⟩)], [Dat.v (.string ⟨#[65, 65, 65, 68]⟩)], [Dat.v (.string ⟨#[65, 65, 67, 65, 59, 65, 65, 68, 65]⟩)], [Dat.v (.string ⟨#[65, 32, 65, 65]⟩)], [Dat.v (.string ⟨#[33, 65, 65, 65]⟩)]] : List (List Dat)).getD k z = strD (tabW.getD k []) :=
  match k, hk with
  | 0, _ => rfl
  | 1, _ => rfl
  | 2, _ => rfl
  | 3, _ => rfl
  | 4, _ => rfl
  | 5, _ => rfl
  | 6, _ => rfl
  | 7, _ => rfl
  | 8, _ => rfl
  | 9, _ => rfl
  | 10, _ => rfl
  | 11, _ => rfl
  | 12, _ => rfl
  | 13, _ => rfl
  | 14, _ => rfl
  | 15, _ => rfl
  | 16, _ => rfl
  | 17, _ => rfl
  | 18, _ => rfl
  | 19, _ => rfl
  | k + 20, h => absurd h (by omega)
theorem okW_at {k : Nat} (hk : k < 20) (z : List Dat) : ([[Dat.v (.bool true)], [Dat.v (.bool true)], [Dat.v (.bool false)], [Dat.v (.bool false)], [Dat.v (.bool false)], [Dat.v (.bool false)], [Dat.v (.bool false)], [Dat.v (.bool false)], [Dat.v (.bool false)], [Dat.v (.bool false)], [Dat.v (.bool true)], [Dat.v (.bool false)], [Dat.v (.bool true)], [Dat.v (.bool false)], [Dat.v (.bool false)], [Dat.v (.bool false)], [Dat.v (.bool false)], [Dat.v (.bool true)], [Dat.v (.bool false)], [Dat.v (.bool false)]] : List (List Dat)).getD k z = [Dat.v (.bool (okW.getD k false))] :=
  match k, hk with
  | 0, _ => rfl
  | 1, _ => rfl
  | 2, _ => rfl
  | 3, _ => rfl
  | 4, _ => rfl
  | 5, _ => rfl
  | 6, _ => rfl
  | 7, _ => rfl
  | 8, _ => rfl
  | 9, _ => rfl
  | 10, _ => rfl
  | 11, _ => rfl
  | 12, _ => rfl
  | 13, _ => rfl
  | 14, _ => rfl
  | 15, _ => rfl
  | 16, _ => rfl
  | 17, _ => rfl
  | 18, _ => rfl
  | 19, _ => rfl
  | k + 20, h => absurd h (by omega)
theorem tabW_len : ∀ k : Fin 20, (tabW.getD k.val []).length ≤ 9 := by decide
theorem SreadWrong_body (which : Int) (h1 : (Lit.int .i64 which).wf = true) : Body Tryd.prog G25w (DRun Tryd.prog G25w) 4 [.d (.v (.int .i64 which))] (vBool true) := by
  refine Body.of Tryd.func4 Tryd.ntmps4 (by kernel_rfl) rfl rfl rfl ?_
  by_cases c : which < 0 ∨ which ≥ ((20 : Nat) : Int)
  · simp only [G25w_at, calmE, F_alive25, F_maps, readA, readT_B, sgsD, AV.flat, AV.flat.flatL, List.length_map, List.map_cons, List.map_nil, List.length_cons, List.length_nil, goTG_val, goTG_new, goTG_up, goTG_none, goG_none, goG_new, goG_up, ne_eq, evK, evH, retHF, DRun_mk, runT_nil, runT_none, runT_guard, goT_val, goT_new, goT_store, goTH_true, goTH_false, evO, keys, Option.toList_some, Option.toList_none, nzL_nil, nzL_cons, nz_k, nz_sl, nz_nil, nz_agg, startL, evC, evV, goE_val, goE_new, goE_store, goH_true, goH_false, goG_val, lk_cons, lk_nil, lk_func, lk_int, lk_bool, lk_string, lk_slice, lk_agg, look_mk, St.effOf, eff, effCall, effBin, effUn, effConv, effPick, effNil, effFold, fold1, effLoad, effStore, effFieldAddr, effField, fieldOf, sliceOf, effIndexAddr, effIndex, effLen, effExtract, effSlice, bnd, effBuild, placesOf, effBuildSlice, effMakeSlice, effAppend, srcOf, fillA, chunk, seg, toD, toDs, put, eqAV, fieldsEq, leafEq, strip, unw, allB, selP_or, selP_and, tis, TyD.agg, AV.cells, AV.cell, allCell, vInt, vBool, vStr, subL_nil, subL_cons, upIds, AV.ids, AV.ids.idsL, AObj.ids, drops, Hp.get_cons, get_nil, retF, resL, one, fz, fz.fzL, List.map_cons, List.map_nil, List.nil_append, List.append_nil, List.cons_append, List.all_cons, List.all_nil, List.length_cons, List.length_nil, List.getElem?_cons_zero, List.getElem?_cons_succ, List.getD_cons_zero, List.getD_cons_succ, List.take_succ_cons, List.take_zero, List.drop_succ_cons, List.drop_zero, List.take_nil, List.drop_nil, List.contains_cons, List.contains_nil, Option.getD_some, Option.getD_none, Option.map_some, Option.map_none, if_true, if_false, true_and, and_true, and_self, or_self, or_false, false_or, false_and, and_false, reduceCtorEq, sel_and, sel_or, decide_eq_true_eq, Bool.and_eq_true, Bool.or_eq_true, Bool.and_true, Bool.true_and, Bool.or_false, Bool.false_or, Bool.true_or, Bool.or_true, Bool.not_true, Bool.not_false, Bool.false_eq_true, implies_true, not_false_eq_true, Nat.reduceLT, Nat.reduceEqDiff, Nat.reduceAdd, Nat.reduceMul, Nat.reduceMod, Nat.reduceLeDiff, Nat.reduceBEq, Nat.zero_add, Nat.add_zero, reduceIte, ↓reduceIte, List.not_mem_nil]
    rw [if_pos c]
    try exact Sub.refl _
  obtain ⟨k, rfl⟩ := Int.eq_ofNat_of_zero_le (show 0 ≤ which by omega)
  have hk : k < 20 := by omega
  have hw := tabW_at hk
  have ho := okW_at hk
  have hr : (readB ⟨(tabW.getD k []).toArray⟩).2 = okW.getD k false := tab_read ⟨k, hk⟩
  have hl : (tabW.getD k []).length ≤ 9 := tabW_len ⟨k, hk⟩
  simp only [Int.toNat_natCast, hw, ho, strD, hr, G25w_at, calmE, F_alive25, F_maps, readA, readT_B, sgsD, AV.flat, AV.flat.flatL, List.length_map, List.map_cons, List.map_nil, List.length_cons, List.length_nil, goTG_val, goTG_new, goTG_up, goTG_none, goG_none, goG_new, goG_up, ne_eq, evK, evH, retHF, DRun_mk, runT_nil, runT_none, runT_guard, goT_val, goT_new, goT_store, goTH_true, goTH_false, evO, keys, Option.toList_some, Option.toList_none, nzL_nil, nzL_cons, nz_k, nz_sl, nz_nil, nz_agg, startL, evC, evV, goE_val, goE_new, goE_store, goH_true, goH_false, goG_val, lk_cons, lk_nil, lk_func, lk_int, lk_bool, lk_string, lk_slice, lk_agg, look_mk, St.effOf, eff, effCall, effBin, effUn, effConv, effPick, effNil, effFold, fold1, effLoad, effStore, effFieldAddr, effField, fieldOf, sliceOf, effIndexAddr, effIndex, effLen, effExtract, effSlice, bnd, effBuild, placesOf, effBuildSlice, effMakeSlice, effAppend, srcOf, fillA, chunk, seg, toD, toDs, put, eqAV, fieldsEq, leafEq, strip, unw, allB, selP_or, selP_and, tis, TyD.agg, AV.cells, AV.cell, allCell, vInt, vBool, vStr, subL_nil, subL_cons, upIds, AV.ids, AV.ids.idsL, AObj.ids, drops, Hp.get_cons, get_nil, retF, resL, one, fz, fz.fzL, List.map_cons, List.map_nil, List.nil_append, List.append_nil, List.cons_append, List.all_cons, List.all_nil, List.length_cons, List.length_nil, List.getElem?_cons_zero, List.getElem?_cons_succ, List.getD_cons_zero, List.getD_cons_succ, List.take_succ_cons, List.take_zero, List.drop_succ_cons, List.drop_zero, List.take_nil, List.drop_nil, List.contains_cons, List.contains_nil, Option.getD_some, Option.getD_none, Option.map_some, Option.map_none, if_true, if_false, true_and, and_true, and_self, or_self, or_false, false_or, false_and, and_false, reduceCtorEq, sel_and, sel_or, decide_eq_true_eq, Bool.and_eq_true, Bool.or_eq_true, Bool.and_true, Bool.true_and, Bool.or_false, Bool.false_or, Bool.true_or, Bool.or_true, Bool.not_true, Bool.not_false, Bool.false_eq_true, implies_true, not_false_eq_true, Nat.reduceLT, Nat.reduceEqDiff, Nat.reduceAdd, Nat.reduceMul, Nat.reduceMod, Nat.reduceLeDiff, Nat.reduceBEq, Nat.zero_add, Nat.add_zero, reduceIte, ↓reduceIte, List.not_mem_nil]
  rw [if_neg c]
  exact ⟨⟨by omega, by omega⟩, hk, by rw [ba_size]; omega, ⟨by omega, by omega⟩, hk, Sub.eq (by rw [beq_self_eq_true])⟩
end Go.Proofs.YthokfhifahlohaaDoor.Eng
