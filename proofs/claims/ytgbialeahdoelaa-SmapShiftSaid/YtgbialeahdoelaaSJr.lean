/- Texts of JSON, written by the reference, on the small machine. -/
import Derived.Test.YtgbialeahdoelaaSJs
import Derived.Test.YtgbialeahdoelaaSRpt
namespace Go.Proofs.Ytgbialeahdoelaa.Eng
open Go Go.Proofs.Ytgbialeahdoelaa.Base
set_option maxRecDepth 100000
set_option linter.unusedSimpArgs false
set_option linter.unusedVariables false
def F_ruright : List AV → Option (Prop × AV)
  | [.d (.sl 1 xs)] => some (xs = (xs.map numOf).map (iD .i64) ∧ xs.length ≤ 1000000000000, vBool (decide (Jstr.right (xs.map numOf))))
  | _ => none
theorem ruright_calm : ∀ args sc res, F_ruright args = some (sc, res) → sc → Calm Try.prog 46 args res := by
  intro args sc res h hs
  unfold F_ruright at h
  split at h <;> cases h
  rename_i xs
  obtain ⟨h1, h2⟩ := hs
  have hb := ruright_body (xs.map numOf) (by simpa using h2)
  rw [intsD, ← h1] at hb
  exact (Known.none _).calm mixed rfl rfl hb
noncomputable def G_su : Gam := (Gam.none.addH 47 F_RPut).add 46 fun a => F_ruright (NT.nz.nzL [.s 1] a)
theorem gok_su : Gok Try.prog G_su := (RPut_ok (Known.none _).ok).add fun args sc res h hs _ => (ruright_calm _ sc res h hs).nz
theorem G_su_at : (∀ h d a, G_su 47 h d a = F_RPut h d a) ∧ (∀ h d a, G_su 46 h d a = calmE (fun a => F_ruright (NT.nz.nzL [.s 1] a)) h a) := ⟨fun _ _ _ => rfl, fun _ _ _ => rfl⟩
def shorts : List Int := [34, 92, 8, 12, 10, 13, 9]
def ks (u : Int) : Nat → Int
  | 0 => -1
  | j + 1 => if shorts.getD j 0 = u then j else ks u j
theorem ks_short (u : Int) : (match Jstr.short u with
    | some c => decide (0 ≤ ks u 7 ∧ ks u 7 < 7 ∧ bt ⟨#[34, 92, 98, 102, 110, 114, 116]⟩ (ks u 7) = c)
    | none => decide (ks u 7 = -1)) = true := by
  by_cases h1 : u = 34
  · subst h1; decide +kernel
  by_cases h2 : u = 92
  · subst h2; decide +kernel
  by_cases h3 : u = 8
  · subst h3; decide +kernel
  by_cases h4 : u = 12
  · subst h4; decide +kernel
  by_cases h5 : u = 10
  · subst h5; decide +kernel
  by_cases h6 : u = 13
  · subst h6; decide +kernel
  by_cases h7 : u = 9
  · subst h7; decide +kernel
  have e : Jstr.short u = none := by
    unfold Jstr.short
    rw [if_neg h1, if_neg h2, if_neg h3, if_neg h4, if_neg h5, if_neg h6, if_neg h7]
  rw [e]
  simp only [ks, shorts, List.getD_cons_zero, List.getD_cons_succ, if_neg (Ne.symm h1), if_neg (Ne.symm h2), if_neg (Ne.symm h3), if_neg (Ne.symm h4), if_neg (Ne.symm h5), if_neg (Ne.symm h6), if_neg (Ne.symm h7)]
  rfl
theorem and15 {x : Int} (h0 : 0 ≤ x) (h1 : x < 2 ^ 62) : bits .and .i64 x 15 = x % 16 := bits_mask .i64 62 (by decide) wraps62j 4 (by decide) x h0 h1
theorem bt_hex {n : Int} (h0 : 0 ≤ n) (h1 : n < 16) : bt hexS n = Jstr.hexd n := by
  have key : ∀ k : Fin 16, bt hexS (k.val : Int) = Jstr.hexd (k.val : Int) := by decide +kernel
  obtain ⟨n, rfl⟩ := Int.eq_ofNat_of_zero_le h0
  exact key ⟨n, by omega⟩
theorem SU_body (l : List Int) (hl : l.length ≤ 10000000000) : Body Try.prog G_su (DRun Try.prog Gam.none) 27 [.d (intsD l)] (vStr (spellS l)) := by
  refine Body.of Try.func27 Try.ntmps27 (by kernel_rfl) rfl rfl rfl ?_
  simp only [show (⟨#[48, 49, 50, 51, 52, 53, 54, 55, 56, 57, 97, 98, 99, 100, 101, 102]⟩ : ByteArray) = hexS from rfl, intsD, nums_map, G_su_at, calmE, F_ruright, F_RPut, AV.flat, AV.flat.flatL, List.length_map, goTG_val, goTG_new, goTG_up, goTG_none, goG_none, goG_new, goG_up, ne_eq, evK, evH, retHF, DRun_mk, runT_nil, runT_none, runT_guard, goT_val, goT_new, goT_store, goTH_true, goTH_false, evO, keys, Option.toList_some, Option.toList_none, nzL_nil, nzL_cons, nz_k, nz_sl, nz_nil, nz_agg, startL, evC, evV, goE_val, goE_new, goE_store, goH_true, goH_false, goG_val, lk_cons, lk_nil, lk_func, lk_int, lk_bool, lk_string, lk_slice, lk_agg, look_mk, St.effOf, eff, effCall, effBin, effUn, effConv, effPick, effNil, effFold, fold1, effLoad, effStore, effFieldAddr, effField, fieldOf, sliceOf, effIndexAddr, effIndex, effLen, effExtract, effSlice, bnd, effBuild, placesOf, effBuildSlice, effMakeSlice, effAppend, srcOf, fillA, chunk, seg, toD, toDs, put, eqAV, fieldsEq, leafEq, strip, unw, allB, selP_or, selP_and, tis, TyD.agg, AV.cells, AV.cell, allCell, vInt, vBool, vStr, subL_nil, subL_cons, upIds, AV.ids, AV.ids.idsL, AObj.ids, drops, Hp.get_cons, get_nil, retF, resL, one, fz, fz.fzL, List.map_cons, List.map_nil, List.nil_append, List.append_nil, List.cons_append, List.all_cons, List.all_nil, List.length_cons, List.length_nil, List.getElem?_cons_zero, List.getElem?_cons_succ, List.getD_cons_zero, List.getD_cons_succ, List.take_succ_cons, List.take_zero, List.drop_succ_cons, List.drop_zero, List.take_nil, List.drop_nil, List.contains_cons, List.contains_nil, Option.getD_some, Option.getD_none, Option.map_some, Option.map_none, if_true, if_false, true_and, and_true, and_self, or_self, or_false, false_or, false_and, and_false, reduceCtorEq, sel_and, sel_or, decide_eq_true_eq, Bool.and_eq_true, Bool.or_eq_true, Bool.and_true, Bool.true_and, Bool.or_false, Bool.false_or, Bool.true_or, Bool.or_true, Bool.not_true, Bool.not_false, Bool.false_eq_true, implies_true, not_false_eq_true, Nat.reduceLT, Nat.reduceEqDiff, Nat.reduceAdd, Nat.reduceMul, Nat.reduceMod, Nat.reduceLeDiff, Nat.reduceBEq, Nat.zero_add, Nat.add_zero, reduceIte, ↓reduceIte, List.not_mem_nil]
  refine ⟨by omega, ?_⟩
  unfold spellS
  by_cases hr : Jstr.right l
  rotate_left
  · rw [if_pos (by simp [hr]), if_neg hr]
    exact Sub.refl _
  rw [if_neg (by simp [hr]), if_pos hr]
  refine wpc_loop (fun q : List Int × Nat => ⟨130, [100], [(0, .d (intsD l)), (3, vStr hexS), (4, .row 100 (34 :: q.1.flatMap Jstr.spell).length), (5, vInt .i64 q.2)], [(100, some (.row 5 1 ((34 :: q.1.flatMap Jstr.spell).map (iD .u8))))]⟩) (fun q => q.2 ≤ l.length ∧ q.1.length ≤ q.2 ∧ q.1 ++ Jstr.pairs (l.drop q.2) = Jstr.pairs l) (fun q => l.length - q.2) ([], 0) ⟨Nat.zero_le _, Nat.le_refl _, rfl⟩ ?_ ?_
  · refine Le.of (fun o => if o = 100 then 13 else o) [] ?_
    simp only [intsD, List.flatMap_nil, List.length_nil, List.length_cons, List.map_nil, List.map_cons, iD, List.length_map, Mt_tup, Mt_agg, Mt_fn, forall_eq, forall_eq_or_imp, ne_eq, List.all_cons, List.all_nil, pr, Nat.reduceLeDiff, slR_nil, slR_cons, hpR_nil, hpR_cells, hpR_row, idsR_nil, idsR_cons, mtE_v, mtE_sl, mtE_nil, mtE_refl, mtE_row, mtE_born, mtE_ptr, mtE_rp, mtE_agg, mtE_tup, mtE_fn, mtE_ep, MtL_nil, MtL_cons, Mt_v, Mt_sl, Mt_nil, Mt_refl, Mt_row, Mt_born, Mt_ptr, MtO_cells, MtO_row, liveIds, distinct, Dat.v.injEq, Dat.sl.injEq, Value.int.injEq, Value.bool.injEq, Value.string.injEq, lk_cons, lk_nil, subL_nil, subL_cons, upIds, AV.ids, AV.ids.idsL, AObj.ids, Hp.get_cons, get_nil, allCell, AV.cell, vInt, vBool, vStr, id, true_and, and_true, and_self, List.append_nil, List.nil_append, List.not_mem_nil, List.mem_cons, or_false, false_or, or_self, not_true_eq_false, not_false_eq_true, false_imp_iff, false_implies, List.map_nil, not_false_eq_true, List.contains_cons, List.contains_nil, Bool.or_false, Bool.false_or, Bool.true_or, Bool.or_true, Bool.and_true, Bool.true_and, implies_true, if_true, if_false, reduceCtorEq, Nat.reduceEqDiff, Nat.reduceBEq, Nat.reduceAdd, reduceIte, ↓reduceIte]
    first | exact ⟨rfl, rfl⟩ | rfl
  · rintro ⟨o, i⟩ ⟨hi, ho, he⟩
    simp only [] at hi ho he
    have hfl := Jstr.flat_len o
    by_cases hi2 : (i : Int) < l.length
    · obtain ⟨d, hd⟩ : ∃ d, l[i]? = some d := ⟨_, List.getElem?_eq_getElem (by omega)⟩
      have hg : ∀ z, (l.map (iD .i64)).getD (i : Int).toNat z = iD .i64 d := getD_map hd
      simp only [intsD, hg, iD, G_su_at, calmE, F_ruright, F_RPut, AV.flat, AV.flat.flatL, List.length_map, goTG_val, goTG_new, goTG_up, goTG_none, goG_none, goG_new, goG_up, ne_eq, evK, evH, retHF, DRun_mk, runT_nil, runT_none, runT_guard, goT_val, goT_new, goT_store, goTH_true, goTH_false, evO, keys, Option.toList_some, Option.toList_none, nzL_nil, nzL_cons, nz_k, nz_sl, nz_nil, nz_agg, startL, evC, evV, goE_val, goE_new, goE_store, goH_true, goH_false, goG_val, lk_cons, lk_nil, lk_func, lk_int, lk_bool, lk_string, lk_slice, lk_agg, look_mk, St.effOf, eff, effCall, effBin, effUn, effConv, effPick, effNil, effFold, fold1, effLoad, effStore, effFieldAddr, effField, fieldOf, sliceOf, effIndexAddr, effIndex, effLen, effExtract, effSlice, bnd, effBuild, placesOf, effBuildSlice, effMakeSlice, effAppend, srcOf, fillA, chunk, seg, toD, toDs, put, eqAV, fieldsEq, leafEq, strip, unw, allB, selP_or, selP_and, tis, TyD.agg, AV.cells, AV.cell, allCell, vInt, vBool, vStr, subL_nil, subL_cons, upIds, AV.ids, AV.ids.idsL, AObj.ids, drops, Hp.get_cons, get_nil, retF, resL, one, fz, fz.fzL, List.map_cons, List.map_nil, List.nil_append, List.append_nil, List.cons_append, List.all_cons, List.all_nil, List.length_cons, List.length_nil, List.getElem?_cons_zero, List.getElem?_cons_succ, List.getD_cons_zero, List.getD_cons_succ, List.take_succ_cons, List.take_zero, List.drop_succ_cons, List.drop_zero, List.take_nil, List.drop_nil, List.contains_cons, List.contains_nil, Option.getD_some, Option.getD_none, Option.map_some, Option.map_none, if_true, if_false, true_and, and_true, and_self, or_self, or_false, false_or, false_and, and_false, reduceCtorEq, sel_and, sel_or, decide_eq_true_eq, Bool.and_eq_true, Bool.or_eq_true, Bool.and_true, Bool.true_and, Bool.or_false, Bool.false_or, Bool.true_or, Bool.or_true, Bool.not_true, Bool.not_false, Bool.false_eq_true, implies_true, not_false_eq_true, Nat.reduceLT, Nat.reduceEqDiff, Nat.reduceAdd, Nat.reduceMul, Nat.reduceMod, Nat.reduceLeDiff, Nat.reduceBEq, Nat.zero_add, Nat.add_zero, reduceIte, ↓reduceIte, List.not_mem_nil]
      rw [if_pos hi2]
      refine ⟨by omega, ?_⟩
      refine wpc_loop (fun j : Nat => ⟨130, [24, 100], [(0, .d (intsD l)), (3, vStr hexS), (4, .row 100 (34 :: o.flatMap Jstr.spell).length), (5, vInt .i64 i), (6, vInt .i64 d), (7, vInt .i64 (ks d j)), (8, .row 24 7), (9, vInt .i64 j)], [(24, some (.row 3 1 (shorts.map (iD .i64)))), (100, some (.row 5 1 ((34 :: o.flatMap Jstr.spell).map (iD .u8))))]⟩) (fun j => j ≤ 7) (fun j => 7 - j) 0 (Nat.zero_le _) ?_ ?_
      · refine Le.of id [] ?_
        simp only [intsD, shorts, ks, iD, List.map_cons, List.map_nil, List.length_map, Mt_tup, Mt_agg, Mt_fn, forall_eq, forall_eq_or_imp, ne_eq, List.all_cons, List.all_nil, pr, Nat.reduceLeDiff, slR_nil, slR_cons, hpR_nil, hpR_cells, hpR_row, idsR_nil, idsR_cons, mtE_v, mtE_sl, mtE_nil, mtE_refl, mtE_row, mtE_born, mtE_ptr, mtE_rp, mtE_agg, mtE_tup, mtE_fn, mtE_ep, MtL_nil, MtL_cons, Mt_v, Mt_sl, Mt_nil, Mt_refl, Mt_row, Mt_born, Mt_ptr, MtO_cells, MtO_row, liveIds, distinct, Dat.v.injEq, Dat.sl.injEq, Value.int.injEq, Value.bool.injEq, Value.string.injEq, lk_cons, lk_nil, subL_nil, subL_cons, upIds, AV.ids, AV.ids.idsL, AObj.ids, Hp.get_cons, get_nil, allCell, AV.cell, vInt, vBool, vStr, id, true_and, and_true, and_self, List.append_nil, List.nil_append, List.not_mem_nil, List.mem_cons, or_false, false_or, or_self, not_true_eq_false, not_false_eq_true, false_imp_iff, false_implies, List.map_nil, not_false_eq_true, List.contains_cons, List.contains_nil, Bool.or_false, Bool.false_or, Bool.true_or, Bool.or_true, Bool.and_true, Bool.true_and, implies_true, if_true, if_false, reduceCtorEq, Nat.reduceEqDiff, Nat.reduceBEq, Nat.reduceAdd, reduceIte, ↓reduceIte]
        exact ⟨⟨rfl, rfl⟩, rfl⟩
      · intro j hj
        have hp10 : (2 : Int) ^ min (Int.toNat 10) IntKind.i64.bits = 1024 := by decide
        have hw : IntKind.i64.wrap ((i : Int) + 1) = ((i + 1 : Nat) : Int) := w64 (by omega) (by omega)
        by_cases hj2 : (j : Int) < 7
        · have hgs : ∀ z, (shorts.map (iD .i64)).getD (j : Int).toNat z = iD .i64 (shorts.getD j 0) := fun z => by
            have hlt : j < shorts.length := by show j < 7; omega
            have hgs1 : shorts[j]? = some (shorts.getD j 0) := by rw [List.getD_eq_getElem?_getD, List.getElem?_eq_getElem hlt]; rfl
            exact getD_map hgs1 z
          simp only [intsD, hgs, iD, G_su_at, calmE, F_ruright, F_RPut, AV.flat, AV.flat.flatL, List.length_map, goTG_val, goTG_new, goTG_up, goTG_none, goG_none, goG_new, goG_up, ne_eq, evK, evH, retHF, DRun_mk, runT_nil, runT_none, runT_guard, goT_val, goT_new, goT_store, goTH_true, goTH_false, evO, keys, Option.toList_some, Option.toList_none, nzL_nil, nzL_cons, nz_k, nz_sl, nz_nil, nz_agg, startL, evC, evV, goE_val, goE_new, goE_store, goH_true, goH_false, goG_val, lk_cons, lk_nil, lk_func, lk_int, lk_bool, lk_string, lk_slice, lk_agg, look_mk, St.effOf, eff, effCall, effBin, effUn, effConv, effPick, effNil, effFold, fold1, effLoad, effStore, effFieldAddr, effField, fieldOf, sliceOf, effIndexAddr, effIndex, effLen, effExtract, effSlice, bnd, effBuild, placesOf, effBuildSlice, effMakeSlice, effAppend, srcOf, fillA, chunk, seg, toD, toDs, put, eqAV, fieldsEq, leafEq, strip, unw, allB, selP_or, selP_and, tis, TyD.agg, AV.cells, AV.cell, allCell, vInt, vBool, vStr, subL_nil, subL_cons, upIds, AV.ids, AV.ids.idsL, AObj.ids, drops, Hp.get_cons, get_nil, retF, resL, one, fz, fz.fzL, List.map_cons, List.map_nil, List.nil_append, List.append_nil, List.cons_append, List.all_cons, List.all_nil, List.length_cons, List.length_nil, List.getElem?_cons_zero, List.getElem?_cons_succ, List.getD_cons_zero, List.getD_cons_succ, List.take_succ_cons, List.take_zero, List.drop_succ_cons, List.drop_zero, List.take_nil, List.drop_nil, List.contains_cons, List.contains_nil, Option.getD_some, Option.getD_none, Option.map_some, Option.map_none, if_true, if_false, true_and, and_true, and_self, or_self, or_false, false_or, false_and, and_false, reduceCtorEq, sel_and, sel_or, decide_eq_true_eq, Bool.and_eq_true, Bool.or_eq_true, Bool.and_true, Bool.true_and, Bool.or_false, Bool.false_or, Bool.true_or, Bool.or_true, Bool.not_true, Bool.not_false, Bool.false_eq_true, implies_true, not_false_eq_true, Nat.reduceLT, Nat.reduceEqDiff, Nat.reduceAdd, Nat.reduceMul, Nat.reduceMod, Nat.reduceLeDiff, Nat.reduceBEq, Nat.zero_add, Nat.add_zero, reduceIte, ↓reduceIte, List.not_mem_nil]
          rw [if_pos (show (j : Int) < ((7 : Nat) : Int) by omega)]
          refine ⟨by omega, by show j < 7; omega, ?_⟩
          by_cases c : (shorts.getD j 0 == d) = true
          · rw [if_pos c]
            refine ⟨j + 1, by omega, by omega, Le.of id [] ?_⟩
            simp only [intsD, iD, List.map_cons, List.map_nil, List.length_cons, List.length_map, Mt_tup, Mt_agg, Mt_fn, forall_eq, forall_eq_or_imp, ne_eq, List.all_cons, List.all_nil, pr, Nat.reduceLeDiff, slR_nil, slR_cons, hpR_nil, hpR_cells, hpR_row, idsR_nil, idsR_cons, mtE_v, mtE_sl, mtE_nil, mtE_refl, mtE_row, mtE_born, mtE_ptr, mtE_rp, mtE_agg, mtE_tup, mtE_fn, mtE_ep, MtL_nil, MtL_cons, Mt_v, Mt_sl, Mt_nil, Mt_refl, Mt_row, Mt_born, Mt_ptr, MtO_cells, MtO_row, liveIds, distinct, Dat.v.injEq, Dat.sl.injEq, Value.int.injEq, Value.bool.injEq, Value.string.injEq, lk_cons, lk_nil, subL_nil, subL_cons, upIds, AV.ids, AV.ids.idsL, AObj.ids, Hp.get_cons, get_nil, allCell, AV.cell, vInt, vBool, vStr, id, true_and, and_true, and_self, List.append_nil, List.nil_append, List.not_mem_nil, List.mem_cons, or_false, false_or, or_self, not_true_eq_false, not_false_eq_true, false_imp_iff, false_implies, List.map_nil, not_false_eq_true, List.contains_cons, List.contains_nil, Bool.or_false, Bool.false_or, Bool.true_or, Bool.or_true, Bool.and_true, Bool.true_and, implies_true, if_true, if_false, reduceCtorEq, Nat.reduceEqDiff, Nat.reduceBEq, Nat.reduceAdd, reduceIte, ↓reduceIte]
            exact ⟨⟨by rw [ks, if_pos (by simpa using c)], w64 (by omega) (by omega)⟩, rfl⟩
          · rw [if_neg c]
            refine ⟨j + 1, by omega, by omega, Le.of id [] ?_⟩
            simp only [intsD, iD, List.map_cons, List.map_nil, List.length_cons, List.length_map, Mt_tup, Mt_agg, Mt_fn, forall_eq, forall_eq_or_imp, ne_eq, List.all_cons, List.all_nil, pr, Nat.reduceLeDiff, slR_nil, slR_cons, hpR_nil, hpR_cells, hpR_row, idsR_nil, idsR_cons, mtE_v, mtE_sl, mtE_nil, mtE_refl, mtE_row, mtE_born, mtE_ptr, mtE_rp, mtE_agg, mtE_tup, mtE_fn, mtE_ep, MtL_nil, MtL_cons, Mt_v, Mt_sl, Mt_nil, Mt_refl, Mt_row, Mt_born, Mt_ptr, MtO_cells, MtO_row, liveIds, distinct, Dat.v.injEq, Dat.sl.injEq, Value.int.injEq, Value.bool.injEq, Value.string.injEq, lk_cons, lk_nil, subL_nil, subL_cons, upIds, AV.ids, AV.ids.idsL, AObj.ids, Hp.get_cons, get_nil, allCell, AV.cell, vInt, vBool, vStr, id, true_and, and_true, and_self, List.append_nil, List.nil_append, List.not_mem_nil, List.mem_cons, or_false, false_or, or_self, not_true_eq_false, not_false_eq_true, false_imp_iff, false_implies, List.map_nil, not_false_eq_true, List.contains_cons, List.contains_nil, Bool.or_false, Bool.false_or, Bool.true_or, Bool.or_true, Bool.and_true, Bool.true_and, implies_true, if_true, if_false, reduceCtorEq, Nat.reduceEqDiff, Nat.reduceBEq, Nat.reduceAdd, reduceIte, ↓reduceIte]
            exact ⟨⟨by rw [ks, if_neg (by simpa using c)], w64 (by omega) (by omega)⟩, rfl⟩
        · obtain rfl : j = 7 := by omega
          have hks := ks_short d
          simp only [show (⟨#[48, 49, 50, 51, 52, 53, 54, 55, 56, 57, 97, 98, 99, 100, 101, 102]⟩ : ByteArray) = hexS from rfl, intsD, getD_iD, hw, hp10, Int.toNat_natCast, iD, G_su_at, calmE, F_ruright, F_RPut, AV.flat, AV.flat.flatL, List.length_map, goTG_val, goTG_new, goTG_up, goTG_none, goG_none, goG_new, goG_up, ne_eq, evK, evH, retHF, DRun_mk, runT_nil, runT_none, runT_guard, goT_val, goT_new, goT_store, goTH_true, goTH_false, evO, keys, Option.toList_some, Option.toList_none, nzL_nil, nzL_cons, nz_k, nz_sl, nz_nil, nz_agg, startL, evC, evV, goE_val, goE_new, goE_store, goH_true, goH_false, goG_val, lk_cons, lk_nil, lk_func, lk_int, lk_bool, lk_string, lk_slice, lk_agg, look_mk, St.effOf, eff, effCall, effBin, effUn, effConv, effPick, effNil, effFold, fold1, effLoad, effStore, effFieldAddr, effField, fieldOf, sliceOf, effIndexAddr, effIndex, effLen, effExtract, effSlice, bnd, effBuild, placesOf, effBuildSlice, effMakeSlice, effAppend, srcOf, fillA, chunk, seg, toD, toDs, put, eqAV, fieldsEq, leafEq, strip, unw, allB, selP_or, selP_and, tis, TyD.agg, AV.cells, AV.cell, allCell, vInt, vBool, vStr, subL_nil, subL_cons, upIds, AV.ids, AV.ids.idsL, AObj.ids, drops, Hp.get_cons, get_nil, retF, resL, one, fz, fz.fzL, List.map_cons, List.map_nil, List.nil_append, List.append_nil, List.cons_append, List.all_cons, List.all_nil, List.length_cons, List.length_nil, List.getElem?_cons_zero, List.getElem?_cons_succ, List.getD_cons_zero, List.getD_cons_succ, List.take_succ_cons, List.take_zero, List.drop_succ_cons, List.drop_zero, List.take_nil, List.drop_nil, List.contains_cons, List.contains_nil, Option.getD_some, Option.getD_none, Option.map_some, Option.map_none, if_true, if_false, true_and, and_true, and_self, or_self, or_false, false_or, false_and, and_false, reduceCtorEq, sel_and, sel_or, decide_eq_true_eq, Bool.and_eq_true, Bool.or_eq_true, Bool.and_true, Bool.true_and, Bool.or_false, Bool.false_or, Bool.true_or, Bool.or_true, Bool.not_true, Bool.not_false, Bool.false_eq_true, implies_true, not_false_eq_true, Nat.reduceLT, Nat.reduceEqDiff, Nat.reduceAdd, Nat.reduceMul, Nat.reduceMod, Nat.reduceLeDiff, Nat.reduceBEq, Nat.zero_add, Nat.add_zero, reduceIte, ↓reduceIte, List.not_mem_nil]
          rw [if_neg (show ¬ ((7 : Nat) : Int) < ((7 : Nat) : Int) by omega)]
          have hdr : l.drop i = d :: l.drop (i + 1) := drop_at hd
          have hin : i + 1 < l.length → l.drop (i + 1) = l.getD (i + 1) 0 :: l.drop (i + 2) := fun h => by
            have : l[i + 1]? = some (l.getD (i + 1) 0) := by rw [List.getD_eq_getElem?_getD, List.getElem?_eq_getElem h]; rfl
            exact drop_at this
          have hdu := hr d (List.mem_of_getElem? hd)
          generalize l.getD (i + 1) 0 = e at hin ⊢
          have hone : ¬ ((((d ≥ 55296 ∧ d < 56320) ∧ ((i + 1 : Nat) : Int) < l.length) ∧ e ≥ 56320) ∧ e < 57344) → o ++ [d] ++ Jstr.pairs (l.drop (i + 1)) = Jstr.pairs l := fun c => by
            rw [← he, List.append_assoc, hdr, List.singleton_append]
            congr 1
            by_cases h : i + 1 < l.length
            · rw [hin h, Jstr.pairs, if_neg (by omega)]
            · rw [List.drop_of_length_le (by omega)]; rfl
          have hsh : ∀ c, Jstr.short d = some c → d < 128 := fun c h => by
            unfold Jstr.short at h
            by_cases q : d < 128
            · exact q
            · rw [if_neg (by omega), if_neg (by omega), if_neg (by omega), if_neg (by omega), if_neg (by omega), if_neg (by omega), if_neg (by omega)] at h
              cases h
          cases hs : Jstr.short d with
          | some c =>
            rw [hs] at hks
            obtain ⟨a1, a2, a3⟩ := of_decide_eq_true hks
            have hd128 := hsh c hs
            have es : Jstr.spell d = [92, c] := by unfold Jstr.spell; rw [hs]
            rw [if_pos (by omega), a3]
            refine ⟨⟨by omega, by show ks d 7 < 7; omega⟩, by omega, (o ++ [d], i + 1), by simp only []; omega, ⟨by simp only []; omega, by simp only [List.length_append, List.length_singleton]; omega, hone (by omega)⟩, Le.of (fun o => if o = 100 then 48 else o) [] ?_⟩
            simp only [intsD, List.flatMap_append, List.flatMap_cons, List.flatMap_nil, List.append_nil, es, iD, List.map_append, List.map_cons, List.map_nil, List.length_append, List.length_map, List.length_cons, List.length_nil, Mt_tup, Mt_agg, Mt_fn, forall_eq, forall_eq_or_imp, ne_eq, List.all_cons, List.all_nil, pr, Nat.reduceLeDiff, slR_nil, slR_cons, hpR_nil, hpR_cells, hpR_row, idsR_nil, idsR_cons, mtE_v, mtE_sl, mtE_nil, mtE_refl, mtE_row, mtE_born, mtE_ptr, mtE_rp, mtE_agg, mtE_tup, mtE_fn, mtE_ep, MtL_nil, MtL_cons, Mt_v, Mt_sl, Mt_nil, Mt_refl, Mt_row, Mt_born, Mt_ptr, MtO_cells, MtO_row, liveIds, distinct, Dat.v.injEq, Dat.sl.injEq, Value.int.injEq, Value.bool.injEq, Value.string.injEq, lk_cons, lk_nil, subL_nil, subL_cons, upIds, AV.ids, AV.ids.idsL, AObj.ids, Hp.get_cons, get_nil, allCell, AV.cell, vInt, vBool, vStr, id, true_and, and_true, and_self, List.append_nil, List.nil_append, List.not_mem_nil, List.mem_cons, or_false, false_or, or_self, not_true_eq_false, not_false_eq_true, false_imp_iff, false_implies, List.map_nil, not_false_eq_true, List.contains_cons, List.contains_nil, Bool.or_false, Bool.false_or, Bool.true_or, Bool.or_true, Bool.and_true, Bool.true_and, implies_true, if_true, if_false, reduceCtorEq, Nat.reduceEqDiff, Nat.reduceBEq, Nat.reduceAdd, reduceIte, ↓reduceIte]
          | none =>
            rw [hs] at hks
            have hks := of_decide_eq_true hks
            rw [if_neg (by omega)]
            refine ⟨fun h => by omega, fun h => by omega, ?_⟩
            by_cases c : (((d ≥ 55296 ∧ d < 56320) ∧ ((i + 1 : Nat) : Int) < l.length) ∧ e ≥ 56320) ∧ e < 57344
            · rw [if_pos c]
              have e1 := hin (by omega)
              rw [hdr, e1, Jstr.pairs, if_pos (by omega)] at he
              have es : Jstr.spell (65536 + (d - 55296) * 1024 + e - 56320) = Utf.put (65536 + (d - 55296) * 1024 + e - 56320) := by
                have : Jstr.short (65536 + (d - 55296) * 1024 + e - 56320) = none := by
                  unfold Jstr.short
                  rw [if_neg (by omega), if_neg (by omega), if_neg (by omega), if_neg (by omega), if_neg (by omega), if_neg (by omega), if_neg (by omega)]
                unfold Jstr.spell
                rw [this]
                exact if_neg (by omega)
              rw [w64 (n := d - 55296) (by omega) (by omega), w64 (n := (d - 55296) * 1024) (by omega) (by omega), w64 (n := 65536 + (d - 55296) * 1024) (by omega) (by omega), w64 (n := 65536 + (d - 55296) * 1024 + e) (by omega) (by omega), w64 (n := 65536 + (d - 55296) * 1024 + e - 56320) (by omega) (by omega)]
              refine ⟨by decide, by omega, by omega, (o ++ [65536 + (d - 55296) * 1024 + e - 56320], i + 2), by simp only []; omega, ⟨by simp only []; omega, by simp only [List.length_append, List.length_singleton]; omega, by simp only [List.append_assoc, List.singleton_append]; exact he⟩, Le.of (fun o => if o = 100 then 91 else o) [] ?_⟩
              simp only [intsD, List.flatMap_append, List.flatMap_cons, List.flatMap_nil, List.append_nil, es, iD, List.map_append, List.map_cons, List.map_nil, List.length_append, List.length_map, List.length_cons, List.length_nil, Mt_tup, Mt_agg, Mt_fn, forall_eq, forall_eq_or_imp, ne_eq, List.all_cons, List.all_nil, pr, Nat.reduceLeDiff, slR_nil, slR_cons, hpR_nil, hpR_cells, hpR_row, idsR_nil, idsR_cons, mtE_v, mtE_sl, mtE_nil, mtE_refl, mtE_row, mtE_born, mtE_ptr, mtE_rp, mtE_agg, mtE_tup, mtE_fn, mtE_ep, MtL_nil, MtL_cons, Mt_v, Mt_sl, Mt_nil, Mt_refl, Mt_row, Mt_born, Mt_ptr, MtO_cells, MtO_row, liveIds, distinct, Dat.v.injEq, Dat.sl.injEq, Value.int.injEq, Value.bool.injEq, Value.string.injEq, lk_cons, lk_nil, subL_nil, subL_cons, upIds, AV.ids, AV.ids.idsL, AObj.ids, Hp.get_cons, get_nil, allCell, AV.cell, vInt, vBool, vStr, id, true_and, and_true, and_self, List.append_nil, List.nil_append, List.not_mem_nil, List.mem_cons, or_false, false_or, or_self, not_true_eq_false, not_false_eq_true, false_imp_iff, false_implies, List.map_nil, not_false_eq_true, List.contains_cons, List.contains_nil, Bool.or_false, Bool.false_or, Bool.true_or, Bool.or_true, Bool.and_true, Bool.true_and, implies_true, if_true, if_false, reduceCtorEq, Nat.reduceEqDiff, Nat.reduceBEq, Nat.reduceAdd, reduceIte, ↓reduceIte]
              exact w64 (by omega) (by omega)
            · rw [if_neg c]
              have hone := hone c
              have e12 : Int.fdiv d (2 ^ min (Int.toNat 12) IntKind.i64.bits) = d / 4096 := by rw [Int.fdiv_eq_ediv_of_nonneg _ (by decide)]; rfl
              have e8 : Int.fdiv d (2 ^ min (Int.toNat 8) IntKind.i64.bits) = d / 256 := by rw [Int.fdiv_eq_ediv_of_nonneg _ (by decide)]; rfl
              have e4 : Int.fdiv d (2 ^ min (Int.toNat 4) IntKind.i64.bits) = d / 16 := by rw [Int.fdiv_eq_ediv_of_nonneg _ (by decide)]; rfl
              have g8 := and15 (x := d / 256) (by omega) (by omega)
              have g4 := and15 (x := d / 16) (by omega) (by omega)
              have g0 := and15 (x := d) (by omega) (by omega)
              have b12 := bt_hex (n := d / 4096) (by omega) (by omega)
              have b8 := bt_hex (n := d / 256 % 16) (by omega) (by omega)
              have b4 := bt_hex (n := d / 16 % 16) (by omega) (by omega)
              have b0 := bt_hex (n := d % 16) (by omega) (by omega)
              by_cases c2 : d < 32 ∨ d ≥ 55296 ∧ d < 57344
              · rw [if_pos c2]
                have es : Jstr.spell d = 92 :: 117 :: Jstr.four d := by
                  unfold Jstr.spell; rw [hs]; exact if_pos c2
                simp only [e12, e8, e4, g8, g4, g0, b12, b8, b4, b0]
                refine ⟨by decide, ⟨by omega, by show d / 4096 < 16; omega⟩, by decide, ⟨by omega, by show d / 256 % 16 < 16; omega⟩, by decide, ⟨by omega, by show d / 16 % 16 < 16; omega⟩, ⟨by omega, by show d % 16 < 16; omega⟩, by omega, by kernel_rfl, (o ++ [d], i + 1), by simp only []; omega, ⟨by simp only []; omega, by simp only [List.length_append, List.length_singleton]; omega, hone⟩, Le.of (fun o => if o = 100 then 125 else o) [] ?_⟩
                simp only [intsD, List.flatMap_append, List.flatMap_cons, List.flatMap_nil, List.append_nil, es, Jstr.four, iD, List.map_append, List.map_cons, List.map_nil, List.length_append, List.length_map, List.length_cons, List.length_nil, Mt_tup, Mt_agg, Mt_fn, forall_eq, forall_eq_or_imp, ne_eq, List.all_cons, List.all_nil, pr, Nat.reduceLeDiff, slR_nil, slR_cons, hpR_nil, hpR_cells, hpR_row, idsR_nil, idsR_cons, mtE_v, mtE_sl, mtE_nil, mtE_refl, mtE_row, mtE_born, mtE_ptr, mtE_rp, mtE_agg, mtE_tup, mtE_fn, mtE_ep, MtL_nil, MtL_cons, Mt_v, Mt_sl, Mt_nil, Mt_refl, Mt_row, Mt_born, Mt_ptr, MtO_cells, MtO_row, liveIds, distinct, Dat.v.injEq, Dat.sl.injEq, Value.int.injEq, Value.bool.injEq, Value.string.injEq, lk_cons, lk_nil, subL_nil, subL_cons, upIds, AV.ids, AV.ids.idsL, AObj.ids, Hp.get_cons, get_nil, allCell, AV.cell, vInt, vBool, vStr, id, true_and, and_true, and_self, List.append_nil, List.nil_append, List.not_mem_nil, List.mem_cons, or_false, false_or, or_self, not_true_eq_false, not_false_eq_true, false_imp_iff, false_implies, List.map_nil, not_false_eq_true, List.contains_cons, List.contains_nil, Bool.or_false, Bool.false_or, Bool.true_or, Bool.or_true, Bool.and_true, Bool.true_and, implies_true, if_true, if_false, reduceCtorEq, Nat.reduceEqDiff, Nat.reduceBEq, Nat.reduceAdd, reduceIte, ↓reduceIte]
              · rw [if_neg c2]
                have es : Jstr.spell d = Utf.put d := by
                  unfold Jstr.spell; rw [hs]; exact if_neg c2
                refine ⟨by omega, (o ++ [d], i + 1), by simp only []; omega, ⟨by simp only []; omega, by simp only [List.length_append, List.length_singleton]; omega, hone⟩, Le.of (fun o => if o = 100 then 40 else o) [] ?_⟩
                simp only [intsD, List.flatMap_append, List.flatMap_cons, List.flatMap_nil, List.append_nil, es, iD, List.map_append, List.map_cons, List.map_nil, List.length_append, List.length_map, List.length_cons, List.length_nil, Mt_tup, Mt_agg, Mt_fn, forall_eq, forall_eq_or_imp, ne_eq, List.all_cons, List.all_nil, pr, Nat.reduceLeDiff, slR_nil, slR_cons, hpR_nil, hpR_cells, hpR_row, idsR_nil, idsR_cons, mtE_v, mtE_sl, mtE_nil, mtE_refl, mtE_row, mtE_born, mtE_ptr, mtE_rp, mtE_agg, mtE_tup, mtE_fn, mtE_ep, MtL_nil, MtL_cons, Mt_v, Mt_sl, Mt_nil, Mt_refl, Mt_row, Mt_born, Mt_ptr, MtO_cells, MtO_row, liveIds, distinct, Dat.v.injEq, Dat.sl.injEq, Value.int.injEq, Value.bool.injEq, Value.string.injEq, lk_cons, lk_nil, subL_nil, subL_cons, upIds, AV.ids, AV.ids.idsL, AObj.ids, Hp.get_cons, get_nil, allCell, AV.cell, vInt, vBool, vStr, id, true_and, and_true, and_self, List.append_nil, List.nil_append, List.not_mem_nil, List.mem_cons, or_false, false_or, or_self, not_true_eq_false, not_false_eq_true, false_imp_iff, false_implies, List.map_nil, not_false_eq_true, List.contains_cons, List.contains_nil, Bool.or_false, Bool.false_or, Bool.true_or, Bool.or_true, Bool.and_true, Bool.true_and, implies_true, if_true, if_false, reduceCtorEq, Nat.reduceEqDiff, Nat.reduceBEq, Nat.reduceAdd, reduceIte, ↓reduceIte]
    · simp only [intsD, iD, G_su_at, calmE, F_ruright, F_RPut, AV.flat, AV.flat.flatL, List.length_map, goTG_val, goTG_new, goTG_up, goTG_none, goG_none, goG_new, goG_up, ne_eq, evK, evH, retHF, DRun_mk, runT_nil, runT_none, runT_guard, goT_val, goT_new, goT_store, goTH_true, goTH_false, evO, keys, Option.toList_some, Option.toList_none, nzL_nil, nzL_cons, nz_k, nz_sl, nz_nil, nz_agg, startL, evC, evV, goE_val, goE_new, goE_store, goH_true, goH_false, goG_val, lk_cons, lk_nil, lk_func, lk_int, lk_bool, lk_string, lk_slice, lk_agg, look_mk, St.effOf, eff, effCall, effBin, effUn, effConv, effPick, effNil, effFold, fold1, effLoad, effStore, effFieldAddr, effField, fieldOf, sliceOf, effIndexAddr, effIndex, effLen, effExtract, effSlice, bnd, effBuild, placesOf, effBuildSlice, effMakeSlice, effAppend, srcOf, fillA, chunk, seg, toD, toDs, put, eqAV, fieldsEq, leafEq, strip, unw, allB, selP_or, selP_and, tis, TyD.agg, AV.cells, AV.cell, allCell, vInt, vBool, vStr, subL_nil, subL_cons, upIds, AV.ids, AV.ids.idsL, AObj.ids, drops, Hp.get_cons, get_nil, retF, resL, one, fz, fz.fzL, List.map_cons, List.map_nil, List.nil_append, List.append_nil, List.cons_append, List.all_cons, List.all_nil, List.length_cons, List.length_nil, List.getElem?_cons_zero, List.getElem?_cons_succ, List.getD_cons_zero, List.getD_cons_succ, List.take_succ_cons, List.take_zero, List.drop_succ_cons, List.drop_zero, List.take_nil, List.drop_nil, List.contains_cons, List.contains_nil, Option.getD_some, Option.getD_none, Option.map_some, Option.map_none, if_true, if_false, true_and, and_true, and_self, or_self, or_false, false_or, false_and, and_false, reduceCtorEq, sel_and, sel_or, decide_eq_true_eq, Bool.and_eq_true, Bool.or_eq_true, Bool.and_true, Bool.true_and, Bool.or_false, Bool.false_or, Bool.true_or, Bool.or_true, Bool.not_true, Bool.not_false, Bool.false_eq_true, implies_true, not_false_eq_true, Nat.reduceLT, Nat.reduceEqDiff, Nat.reduceAdd, Nat.reduceMul, Nat.reduceMod, Nat.reduceLeDiff, Nat.reduceBEq, Nat.zero_add, Nat.add_zero, reduceIte, ↓reduceIte, List.not_mem_nil]
      rw [if_neg hi2]
      rw [List.drop_of_length_le (by omega)] at he
      simp only [Jstr.pairs, List.append_nil] at he
      rw [he] at hfl
      have hpl := Jstr.pairs_len l
      rw [he]
      have e : ([.v (.int .u8 34)] : List Dat) :: ((((Jstr.pairs l).flatMap Jstr.spell).map (iD .u8)) ++ [[.v (.int .u8 34)]]) = (Jstr.spelled l).map (iD .u8) := by
        simp [Jstr.spelled, Jstr.body, iD]
      have e2 : byteOf [Dat.v (.int .u8 34)] :: ((((Jstr.pairs l).flatMap Jstr.spell).map (iD .u8)) ++ [[Dat.v (.int .u8 34)]]).map byteOf = ((Jstr.spelled l).map (iD .u8)).map byteOf := by
        rw [← e]; rfl
      rw [e, e2, byteOf_map]
      refine ⟨by omega, fun r hr => ?_, Sub.refl _⟩
      obtain ⟨c, -, rfl⟩ := List.mem_map.mp hr
      rfl
noncomputable def F_su : List AV → Option (Prop × AV)
  | [.d (.sl 1 xs)] => some (xs = (xs.map numOf).map (iD .i64) ∧ xs.length ≤ 10000000000, vStr (spellS (xs.map numOf)))
  | _ => none
theorem su_calm : ∀ args sc res, F_su args = some (sc, res) → sc → Calm Try.prog 27 args res := by
  intro args sc res h hs
  unfold F_su at h
  split at h <;> cases h
  rename_i xs
  obtain ⟨h1, h2⟩ := hs
  have hb := SU_body (xs.map numOf) (by simpa using h2)
  rw [intsD, ← h1] at hb
  exact Body.calm gok_su (draws0 _) rfl rfl hb
end Go.Proofs.Ytgbialeahdoelaa.Eng
