/- Names of CSS, written by the reference: whole, on the small machine. -/
import Derived.Test.YtelgddealjbgiaaDoorSCn10
namespace Go.Proofs.YtelgddealjbgiaaDoor.Eng
open Go Go.Proofs.YtelgddealjbgiaaDoor.Base
set_option maxRecDepth 100000
set_option linter.unusedSimpArgs false
set_option linter.unusedVariables false
/-- One code point of a name, by the reference. -/
def itemR (first : Bool) (ps : List Int) (i : Nat) (r : Int) : List Int :=
  if (r < 32 ∨ r = 127) ∨ ((first = true ∧ digP r) ∧ (i = 0 ∨ (i = 1 ∧ ps.getD 0 0 = 45))) then numL r ++ [32]
  else if (first = true ∧ r = 45) ∧ ps.length = 1 then [92, 45] else if inP r then Utf.put r else 92 :: Utf.put r
def spellK (first : Bool) (ps : List Int) : Nat → List Int
  | 0 => []
  | j + 1 => spellK first ps j ++ itemR first ps j (ps.getD j 0)
theorem itemR_le (first : Bool) (ps : List Int) (i : Nat) (r : Int) : (itemR first ps i r).length ≤ 6 := by
  have h1 := put_le r
  have h3 := numL_le r
  unfold itemR
  repeat' split
  all_goals
    try simp only [List.length_append, List.length_cons, List.length_nil]
    omega
theorem spellK_le (first : Bool) (ps : List Int) : ∀ j, (spellK first ps j).length ≤ 6 * j
  | 0 => Nat.le_refl _
  | j + 1 => by
    have := spellK_le first ps j
    have := itemR_le first ps j (ps.getD j 0)
    simp only [spellK, List.length_append]; omega
def spellR (first : Bool) (l : List Int) : List Int := spellK first (ptsL l) (ptsL l).length
theorem z0_range {r : Int} (h : 0 ≤ r ∧ r ≤ 1114111) : 1 ≤ z0 r ∧ z0 r ≤ 1114111 := by unfold z0; split <;> omega
theorem pts_range {l : List Int} (hb : Bytes l) : ∀ x ∈ ptsL l, 1 ≤ x ∧ x ≤ 1114111 := fun x hx => by
  obtain ⟨y, hy, rfl⟩ := List.mem_map.mp hx
  exact z0_range (alls_range _ _ hb y hy)
theorem pts_len (l : List Int) : (ptsL l).length ≤ l.length := by unfold ptsL; rw [List.length_map]; exact alls_len _ _
def F_rsp : List AV → Option (Prop × AV)
  | [.d (.v (.string s)), .d (.v (.bool b))] => some (s.size ≤ 1000000000, vStr (strOfNums (spellR b (sB s))))
  | _ => none
noncomputable def G_rsp : Gam := ((((Gam.none.addH 31 F_RPut).add 26 fun a => F_pts (NT.nz.nzL [] a)).add 35 fun a => F_dig (NT.nz.nzL [] a)).add 15 fun a => F_in (NT.nz.nzL [] a)).add 57 fun a => F_num (NT.nz.nzL [] a)
theorem gok_rsp : Gok Tryd.prog G_rsp := by
  refine ((((RPut_ok (Known.none _).ok).add fun args sc res h hs _ => ?_).add fun args sc res h hs _ => ?_).add fun args sc res h hs _ => ?_).add fun args sc res h hs _ => ?_
  · exact (pts_calm _ sc res h hs).nz
  · exact (digR_calm _ sc res h hs).nz
  · exact (inR_calm _ sc res h hs).nz
  · exact (nbd_calm _ sc res h hs).nz
theorem G_rsp_at : (∀ h d a, G_rsp 31 h d a = F_RPut h d a) ∧ (∀ h d a, G_rsp 26 h d a = calmE (fun a => F_pts (NT.nz.nzL [] a)) h a) ∧ (∀ h d a, G_rsp 35 h d a = calmE (fun a => F_dig (NT.nz.nzL [] a)) h a) ∧ (∀ h d a, G_rsp 15 h d a = calmE (fun a => F_in (NT.nz.nzL [] a)) h a) ∧ (∀ h d a, G_rsp 57 h d a = calmE (fun a => F_num (NT.nz.nzL [] a)) h a) := ⟨fun _ _ _ => rfl, fun _ _ _ => rfl, fun _ _ _ => rfl, fun _ _ _ => rfl, fun _ _ _ => rfl⟩
theorem rsp_body (s : ByteArray) (b : Bool) (hl : s.size ≤ 1000000000) : Body Tryd.prog G_rsp (DRun Tryd.prog Gam.none) 40 [vStr s, vBool b] (vStr (strOfNums (spellR b (sB s)))) := by
  refine Body.of Tryd.func40 Tryd.ntmps40 (by kernel_rfl) rfl rfl rfl ?_
  have hn := sB_len s
  simp only [intsD, G_rsp_at, calmE, F_RPut, F_pts, F_dig, F_in, F_num, AV.flat, AV.flat.flatL, List.length_map, Int.reduceLE, Int.reduceLT, Int.reduceGT, Int.reduceGE, Int.reduceBEq, Int.reduceBNe, Int.reduceEq, Int.reduceToNat, Int.reduceSub, Int.reduceAdd, Int.reduceMul, Int.reducePow, Int.reduceNeg, goTG_val, goTG_new, goTG_up, goTG_none, goG_none, goG_new, goG_up, ne_eq, evK, evH, retHF, DRun_mk, runT_nil, runT_none, runT_guard, goT_val, goT_new, goT_store, goTH_true, goTH_false, evO, keys, Option.toList_some, Option.toList_none, nzL_nil, nzL_cons, nz_k, nz_sl, nz_nil, nz_agg, startL, evC, evV, goE_val, goE_new, goE_store, goH_true, goH_false, goG_val, lk_cons, lk_nil, lk_func, lk_int, lk_bool, lk_string, lk_slice, lk_agg, look_mk, St.effOf, eff, effCall, effBinC, isConst, effBin, effUn, effConv, effPick, effNil, effFold, fold1, effLoad, effStore, effFieldAddr, effField, fieldOf, sliceOf, effIndexAddr, effIndex, effLen, effExtract, effSlice, dats, bnd, effBuild, placesOf, effBuildSlice, effMakeSlice, effAppend, srcOf, fillA, chunk, seg, toD, toDs, put, eqAV, fieldsEq, leafEq, strip, unw, allB, selP_or, selP_and, tis, TyD.agg, AV.cells, AV.cell, allCell, vInt, vBool, vStr, subL_nil, subL_cons, upIds, AV.ids, AV.ids.idsL, AObj.ids, drops, Hp.get_cons, get_nil, retF, resL, one, fz, fz.fzL, List.map_cons, List.map_nil, List.nil_append, List.append_nil, List.cons_append, List.all_cons, List.all_nil, List.length_cons, List.length_nil, List.getElem?_cons_zero, List.getElem?_cons_succ, List.getD_cons_zero, List.getD_cons_succ, List.take_succ_cons, List.take_zero, List.drop_succ_cons, List.drop_zero, List.take_nil, List.drop_nil, List.contains_cons, List.contains_nil, Option.getD_some, Option.getD_none, Option.map_some, Option.map_none, if_true, if_false, true_and, and_true, and_self, or_self, or_false, false_or, false_and, and_false, reduceCtorEq, sel_and, sel_or, decide_eq_true_eq, Bool.and_eq_true, Bool.or_eq_true, Bool.and_true, Bool.true_and, Bool.or_false, Bool.false_or, Bool.true_or, Bool.or_true, Bool.not_true, Bool.not_false, Bool.false_eq_true, implies_true, not_false_eq_true, Nat.reduceLT, Nat.reduceEqDiff, Nat.reduceAdd, Nat.reduceMul, Nat.reduceMod, Nat.reduceLeDiff, Nat.reduceBEq, Nat.zero_add, Nat.add_zero, reduceIte, ↓reduceIte, List.not_mem_nil]
  refine ⟨hl, ?_⟩
  have hpr := pts_range (sB_bytes s)
  have hpl := pts_len (sB s)
  unfold spellR
  generalize ptsL (sB s) = ps at hpr hpl ⊢
  refine wpc_loop (fun j : Nat => ⟨80, [], [(1, vBool b), (5, .d (intsD ps)), (6, vStr (strOfNums (spellK b ps j))), (7, vInt .i64 j)], []⟩) (fun j => j ≤ ps.length) (fun j => ps.length - j) 0 (Nat.zero_le _) ?_ ?_
  · refine Le.of id [] ?_
    simp only [intsD, spellK, Mt_tup, Mt_agg, Mt_fn, forall_eq, forall_eq_or_imp, ne_eq, List.all_cons, List.all_nil, pr, Nat.reduceLeDiff, slR_nil, slR_cons, hpR_nil, hpR_cells, hpR_row, idsR_nil, idsR_cons, mtE_v, mtE_sl, mtE_nil, mtE_refl, mtE_row, mtE_born, mtE_ptr, mtE_rp, mtE_agg, mtE_tup, mtE_fn, mtE_ep, MtL_nil, MtL_cons, Mt_v, Mt_sl, Mt_nil, Mt_refl, Mt_row, Mt_born, Mt_ptr, MtO_cells, MtO_row, liveIds, distinct, Dat.v.injEq, Dat.sl.injEq, Value.int.injEq, Value.bool.injEq, Value.string.injEq, lk_cons, lk_nil, subL_nil, subL_cons, upIds, AV.ids, AV.ids.idsL, AObj.ids, Hp.get_cons, get_nil, allCell, AV.cell, vInt, vBool, vStr, id, true_and, and_true, and_self, List.append_nil, List.nil_append, List.not_mem_nil, List.mem_cons, or_false, false_or, or_self, not_true_eq_false, not_false_eq_true, false_imp_iff, false_implies, List.map_nil, not_false_eq_true, List.contains_cons, List.contains_nil, Bool.or_false, Bool.false_or, Bool.true_or, Bool.or_true, Bool.and_true, Bool.true_and, implies_true, if_true, if_false, reduceCtorEq, Nat.reduceEqDiff, Nat.reduceBEq, Nat.reduceAdd, reduceIte, ↓reduceIte]
    exact ⟨rfl, rfl⟩
  · intro j hj
    have hsl := spellK_le b ps j
    by_cases hj2 : (j : Int) < ps.length
    · obtain ⟨p, hp⟩ : ∃ p, ps[j]? = some p := ⟨_, List.getElem?_eq_getElem (by omega)⟩
      have hg : ps.getD (j : Int).toNat 0 = p := by rw [Int.toNat_natCast, List.getD_eq_getElem?_getD, hp]; rfl
      have h3 := hpr p (List.mem_of_getElem? hp)
      have hpb := putB [p]
      rw [show puts [p] = Utf.put p by simp [puts]] at hpb
      have e32 : (⟨#[32]⟩ : ByteArray) = strOfNums [32] := rfl
      have e92 : (⟨#[92]⟩ : ByteArray) = strOfNums [92] := rfl
      have e95 : (⟨#[92, 45]⟩ : ByteArray) = strOfNums [92, 45] := rfl
      have hs1 : (strOfNums [92]).size = 1 := rfl
      have hs2 : (strOfNums [92, 45]).size = 2 := rfl
      have hgn : ps.getD j 0 = p := by rw [Int.toNat_natCast] at hg; exact hg
      have ew : IntKind.i64.wrap ((j : Int) + 1) = ((j + 1 : Nat) : Int) := by rw [w64 (by omega) (by omega)]; omega
      have hj1 : ((j : Int) == 1) = decide (j = 1) := by rw [Bool.eq_iff_iff, beq_iff_eq, decide_eq_true_eq]; omega
      have hj0 : ((j : Int) == 0) = decide (j = 0) := by rw [Bool.eq_iff_iff, beq_iff_eq, decide_eq_true_eq]; omega
      have hp1 : ((ps.length : Int) == 1) = decide (ps.length = 1) := by rw [Bool.eq_iff_iff, beq_iff_eq, decide_eq_true_eq]; omega
      have sp := put_le p
      have sn := numL_le p
      simp only [intsD, getD_iD, hg, hj0, hj1, hp1, iD, hpb.2, e32, e92, e95, ← str_append, List.append_assoc, str_size, G_rsp_at, calmE, F_RPut, F_pts, F_dig, F_in, F_num, AV.flat, AV.flat.flatL, List.length_map, Int.reduceLE, Int.reduceLT, Int.reduceGT, Int.reduceGE, Int.reduceBEq, Int.reduceBNe, Int.reduceEq, Int.reduceToNat, Int.reduceSub, Int.reduceAdd, Int.reduceMul, Int.reducePow, Int.reduceNeg, goTG_val, goTG_new, goTG_up, goTG_none, goG_none, goG_new, goG_up, ne_eq, evK, evH, retHF, DRun_mk, runT_nil, runT_none, runT_guard, goT_val, goT_new, goT_store, goTH_true, goTH_false, evO, keys, Option.toList_some, Option.toList_none, nzL_nil, nzL_cons, nz_k, nz_sl, nz_nil, nz_agg, startL, evC, evV, goE_val, goE_new, goE_store, goH_true, goH_false, goG_val, lk_cons, lk_nil, lk_func, lk_int, lk_bool, lk_string, lk_slice, lk_agg, look_mk, St.effOf, eff, effCall, effBinC, isConst, effBin, effUn, effConv, effPick, effNil, effFold, fold1, effLoad, effStore, effFieldAddr, effField, fieldOf, sliceOf, effIndexAddr, effIndex, effLen, effExtract, effSlice, dats, bnd, effBuild, placesOf, effBuildSlice, effMakeSlice, effAppend, srcOf, fillA, chunk, seg, toD, toDs, put, eqAV, fieldsEq, leafEq, strip, unw, allB, selP_or, selP_and, tis, TyD.agg, AV.cells, AV.cell, allCell, vInt, vBool, vStr, subL_nil, subL_cons, upIds, AV.ids, AV.ids.idsL, AObj.ids, drops, Hp.get_cons, get_nil, retF, resL, one, fz, fz.fzL, List.map_cons, List.map_nil, List.nil_append, List.append_nil, List.cons_append, List.all_cons, List.all_nil, List.length_cons, List.length_nil, List.getElem?_cons_zero, List.getElem?_cons_succ, List.getD_cons_zero, List.getD_cons_succ, List.take_succ_cons, List.take_zero, List.drop_succ_cons, List.drop_zero, List.take_nil, List.drop_nil, List.contains_cons, List.contains_nil, Option.getD_some, Option.getD_none, Option.map_some, Option.map_none, if_true, if_false, true_and, and_true, and_self, or_self, or_false, false_or, false_and, and_false, reduceCtorEq, sel_and, sel_or, decide_eq_true_eq, Bool.and_eq_true, Bool.or_eq_true, Bool.and_true, Bool.true_and, Bool.or_false, Bool.false_or, Bool.true_or, Bool.or_true, Bool.not_true, Bool.not_false, Bool.false_eq_true, implies_true, not_false_eq_true, Nat.reduceLT, Nat.reduceEqDiff, Nat.reduceAdd, Nat.reduceMul, Nat.reduceMod, Nat.reduceLeDiff, Nat.reduceBEq, Nat.zero_add, Nat.add_zero, reduceIte, ↓reduceIte, List.not_mem_nil]
      rw [if_pos hj2]
      refine ⟨by omega, ?_⟩
      by_cases c1 : p < 32 ∨ p = 127
      · rw [if_pos (by simpa using c1), if_pos (by simpa using c1)]
        refine ⟨⟨by omega, by omega⟩, by omega, by first | omega | (simp only [List.length_cons, List.length_nil]; omega) | (rw [List.length_append]; omega) | (rw [List.length_append, List.length_append]; simp only [List.length_cons, List.length_nil]; omega), j + 1, by omega, by omega, Le.of id [] ?_⟩
        have e : spellK b ps (j + 1) = spellK b ps j ++ (numL p ++ [32]) := by rw [spellK, hgn]; unfold itemR; rw [if_pos (.inl c1)]
        simp only [intsD, e, ew, Mt_tup, Mt_agg, Mt_fn, forall_eq, forall_eq_or_imp, ne_eq, List.all_cons, List.all_nil, pr, Nat.reduceLeDiff, slR_nil, slR_cons, hpR_nil, hpR_cells, hpR_row, idsR_nil, idsR_cons, mtE_v, mtE_sl, mtE_nil, mtE_refl, mtE_row, mtE_born, mtE_ptr, mtE_rp, mtE_agg, mtE_tup, mtE_fn, mtE_ep, MtL_nil, MtL_cons, Mt_v, Mt_sl, Mt_nil, Mt_refl, Mt_row, Mt_born, Mt_ptr, MtO_cells, MtO_row, liveIds, distinct, Dat.v.injEq, Dat.sl.injEq, Value.int.injEq, Value.bool.injEq, Value.string.injEq, lk_cons, lk_nil, subL_nil, subL_cons, upIds, AV.ids, AV.ids.idsL, AObj.ids, Hp.get_cons, get_nil, allCell, AV.cell, vInt, vBool, vStr, id, true_and, and_true, and_self, List.append_nil, List.nil_append, List.not_mem_nil, List.mem_cons, or_false, false_or, or_self, not_true_eq_false, not_false_eq_true, false_imp_iff, false_implies, List.map_nil, not_false_eq_true, List.contains_cons, List.contains_nil, Bool.or_false, Bool.false_or, Bool.true_or, Bool.or_true, Bool.and_true, Bool.true_and, implies_true, if_true, if_false, reduceCtorEq, Nat.reduceEqDiff, Nat.reduceBEq, Nat.reduceAdd, reduceIte, ↓reduceIte]
      rw [if_neg (by simpa using c1)]
      refine ⟨fun h => by omega, ?_⟩
      by_cases c2 : (b = true ∧ digP p) ∧ (j = 0 ∨ j = 1 ∧ ps.getD 0 0 = 45)
      · rw [if_pos (by simpa using c2)]
        have hd := c2.1.2
        unfold digP at hd
        refine ⟨⟨by omega, by omega⟩, by omega, by first | omega | (simp only [List.length_cons, List.length_nil]; omega) | (rw [List.length_append]; omega) | (rw [List.length_append, List.length_append]; simp only [List.length_cons, List.length_nil]; omega), j + 1, by omega, by omega, Le.of id [] ?_⟩
        have e : spellK b ps (j + 1) = spellK b ps j ++ (numL p ++ [32]) := by rw [spellK, hgn]; unfold itemR; rw [if_pos (.inr c2)]
        simp only [intsD, e, ew, Mt_tup, Mt_agg, Mt_fn, forall_eq, forall_eq_or_imp, ne_eq, List.all_cons, List.all_nil, pr, Nat.reduceLeDiff, slR_nil, slR_cons, hpR_nil, hpR_cells, hpR_row, idsR_nil, idsR_cons, mtE_v, mtE_sl, mtE_nil, mtE_refl, mtE_row, mtE_born, mtE_ptr, mtE_rp, mtE_agg, mtE_tup, mtE_fn, mtE_ep, MtL_nil, MtL_cons, Mt_v, Mt_sl, Mt_nil, Mt_refl, Mt_row, Mt_born, Mt_ptr, MtO_cells, MtO_row, liveIds, distinct, Dat.v.injEq, Dat.sl.injEq, Value.int.injEq, Value.bool.injEq, Value.string.injEq, lk_cons, lk_nil, subL_nil, subL_cons, upIds, AV.ids, AV.ids.idsL, AObj.ids, Hp.get_cons, get_nil, allCell, AV.cell, vInt, vBool, vStr, id, true_and, and_true, and_self, List.append_nil, List.nil_append, List.not_mem_nil, List.mem_cons, or_false, false_or, or_self, not_true_eq_false, not_false_eq_true, false_imp_iff, false_implies, List.map_nil, not_false_eq_true, List.contains_cons, List.contains_nil, Bool.or_false, Bool.false_or, Bool.true_or, Bool.or_true, Bool.and_true, Bool.true_and, implies_true, if_true, if_false, reduceCtorEq, Nat.reduceEqDiff, Nat.reduceBEq, Nat.reduceAdd, reduceIte, ↓reduceIte]
      rw [if_neg (by simpa using c2)]
      have c12 : ¬ ((p < 32 ∨ p = 127) ∨ ((b = true ∧ digP p) ∧ (j = 0 ∨ j = 1 ∧ ps.getD 0 0 = 45))) := fun h => h.elim c1 c2
      by_cases c3 : (b = true ∧ p = 45) ∧ ps.length = 1
      · rw [if_pos (by simpa using c3)]
        refine ⟨by omega, j + 1, by omega, by omega, Le.of id [] ?_⟩
        have e : spellK b ps (j + 1) = spellK b ps j ++ ([92, 45]) := by rw [spellK, hgn]; unfold itemR; rw [if_neg c12, if_pos c3]
        simp only [intsD, e, ew, Mt_tup, Mt_agg, Mt_fn, forall_eq, forall_eq_or_imp, ne_eq, List.all_cons, List.all_nil, pr, Nat.reduceLeDiff, slR_nil, slR_cons, hpR_nil, hpR_cells, hpR_row, idsR_nil, idsR_cons, mtE_v, mtE_sl, mtE_nil, mtE_refl, mtE_row, mtE_born, mtE_ptr, mtE_rp, mtE_agg, mtE_tup, mtE_fn, mtE_ep, MtL_nil, MtL_cons, Mt_v, Mt_sl, Mt_nil, Mt_refl, Mt_row, Mt_born, Mt_ptr, MtO_cells, MtO_row, liveIds, distinct, Dat.v.injEq, Dat.sl.injEq, Value.int.injEq, Value.bool.injEq, Value.string.injEq, lk_cons, lk_nil, subL_nil, subL_cons, upIds, AV.ids, AV.ids.idsL, AObj.ids, Hp.get_cons, get_nil, allCell, AV.cell, vInt, vBool, vStr, id, true_and, and_true, and_self, List.append_nil, List.nil_append, List.not_mem_nil, List.mem_cons, or_false, false_or, or_self, not_true_eq_false, not_false_eq_true, false_imp_iff, false_implies, List.map_nil, not_false_eq_true, List.contains_cons, List.contains_nil, Bool.or_false, Bool.false_or, Bool.true_or, Bool.or_true, Bool.and_true, Bool.true_and, implies_true, if_true, if_false, reduceCtorEq, Nat.reduceEqDiff, Nat.reduceBEq, Nat.reduceAdd, reduceIte, ↓reduceIte]
      rw [if_neg (by simpa using c3)]
      by_cases c4 : inP p
      · rw [if_pos c4]
        refine ⟨hpb.1, by omega, j + 1, by omega, by omega, Le.of id [] ?_⟩
        have e : spellK b ps (j + 1) = spellK b ps j ++ (Utf.put p) := by rw [spellK, hgn]; unfold itemR; rw [if_neg c12, if_neg c3, if_pos c4]
        simp only [intsD, e, ew, Mt_tup, Mt_agg, Mt_fn, forall_eq, forall_eq_or_imp, ne_eq, List.all_cons, List.all_nil, pr, Nat.reduceLeDiff, slR_nil, slR_cons, hpR_nil, hpR_cells, hpR_row, idsR_nil, idsR_cons, mtE_v, mtE_sl, mtE_nil, mtE_refl, mtE_row, mtE_born, mtE_ptr, mtE_rp, mtE_agg, mtE_tup, mtE_fn, mtE_ep, MtL_nil, MtL_cons, Mt_v, Mt_sl, Mt_nil, Mt_refl, Mt_row, Mt_born, Mt_ptr, MtO_cells, MtO_row, liveIds, distinct, Dat.v.injEq, Dat.sl.injEq, Value.int.injEq, Value.bool.injEq, Value.string.injEq, lk_cons, lk_nil, subL_nil, subL_cons, upIds, AV.ids, AV.ids.idsL, AObj.ids, Hp.get_cons, get_nil, allCell, AV.cell, vInt, vBool, vStr, id, true_and, and_true, and_self, List.append_nil, List.nil_append, List.not_mem_nil, List.mem_cons, or_false, false_or, or_self, not_true_eq_false, not_false_eq_true, false_imp_iff, false_implies, List.map_nil, not_false_eq_true, List.contains_cons, List.contains_nil, Bool.or_false, Bool.false_or, Bool.true_or, Bool.or_true, Bool.and_true, Bool.true_and, implies_true, if_true, if_false, reduceCtorEq, Nat.reduceEqDiff, Nat.reduceBEq, Nat.reduceAdd, reduceIte, ↓reduceIte]
      · rw [if_neg c4]
        refine ⟨by omega, hpb.1, ?_, j + 1, by omega, by omega, Le.of id [] ?_⟩
        · have h1 : ([92] : List Int).length = 1 := rfl
          rw [List.length_append, h1]
          omega
        have e : spellK b ps (j + 1) = spellK b ps j ++ (92 :: Utf.put p) := by rw [spellK, hgn]; unfold itemR; rw [if_neg c12, if_neg c3, if_neg c4]
        simp only [intsD, e, ew, Mt_tup, Mt_agg, Mt_fn, forall_eq, forall_eq_or_imp, ne_eq, List.all_cons, List.all_nil, pr, Nat.reduceLeDiff, slR_nil, slR_cons, hpR_nil, hpR_cells, hpR_row, idsR_nil, idsR_cons, mtE_v, mtE_sl, mtE_nil, mtE_refl, mtE_row, mtE_born, mtE_ptr, mtE_rp, mtE_agg, mtE_tup, mtE_fn, mtE_ep, MtL_nil, MtL_cons, Mt_v, Mt_sl, Mt_nil, Mt_refl, Mt_row, Mt_born, Mt_ptr, MtO_cells, MtO_row, liveIds, distinct, Dat.v.injEq, Dat.sl.injEq, Value.int.injEq, Value.bool.injEq, Value.string.injEq, lk_cons, lk_nil, subL_nil, subL_cons, upIds, AV.ids, AV.ids.idsL, AObj.ids, Hp.get_cons, get_nil, allCell, AV.cell, vInt, vBool, vStr, id, true_and, and_true, and_self, List.append_nil, List.nil_append, List.not_mem_nil, List.mem_cons, or_false, false_or, or_self, not_true_eq_false, not_false_eq_true, false_imp_iff, false_implies, List.map_nil, not_false_eq_true, List.contains_cons, List.contains_nil, Bool.or_false, Bool.false_or, Bool.true_or, Bool.or_true, Bool.and_true, Bool.true_and, implies_true, if_true, if_false, reduceCtorEq, Nat.reduceEqDiff, Nat.reduceBEq, Nat.reduceAdd, reduceIte, ↓reduceIte]
    · simp only [intsD, iD, G_rsp_at, calmE, F_RPut, F_pts, F_dig, F_in, F_num, AV.flat, AV.flat.flatL, List.length_map, Int.reduceLE, Int.reduceLT, Int.reduceGT, Int.reduceGE, Int.reduceBEq, Int.reduceBNe, Int.reduceEq, Int.reduceToNat, Int.reduceSub, Int.reduceAdd, Int.reduceMul, Int.reducePow, Int.reduceNeg, goTG_val, goTG_new, goTG_up, goTG_none, goG_none, goG_new, goG_up, ne_eq, evK, evH, retHF, DRun_mk, runT_nil, runT_none, runT_guard, goT_val, goT_new, goT_store, goTH_true, goTH_false, evO, keys, Option.toList_some, Option.toList_none, nzL_nil, nzL_cons, nz_k, nz_sl, nz_nil, nz_agg, startL, evC, evV, goE_val, goE_new, goE_store, goH_true, goH_false, goG_val, lk_cons, lk_nil, lk_func, lk_int, lk_bool, lk_string, lk_slice, lk_agg, look_mk, St.effOf, eff, effCall, effBinC, isConst, effBin, effUn, effConv, effPick, effNil, effFold, fold1, effLoad, effStore, effFieldAddr, effField, fieldOf, sliceOf, effIndexAddr, effIndex, effLen, effExtract, effSlice, dats, bnd, effBuild, placesOf, effBuildSlice, effMakeSlice, effAppend, srcOf, fillA, chunk, seg, toD, toDs, put, eqAV, fieldsEq, leafEq, strip, unw, allB, selP_or, selP_and, tis, TyD.agg, AV.cells, AV.cell, allCell, vInt, vBool, vStr, subL_nil, subL_cons, upIds, AV.ids, AV.ids.idsL, AObj.ids, drops, Hp.get_cons, get_nil, retF, resL, one, fz, fz.fzL, List.map_cons, List.map_nil, List.nil_append, List.append_nil, List.cons_append, List.all_cons, List.all_nil, List.length_cons, List.length_nil, List.getElem?_cons_zero, List.getElem?_cons_succ, List.getD_cons_zero, List.getD_cons_succ, List.take_succ_cons, List.take_zero, List.drop_succ_cons, List.drop_zero, List.take_nil, List.drop_nil, List.contains_cons, List.contains_nil, Option.getD_some, Option.getD_none, Option.map_some, Option.map_none, if_true, if_false, true_and, and_true, and_self, or_self, or_false, false_or, false_and, and_false, reduceCtorEq, sel_and, sel_or, decide_eq_true_eq, Bool.and_eq_true, Bool.or_eq_true, Bool.and_true, Bool.true_and, Bool.or_false, Bool.false_or, Bool.true_or, Bool.or_true, Bool.not_true, Bool.not_false, Bool.false_eq_true, implies_true, not_false_eq_true, Nat.reduceLT, Nat.reduceEqDiff, Nat.reduceAdd, Nat.reduceMul, Nat.reduceMod, Nat.reduceLeDiff, Nat.reduceBEq, Nat.zero_add, Nat.add_zero, reduceIte, ↓reduceIte, List.not_mem_nil]
      rw [if_neg hj2]
      obtain rfl : j = ps.length := by omega
      exact Sub.refl _
theorem rsp_calm : ∀ args sc res, F_rsp args = some (sc, res) → sc → Calm Tryd.prog 40 args res := by
  intro args sc res h hs
  unfold F_rsp at h
  split at h <;> cases h
  exact Body.calm gok_rsp (draws0 _) rfl rfl (rsp_body _ _ hs)
def F_rs1 (b : Bool) : List AV → Option (Prop × AV)
  | [.d (.v (.string s))] => some (s.size ≤ 1000000000, vStr (strOfNums (spellR b (sB s))))
  | _ => none
noncomputable def G_rs1 : Gam := Gam.none.add 40 fun a => F_rsp (NT.nz.nzL [] a)
theorem known_rs1 : Known Tryd.prog G_rs1 := (Known.none _).addC _ rsp_calm
theorem G_rs1_at (h : Nat → Option AObj) (d : Nat) (a : List AV) : G_rs1 40 h d a = calmE (fun a => F_rsp (NT.nz.nzL [] a)) h a := rfl
theorem rS_body (s : ByteArray) (hl : s.size ≤ 1000000000) : Body Tryd.prog G_rs1 (DRun Tryd.prog G_rs1) 19 [vStr s] (vStr (strOfNums (spellR true (sB s)))) := by
  refine Body.of Tryd.func19 Tryd.ntmps19 (by kernel_rfl) rfl rfl rfl ?_
  simp only [G_rs1_at, calmE, F_rsp, AV.flat, AV.flat.flatL, goTG_val, goTG_new, goTG_up, goTG_none, goG_none, goG_new, goG_up, ne_eq, evK, evH, retHF, DRun_mk, runT_nil, runT_none, runT_guard, goT_val, goT_new, goT_store, goTH_true, goTH_false, evO, keys, Option.toList_some, Option.toList_none, nzL_nil, nzL_cons, nz_k, nz_sl, nz_nil, nz_agg, startL, evC, evV, goE_val, goE_new, goE_store, goH_true, goH_false, goG_val, lk_cons, lk_nil, lk_func, lk_int, lk_bool, lk_string, lk_slice, lk_agg, look_mk, St.effOf, eff, effCall, effBinC, isConst, effBin, effUn, effConv, effPick, effNil, effFold, fold1, effLoad, effStore, effFieldAddr, effField, fieldOf, sliceOf, effIndexAddr, effIndex, effLen, effExtract, effSlice, dats, bnd, effBuild, placesOf, effBuildSlice, effMakeSlice, effAppend, srcOf, fillA, chunk, seg, toD, toDs, put, eqAV, fieldsEq, leafEq, strip, unw, allB, selP_or, selP_and, tis, TyD.agg, AV.cells, AV.cell, allCell, vInt, vBool, vStr, subL_nil, subL_cons, upIds, AV.ids, AV.ids.idsL, AObj.ids, drops, Hp.get_cons, get_nil, retF, resL, one, fz, fz.fzL, List.map_cons, List.map_nil, List.nil_append, List.append_nil, List.cons_append, List.all_cons, List.all_nil, List.length_cons, List.length_nil, List.getElem?_cons_zero, List.getElem?_cons_succ, List.getD_cons_zero, List.getD_cons_succ, List.take_succ_cons, List.take_zero, List.drop_succ_cons, List.drop_zero, List.take_nil, List.drop_nil, List.contains_cons, List.contains_nil, Option.getD_some, Option.getD_none, Option.map_some, Option.map_none, if_true, if_false, true_and, and_true, and_self, or_self, or_false, false_or, false_and, and_false, reduceCtorEq, sel_and, sel_or, decide_eq_true_eq, Bool.and_eq_true, Bool.or_eq_true, Bool.and_true, Bool.true_and, Bool.or_false, Bool.false_or, Bool.true_or, Bool.or_true, Bool.not_true, Bool.not_false, Bool.false_eq_true, implies_true, not_false_eq_true, Nat.reduceLT, Nat.reduceEqDiff, Nat.reduceAdd, Nat.reduceMul, Nat.reduceMod, Nat.reduceLeDiff, Nat.reduceBEq, Nat.zero_add, Nat.add_zero, reduceIte, ↓reduceIte, List.not_mem_nil]
  exact ⟨hl, Sub.refl _⟩
theorem rS_calm : ∀ args sc res, F_rs1 true args = some (sc, res) → sc → Calm Tryd.prog 19 args res := by
  intro args sc res h hs
  unfold F_rs1 at h
  split at h <;> cases h
  exact known_rs1.calm mixed rfl rfl (rS_body _ hs)
theorem rR_body (s : ByteArray) (hl : s.size ≤ 1000000000) : Body Tryd.prog G_rs1 (DRun Tryd.prog G_rs1) 21 [vStr s] (vStr (strOfNums (spellR false (sB s)))) := by
  refine Body.of Tryd.func21 Tryd.ntmps21 (by kernel_rfl) rfl rfl rfl ?_
  simp only [G_rs1_at, calmE, F_rsp, AV.flat, AV.flat.flatL, goTG_val, goTG_new, goTG_up, goTG_none, goG_none, goG_new, goG_up, ne_eq, evK, evH, retHF, DRun_mk, runT_nil, runT_none, runT_guard, goT_val, goT_new, goT_store, goTH_true, goTH_false, evO, keys, Option.toList_some, Option.toList_none, nzL_nil, nzL_cons, nz_k, nz_sl, nz_nil, nz_agg, startL, evC, evV, goE_val, goE_new, goE_store, goH_true, goH_false, goG_val, lk_cons, lk_nil, lk_func, lk_int, lk_bool, lk_string, lk_slice, lk_agg, look_mk, St.effOf, eff, effCall, effBinC, isConst, effBin, effUn, effConv, effPick, effNil, effFold, fold1, effLoad, effStore, effFieldAddr, effField, fieldOf, sliceOf, effIndexAddr, effIndex, effLen, effExtract, effSlice, dats, bnd, effBuild, placesOf, effBuildSlice, effMakeSlice, effAppend, srcOf, fillA, chunk, seg, toD, toDs, put, eqAV, fieldsEq, leafEq, strip, unw, allB, selP_or, selP_and, tis, TyD.agg, AV.cells, AV.cell, allCell, vInt, vBool, vStr, subL_nil, subL_cons, upIds, AV.ids, AV.ids.idsL, AObj.ids, drops, Hp.get_cons, get_nil, retF, resL, one, fz, fz.fzL, List.map_cons, List.map_nil, List.nil_append, List.append_nil, List.cons_append, List.all_cons, List.all_nil, List.length_cons, List.length_nil, List.getElem?_cons_zero, List.getElem?_cons_succ, List.getD_cons_zero, List.getD_cons_succ, List.take_succ_cons, List.take_zero, List.drop_succ_cons, List.drop_zero, List.take_nil, List.drop_nil, List.contains_cons, List.contains_nil, Option.getD_some, Option.getD_none, Option.map_some, Option.map_none, if_true, if_false, true_and, and_true, and_self, or_self, or_false, false_or, false_and, and_false, reduceCtorEq, sel_and, sel_or, decide_eq_true_eq, Bool.and_eq_true, Bool.or_eq_true, Bool.and_true, Bool.true_and, Bool.or_false, Bool.false_or, Bool.true_or, Bool.or_true, Bool.not_true, Bool.not_false, Bool.false_eq_true, implies_true, not_false_eq_true, Nat.reduceLT, Nat.reduceEqDiff, Nat.reduceAdd, Nat.reduceMul, Nat.reduceMod, Nat.reduceLeDiff, Nat.reduceBEq, Nat.zero_add, Nat.add_zero, reduceIte, ↓reduceIte, List.not_mem_nil]
  exact ⟨hl, Sub.refl _⟩
theorem rR_calm : ∀ args sc res, F_rs1 false args = some (sc, res) → sc → Calm Tryd.prog 21 args res := by
  intro args sc res h hs
  unfold F_rs1 at h
  split at h <;> cases h
  exact known_rs1.calm mixed rfl rfl (rR_body _ hs)
/- Texts in marks. -/
def quotedR (g : Int) (l : List Int) : List Int := g :: quoL g (ptsL l) ++ [g]
def F_rquo : List AV → Option (Prop × AV)
  | [.d (.v (.string s)), .d (.v (.int .i64 g))] => some (s.size ≤ 1000000000 ∧ (g = 34 ∨ g = 39), vStr (strOfNums (quotedR g (sB s))))
  | _ => none
noncomputable def G_rquo : Gam := ((((Gam.none.addH 31 F_RPut).add 26 fun a => F_pts (NT.nz.nzL [] a)).add 53 fun a => F_hexv (NT.nz.nzL [] a)).add 54 fun a => F_blankc (NT.nz.nzL [] a)).add 57 fun a => F_num (NT.nz.nzL [] a)
theorem gok_rquo : Gok Tryd.prog G_rquo := by
  refine ((((RPut_ok (Known.none _).ok).add fun args sc res h hs _ => ?_).add fun args sc res h hs _ => ?_).add fun args sc res h hs _ => ?_).add fun args sc res h hs _ => ?_
  · exact (pts_calm _ sc res h hs).nz
  · exact (hexR_calm _ sc res h hs).nz
  · exact (blankR_calm _ sc res h hs).nz
  · exact (nbd_calm _ sc res h hs).nz
theorem G_rquo_at : (∀ h d a, G_rquo 31 h d a = F_RPut h d a) ∧ (∀ h d a, G_rquo 26 h d a = calmE (fun a => F_pts (NT.nz.nzL [] a)) h a) ∧ (∀ h d a, G_rquo 53 h d a = calmE (fun a => F_hexv (NT.nz.nzL [] a)) h a) ∧ (∀ h d a, G_rquo 54 h d a = calmE (fun a => F_blankc (NT.nz.nzL [] a)) h a) ∧ (∀ h d a, G_rquo 57 h d a = calmE (fun a => F_num (NT.nz.nzL [] a)) h a) := ⟨fun _ _ _ => rfl, fun _ _ _ => rfl, fun _ _ _ => rfl, fun _ _ _ => rfl, fun _ _ _ => rfl⟩
theorem put_one {g : Int} (h : g = 34 ∨ g = 39) : Utf.put g = [g] := by rcases h with rfl | rfl <;> rfl
theorem rquo_body (s : ByteArray) (g : Int) (hl : s.size ≤ 1000000000) (hgs : g = 34 ∨ g = 39) : Body Tryd.prog G_rquo (DRun Tryd.prog Gam.none) 46 [vStr s, vInt .i64 g] (vStr (strOfNums (quotedR g (sB s)))) := by
  refine Body.of Tryd.func46 Tryd.ntmps46 (by kernel_rfl) rfl rfl rfl ?_
  have hn := sB_len s
  have hbg : ∀ x, (∀ r ∈ (Utf.put x).map (iD .u8), r = [Dat.v (.int .u8 (byteOf r))]) ∧ ((Utf.put x).map (iD .u8)).map byteOf = Utf.put x := fun x => by
    have := putB [x]
    rw [show puts [x] = Utf.put x by simp [puts]] at this
    exact this
  have hput := put_one hgs
  simp only [intsD, fun x => (hbg x).2, hput, G_rquo_at, calmE, F_RPut, F_pts, F_hexv, F_blankc, F_num, AV.flat, AV.flat.flatL, List.length_map, Int.reduceLE, Int.reduceLT, Int.reduceGT, Int.reduceGE, Int.reduceBEq, Int.reduceBNe, Int.reduceEq, Int.reduceToNat, Int.reduceSub, Int.reduceAdd, Int.reduceMul, Int.reducePow, Int.reduceNeg, goTG_val, goTG_new, goTG_up, goTG_none, goG_none, goG_new, goG_up, ne_eq, evK, evH, retHF, DRun_mk, runT_nil, runT_none, runT_guard, goT_val, goT_new, goT_store, goTH_true, goTH_false, evO, keys, Option.toList_some, Option.toList_none, nzL_nil, nzL_cons, nz_k, nz_sl, nz_nil, nz_agg, startL, evC, evV, goE_val, goE_new, goE_store, goH_true, goH_false, goG_val, lk_cons, lk_nil, lk_func, lk_int, lk_bool, lk_string, lk_slice, lk_agg, look_mk, St.effOf, eff, effCall, effBinC, isConst, effBin, effUn, effConv, effPick, effNil, effFold, fold1, effLoad, effStore, effFieldAddr, effField, fieldOf, sliceOf, effIndexAddr, effIndex, effLen, effExtract, effSlice, dats, bnd, effBuild, placesOf, effBuildSlice, effMakeSlice, effAppend, srcOf, fillA, chunk, seg, toD, toDs, put, eqAV, fieldsEq, leafEq, strip, unw, allB, selP_or, selP_and, tis, TyD.agg, AV.cells, AV.cell, allCell, vInt, vBool, vStr, subL_nil, subL_cons, upIds, AV.ids, AV.ids.idsL, AObj.ids, drops, Hp.get_cons, get_nil, retF, resL, one, fz, fz.fzL, List.map_cons, List.map_nil, List.nil_append, List.append_nil, List.cons_append, List.all_cons, List.all_nil, List.length_cons, List.length_nil, List.getElem?_cons_zero, List.getElem?_cons_succ, List.getD_cons_zero, List.getD_cons_succ, List.take_succ_cons, List.take_zero, List.drop_succ_cons, List.drop_zero, List.take_nil, List.drop_nil, List.contains_cons, List.contains_nil, Option.getD_some, Option.getD_none, Option.map_some, Option.map_none, if_true, if_false, true_and, and_true, and_self, or_self, or_false, false_or, false_and, and_false, reduceCtorEq, sel_and, sel_or, decide_eq_true_eq, Bool.and_eq_true, Bool.or_eq_true, Bool.and_true, Bool.true_and, Bool.or_false, Bool.false_or, Bool.true_or, Bool.or_true, Bool.not_true, Bool.not_false, Bool.false_eq_true, implies_true, not_false_eq_true, Nat.reduceLT, Nat.reduceEqDiff, Nat.reduceAdd, Nat.reduceMul, Nat.reduceMod, Nat.reduceLeDiff, Nat.reduceBEq, Nat.zero_add, Nat.add_zero, reduceIte, ↓reduceIte, List.not_mem_nil]
  refine ⟨hl, ?_⟩
  have hpr := pts_range (sB_bytes s)
  have hpl := pts_len (sB s)
  unfold quotedR
  generalize ptsL (sB s) = ps at hpr hpl ⊢
  refine ⟨fun r hr => by rcases List.mem_singleton.mp hr with rfl; rfl, ?_⟩
  refine wpc_loop (fun q : Nat × List Int => ⟨103, [], [(1, vInt .i64 g), (5, .d (intsD ps)), (6, vStr (strOfNums q.2)), (7, vStr (strOfNums [g])), (8, vInt .i64 q.1)], []⟩) (fun q => q.1 ≤ ps.length ∧ q.2.length ≤ 6 * q.1 + 1 ∧ g :: quoL g ps = q.2 ++ quoL g (ps.drop q.1)) (fun q => ps.length - q.1) (0, [g]) ⟨Nat.zero_le _, Nat.le_refl _, rfl⟩ ?_ ?_
  · refine Le.of id [] ?_
    simp only [intsD, Mt_tup, Mt_agg, Mt_fn, forall_eq, forall_eq_or_imp, ne_eq, List.all_cons, List.all_nil, pr, Nat.reduceLeDiff, slR_nil, slR_cons, hpR_nil, hpR_cells, hpR_row, idsR_nil, idsR_cons, mtE_v, mtE_sl, mtE_nil, mtE_refl, mtE_row, mtE_born, mtE_ptr, mtE_rp, mtE_agg, mtE_tup, mtE_fn, mtE_ep, MtL_nil, MtL_cons, Mt_v, Mt_sl, Mt_nil, Mt_refl, Mt_row, Mt_born, Mt_ptr, MtO_cells, MtO_row, liveIds, distinct, Dat.v.injEq, Dat.sl.injEq, Value.int.injEq, Value.bool.injEq, Value.string.injEq, lk_cons, lk_nil, subL_nil, subL_cons, upIds, AV.ids, AV.ids.idsL, AObj.ids, Hp.get_cons, get_nil, allCell, AV.cell, vInt, vBool, vStr, id, true_and, and_true, and_self, List.append_nil, List.nil_append, List.not_mem_nil, List.mem_cons, or_false, false_or, or_self, not_true_eq_false, not_false_eq_true, false_imp_iff, false_implies, List.map_nil, not_false_eq_true, List.contains_cons, List.contains_nil, Bool.or_false, Bool.false_or, Bool.true_or, Bool.or_true, Bool.and_true, Bool.true_and, implies_true, if_true, if_false, reduceCtorEq, Nat.reduceEqDiff, Nat.reduceBEq, Nat.reduceAdd, reduceIte, ↓reduceIte]
    have ebg : byteOf (iD .u8 g) = g := rfl
    rw [ebg]
    exact ⟨rfl, rfl, rfl⟩
  · rintro ⟨j, o⟩ ⟨hj, ho, he⟩
    simp only [] at hj ho he
    by_cases hj2 : (j : Int) < ps.length
    · obtain ⟨p, hp⟩ : ∃ p, ps[j]? = some p := ⟨_, List.getElem?_eq_getElem (by omega)⟩
      have hg : ps.getD (j : Int).toNat 0 = p := by rw [Int.toNat_natCast, List.getD_eq_getElem?_getD, hp]; rfl
      have h3 := hpr p (List.mem_of_getElem? hp)
      have ew : IntKind.i64.wrap ((j : Int) + 1) = ((j + 1 : Nat) : Int) := by rw [w64 (by omega) (by omega)]; omega
      have e32 : (⟨#[32]⟩ : ByteArray) = strOfNums [32] := rfl
      have e92 : (⟨#[92]⟩ : ByteArray) = strOfNums [92] := rfl
      have step : ∀ w, quo1 g p (ps.drop (j + 1)) = w → (j + 1 ≤ ps.length ∧ (o ++ w).length ≤ 6 * (j + 1) + 1 ∧ g :: quoL g ps = (o ++ w) ++ quoL g (ps.drop (j + 1))) := fun w hw => by
        refine ⟨by omega, ?_, ?_⟩
        · have := quo1_le g p (ps.drop (j + 1))
          rw [hw] at this
          rw [List.length_append]; omega
        · rw [he, drop_at hp, quoL, hw, List.append_assoc]
      have haq : aheadQ (ps.drop (j + 1)) ↔ (((j + 1 : Nat) : Int) < ps.length ∧ (hexP (ps.getD (j + 1) 0) ∨ blankC (ps.getD (j + 1) 0) ∨ ps.getD (j + 1) 0 = 12 ∨ ps.getD (j + 1) 0 = 13)) := by
        cases hx : ps[j + 1]? with
        | none =>
          have hlen := List.getElem?_eq_none_iff.mp hx
          rw [List.drop_eq_nil_of_le hlen]
          constructor
          · intro h; exact h.elim
          · intro h; omega
        | some x =>
          have hlen := (List.getElem?_eq_some_iff.mp hx).1
          rw [drop_at hx, List.getD_eq_getElem?_getD, hx]
          constructor
          · intro h; exact ⟨by omega, h⟩
          · intro h; exact h.2
      have hxr : 0 ≤ ps.getD (j + 1) 0 ∧ ps.getD (j + 1) 0 ≤ 1114111 := by
        rw [List.getD_eq_getElem?_getD]
        cases hx : ps[j + 1]? with
        | none => exact ⟨by decide, by decide⟩
        | some x => have := hpr x (List.mem_of_getElem? hx); simp only [Option.getD_some]; omega
      have hgp : ((j + 1 : Nat) : Int).toNat = j + 1 := Int.toNat_natCast _
      have hvi : (hexV (ps.getD (j + 1) 0) ≥ 0) = hexP (ps.getD (j + 1) 0) := propext (hexV_iff _)
      simp only [intsD, getD_iD, hg, iD, numOf, ew, hgp, fun x => (hbg x).2, e32, e92, ← str_append, List.append_assoc, str_size, G_rquo_at, calmE, F_RPut, F_pts, F_hexv, F_blankc, F_num, AV.flat, AV.flat.flatL, List.length_map, Int.reduceLE, Int.reduceLT, Int.reduceGT, Int.reduceGE, Int.reduceBEq, Int.reduceBNe, Int.reduceEq, Int.reduceToNat, Int.reduceSub, Int.reduceAdd, Int.reduceMul, Int.reducePow, Int.reduceNeg, goTG_val, goTG_new, goTG_up, goTG_none, goG_none, goG_new, goG_up, ne_eq, evK, evH, retHF, DRun_mk, runT_nil, runT_none, runT_guard, goT_val, goT_new, goT_store, goTH_true, goTH_false, evO, keys, Option.toList_some, Option.toList_none, nzL_nil, nzL_cons, nz_k, nz_sl, nz_nil, nz_agg, startL, evC, evV, goE_val, goE_new, goE_store, goH_true, goH_false, goG_val, lk_cons, lk_nil, lk_func, lk_int, lk_bool, lk_string, lk_slice, lk_agg, look_mk, St.effOf, eff, effCall, effBinC, isConst, effBin, effUn, effConv, effPick, effNil, effFold, fold1, effLoad, effStore, effFieldAddr, effField, fieldOf, sliceOf, effIndexAddr, effIndex, effLen, effExtract, effSlice, dats, bnd, effBuild, placesOf, effBuildSlice, effMakeSlice, effAppend, srcOf, fillA, chunk, seg, toD, toDs, put, eqAV, fieldsEq, leafEq, strip, unw, allB, selP_or, selP_and, tis, TyD.agg, AV.cells, AV.cell, allCell, vInt, vBool, vStr, subL_nil, subL_cons, upIds, AV.ids, AV.ids.idsL, AObj.ids, drops, Hp.get_cons, get_nil, retF, resL, one, fz, fz.fzL, List.map_cons, List.map_nil, List.nil_append, List.append_nil, List.cons_append, List.all_cons, List.all_nil, List.length_cons, List.length_nil, List.getElem?_cons_zero, List.getElem?_cons_succ, List.getD_cons_zero, List.getD_cons_succ, List.take_succ_cons, List.take_zero, List.drop_succ_cons, List.drop_zero, List.take_nil, List.drop_nil, List.contains_cons, List.contains_nil, Option.getD_some, Option.getD_none, Option.map_some, Option.map_none, if_true, if_false, true_and, and_true, and_self, or_self, or_false, false_or, false_and, and_false, reduceCtorEq, sel_and, sel_or, decide_eq_true_eq, Bool.and_eq_true, Bool.or_eq_true, Bool.and_true, Bool.true_and, Bool.or_false, Bool.false_or, Bool.true_or, Bool.or_true, Bool.not_true, Bool.not_false, Bool.false_eq_true, implies_true, not_false_eq_true, Nat.reduceLT, Nat.reduceEqDiff, Nat.reduceAdd, Nat.reduceMul, Nat.reduceMod, Nat.reduceLeDiff, Nat.reduceBEq, Nat.zero_add, Nat.add_zero, reduceIte, ↓reduceIte, List.not_mem_nil]
      rw [if_pos hj2]
      refine ⟨by omega, fun r hr => (hbg p).1 r hr, ?_⟩
      have sp := put_le p
      have sn := numL_le p
      by_cases c1 : p = g ∨ p = 92
      · rw [if_pos (by simpa using c1)]
        refine ⟨by omega, by (have h1 : ([92] : List Int).length = 1 := rfl); (rw [List.length_append, h1]; omega), (j + 1, o ++ 92 :: Utf.put p), by simp only []; omega, step _ (by unfold quo1; rw [if_pos c1]), Le.of id [] ?_⟩
        simp only [intsD, Mt_tup, Mt_agg, Mt_fn, forall_eq, forall_eq_or_imp, ne_eq, List.all_cons, List.all_nil, pr, Nat.reduceLeDiff, slR_nil, slR_cons, hpR_nil, hpR_cells, hpR_row, idsR_nil, idsR_cons, mtE_v, mtE_sl, mtE_nil, mtE_refl, mtE_row, mtE_born, mtE_ptr, mtE_rp, mtE_agg, mtE_tup, mtE_fn, mtE_ep, MtL_nil, MtL_cons, Mt_v, Mt_sl, Mt_nil, Mt_refl, Mt_row, Mt_born, Mt_ptr, MtO_cells, MtO_row, liveIds, distinct, Dat.v.injEq, Dat.sl.injEq, Value.int.injEq, Value.bool.injEq, Value.string.injEq, lk_cons, lk_nil, subL_nil, subL_cons, upIds, AV.ids, AV.ids.idsL, AObj.ids, Hp.get_cons, get_nil, allCell, AV.cell, vInt, vBool, vStr, id, true_and, and_true, and_self, List.append_nil, List.nil_append, List.not_mem_nil, List.mem_cons, or_false, false_or, or_self, not_true_eq_false, not_false_eq_true, false_imp_iff, false_implies, List.map_nil, not_false_eq_true, List.contains_cons, List.contains_nil, Bool.or_false, Bool.false_or, Bool.true_or, Bool.or_true, Bool.and_true, Bool.true_and, implies_true, if_true, if_false, reduceCtorEq, Nat.reduceEqDiff, Nat.reduceBEq, Nat.reduceAdd, reduceIte, ↓reduceIte]
      rw [if_neg (by simpa using c1)]
      by_cases c2 : (p = 10 ∨ p = 12) ∨ p = 13
      · have c2' : p = 10 ∨ p = 12 ∨ p = 13 := by omega
        rw [if_pos (by simpa using c2)]
        refine ⟨by omega, by omega, fun h => ⟨by omega, h⟩, fun _ => ⟨by omega, by omega⟩, fun h => ⟨by omega, h.1⟩, fun h => ⟨by omega, h.1⟩, fun h => ⟨by omega, h.1⟩, ?_⟩
        by_cases c3 : aheadQ (ps.drop (j + 1))
        · have c4 := haq.mp c3
          rw [if_pos ⟨c4.1, by rw [hvi]; simpa [or_assoc] using c4.2⟩]
          refine ⟨by rw [List.length_append]; omega, (j + 1, o ++ (numL p ++ [32])), by simp only []; omega, step _ (by unfold quo1; rw [if_neg c1, if_pos c2', if_pos c3]), Le.of id [] ?_⟩
          simp only [intsD, Mt_tup, Mt_agg, Mt_fn, forall_eq, forall_eq_or_imp, ne_eq, List.all_cons, List.all_nil, pr, Nat.reduceLeDiff, slR_nil, slR_cons, hpR_nil, hpR_cells, hpR_row, idsR_nil, idsR_cons, mtE_v, mtE_sl, mtE_nil, mtE_refl, mtE_row, mtE_born, mtE_ptr, mtE_rp, mtE_agg, mtE_tup, mtE_fn, mtE_ep, MtL_nil, MtL_cons, Mt_v, Mt_sl, Mt_nil, Mt_refl, Mt_row, Mt_born, Mt_ptr, MtO_cells, MtO_row, liveIds, distinct, Dat.v.injEq, Dat.sl.injEq, Value.int.injEq, Value.bool.injEq, Value.string.injEq, lk_cons, lk_nil, subL_nil, subL_cons, upIds, AV.ids, AV.ids.idsL, AObj.ids, Hp.get_cons, get_nil, allCell, AV.cell, vInt, vBool, vStr, id, true_and, and_true, and_self, List.append_nil, List.nil_append, List.not_mem_nil, List.mem_cons, or_false, false_or, or_self, not_true_eq_false, not_false_eq_true, false_imp_iff, false_implies, List.map_nil, not_false_eq_true, List.contains_cons, List.contains_nil, Bool.or_false, Bool.false_or, Bool.true_or, Bool.or_true, Bool.and_true, Bool.true_and, implies_true, if_true, if_false, reduceCtorEq, Nat.reduceEqDiff, Nat.reduceBEq, Nat.reduceAdd, reduceIte, ↓reduceIte]
        · rw [if_neg (fun h => c3 (haq.mpr ⟨h.1, by have := h.2; rw [hvi] at this; simpa [or_assoc] using this⟩))]
          refine ⟨(j + 1, o ++ numL p), by simp only []; omega, step _ (by unfold quo1; rw [if_neg c1, if_pos c2', if_neg c3, List.append_nil]), Le.of id [] ?_⟩
          simp only [intsD, Mt_tup, Mt_agg, Mt_fn, forall_eq, forall_eq_or_imp, ne_eq, List.all_cons, List.all_nil, pr, Nat.reduceLeDiff, slR_nil, slR_cons, hpR_nil, hpR_cells, hpR_row, idsR_nil, idsR_cons, mtE_v, mtE_sl, mtE_nil, mtE_refl, mtE_row, mtE_born, mtE_ptr, mtE_rp, mtE_agg, mtE_tup, mtE_fn, mtE_ep, MtL_nil, MtL_cons, Mt_v, Mt_sl, Mt_nil, Mt_refl, Mt_row, Mt_born, Mt_ptr, MtO_cells, MtO_row, liveIds, distinct, Dat.v.injEq, Dat.sl.injEq, Value.int.injEq, Value.bool.injEq, Value.string.injEq, lk_cons, lk_nil, subL_nil, subL_cons, upIds, AV.ids, AV.ids.idsL, AObj.ids, Hp.get_cons, get_nil, allCell, AV.cell, vInt, vBool, vStr, id, true_and, and_true, and_self, List.append_nil, List.nil_append, List.not_mem_nil, List.mem_cons, or_false, false_or, or_self, not_true_eq_false, not_false_eq_true, false_imp_iff, false_implies, List.map_nil, not_false_eq_true, List.contains_cons, List.contains_nil, Bool.or_false, Bool.false_or, Bool.true_or, Bool.or_true, Bool.and_true, Bool.true_and, implies_true, if_true, if_false, reduceCtorEq, Nat.reduceEqDiff, Nat.reduceBEq, Nat.reduceAdd, reduceIte, ↓reduceIte]
      have c2' : ¬ (p = 10 ∨ p = 12 ∨ p = 13) := by omega
      rw [if_neg (by simpa using c2)]
      refine ⟨by omega, (j + 1, o ++ Utf.put p), by simp only []; omega, step _ (by unfold quo1; rw [if_neg c1, if_neg c2', if_neg (by omega)]), Le.of id [] ?_⟩
      simp only [intsD, Mt_tup, Mt_agg, Mt_fn, forall_eq, forall_eq_or_imp, ne_eq, List.all_cons, List.all_nil, pr, Nat.reduceLeDiff, slR_nil, slR_cons, hpR_nil, hpR_cells, hpR_row, idsR_nil, idsR_cons, mtE_v, mtE_sl, mtE_nil, mtE_refl, mtE_row, mtE_born, mtE_ptr, mtE_rp, mtE_agg, mtE_tup, mtE_fn, mtE_ep, MtL_nil, MtL_cons, Mt_v, Mt_sl, Mt_nil, Mt_refl, Mt_row, Mt_born, Mt_ptr, MtO_cells, MtO_row, liveIds, distinct, Dat.v.injEq, Dat.sl.injEq, Value.int.injEq, Value.bool.injEq, Value.string.injEq, lk_cons, lk_nil, subL_nil, subL_cons, upIds, AV.ids, AV.ids.idsL, AObj.ids, Hp.get_cons, get_nil, allCell, AV.cell, vInt, vBool, vStr, id, true_and, and_true, and_self, List.append_nil, List.nil_append, List.not_mem_nil, List.mem_cons, or_false, false_or, or_self, not_true_eq_false, not_false_eq_true, false_imp_iff, false_implies, List.map_nil, not_false_eq_true, List.contains_cons, List.contains_nil, Bool.or_false, Bool.false_or, Bool.true_or, Bool.or_true, Bool.and_true, Bool.true_and, implies_true, if_true, if_false, reduceCtorEq, Nat.reduceEqDiff, Nat.reduceBEq, Nat.reduceAdd, reduceIte, ↓reduceIte]
    · simp only [intsD, getD_iD, iD, numOf, ← str_append, str_size, G_rquo_at, calmE, F_RPut, F_pts, F_hexv, F_blankc, F_num, AV.flat, AV.flat.flatL, List.length_map, Int.reduceLE, Int.reduceLT, Int.reduceGT, Int.reduceGE, Int.reduceBEq, Int.reduceBNe, Int.reduceEq, Int.reduceToNat, Int.reduceSub, Int.reduceAdd, Int.reduceMul, Int.reducePow, Int.reduceNeg, goTG_val, goTG_new, goTG_up, goTG_none, goG_none, goG_new, goG_up, ne_eq, evK, evH, retHF, DRun_mk, runT_nil, runT_none, runT_guard, goT_val, goT_new, goT_store, goTH_true, goTH_false, evO, keys, Option.toList_some, Option.toList_none, nzL_nil, nzL_cons, nz_k, nz_sl, nz_nil, nz_agg, startL, evC, evV, goE_val, goE_new, goE_store, goH_true, goH_false, goG_val, lk_cons, lk_nil, lk_func, lk_int, lk_bool, lk_string, lk_slice, lk_agg, look_mk, St.effOf, eff, effCall, effBinC, isConst, effBin, effUn, effConv, effPick, effNil, effFold, fold1, effLoad, effStore, effFieldAddr, effField, fieldOf, sliceOf, effIndexAddr, effIndex, effLen, effExtract, effSlice, dats, bnd, effBuild, placesOf, effBuildSlice, effMakeSlice, effAppend, srcOf, fillA, chunk, seg, toD, toDs, put, eqAV, fieldsEq, leafEq, strip, unw, allB, selP_or, selP_and, tis, TyD.agg, AV.cells, AV.cell, allCell, vInt, vBool, vStr, subL_nil, subL_cons, upIds, AV.ids, AV.ids.idsL, AObj.ids, drops, Hp.get_cons, get_nil, retF, resL, one, fz, fz.fzL, List.map_cons, List.map_nil, List.nil_append, List.append_nil, List.cons_append, List.all_cons, List.all_nil, List.length_cons, List.length_nil, List.getElem?_cons_zero, List.getElem?_cons_succ, List.getD_cons_zero, List.getD_cons_succ, List.take_succ_cons, List.take_zero, List.drop_succ_cons, List.drop_zero, List.take_nil, List.drop_nil, List.contains_cons, List.contains_nil, Option.getD_some, Option.getD_none, Option.map_some, Option.map_none, if_true, if_false, true_and, and_true, and_self, or_self, or_false, false_or, false_and, and_false, reduceCtorEq, sel_and, sel_or, decide_eq_true_eq, Bool.and_eq_true, Bool.or_eq_true, Bool.and_true, Bool.true_and, Bool.or_false, Bool.false_or, Bool.true_or, Bool.or_true, Bool.not_true, Bool.not_false, Bool.false_eq_true, implies_true, not_false_eq_true, Nat.reduceLT, Nat.reduceEqDiff, Nat.reduceAdd, Nat.reduceMul, Nat.reduceMod, Nat.reduceLeDiff, Nat.reduceBEq, Nat.zero_add, Nat.add_zero, reduceIte, ↓reduceIte, List.not_mem_nil]
      rw [if_neg hj2]
      obtain rfl : j = ps.length := by omega
      rw [List.drop_eq_nil_of_le (Nat.le_refl _), quoL, List.append_nil] at he
      refine ⟨by omega, Sub.eq ?_⟩
      rw [← he]; rfl
theorem rquo_calm : ∀ args sc res, F_rquo args = some (sc, res) → sc → Calm Tryd.prog 46 args res := by
  intro args sc res h hs
  unfold F_rquo at h
  split at h <;> cases h
  exact Body.calm gok_rquo (draws0 _) rfl rfl (rquo_body _ _ hs.1 hs.2)
def textR (l : List Int) : List Int := if (quotedR 39 l).length < (quotedR 34 l).length then quotedR 39 l else quotedR 34 l
def F_rtxt : List AV → Option (Prop × AV)
  | [.d (.v (.string s))] => some (s.size ≤ 1000000000, vStr (strOfNums (textR (sB s))))
  | _ => none
noncomputable def G_rtxt : Gam := Gam.none.add 46 fun a => F_rquo (NT.nz.nzL [] a)
theorem known_rtxt : Known Tryd.prog G_rtxt := (Known.none _).addC _ rquo_calm
theorem G_rtxt_at (h : Nat → Option AObj) (d : Nat) (a : List AV) : G_rtxt 46 h d a = calmE (fun a => F_rquo (NT.nz.nzL [] a)) h a := rfl
theorem rtxt_body (s : ByteArray) (hl : s.size ≤ 1000000000) : Body Tryd.prog G_rtxt (DRun Tryd.prog G_rtxt) 23 [vStr s] (vStr (strOfNums (textR (sB s)))) := by
  refine Body.of Tryd.func23 Tryd.ntmps23 (by kernel_rfl) rfl rfl rfl ?_
  simp only [str_size, G_rtxt_at, calmE, F_rquo, AV.flat, AV.flat.flatL, goTG_val, goTG_new, goTG_up, goTG_none, goG_none, goG_new, goG_up, ne_eq, evK, evH, retHF, DRun_mk, runT_nil, runT_none, runT_guard, goT_val, goT_new, goT_store, goTH_true, goTH_false, evO, keys, Option.toList_some, Option.toList_none, nzL_nil, nzL_cons, nz_k, nz_sl, nz_nil, nz_agg, startL, evC, evV, goE_val, goE_new, goE_store, goH_true, goH_false, goG_val, lk_cons, lk_nil, lk_func, lk_int, lk_bool, lk_string, lk_slice, lk_agg, look_mk, St.effOf, eff, effCall, effBinC, isConst, effBin, effUn, effConv, effPick, effNil, effFold, fold1, effLoad, effStore, effFieldAddr, effField, fieldOf, sliceOf, effIndexAddr, effIndex, effLen, effExtract, effSlice, dats, bnd, effBuild, placesOf, effBuildSlice, effMakeSlice, effAppend, srcOf, fillA, chunk, seg, toD, toDs, put, eqAV, fieldsEq, leafEq, strip, unw, allB, selP_or, selP_and, tis, TyD.agg, AV.cells, AV.cell, allCell, vInt, vBool, vStr, subL_nil, subL_cons, upIds, AV.ids, AV.ids.idsL, AObj.ids, drops, Hp.get_cons, get_nil, retF, resL, one, fz, fz.fzL, List.map_cons, List.map_nil, List.nil_append, List.append_nil, List.cons_append, List.all_cons, List.all_nil, List.length_cons, List.length_nil, List.getElem?_cons_zero, List.getElem?_cons_succ, List.getD_cons_zero, List.getD_cons_succ, List.take_succ_cons, List.take_zero, List.drop_succ_cons, List.drop_zero, List.take_nil, List.drop_nil, List.contains_cons, List.contains_nil, Option.getD_some, Option.getD_none, Option.map_some, Option.map_none, if_true, if_false, true_and, and_true, and_self, or_self, or_false, false_or, false_and, and_false, reduceCtorEq, sel_and, sel_or, decide_eq_true_eq, Bool.and_eq_true, Bool.or_eq_true, Bool.and_true, Bool.true_and, Bool.or_false, Bool.false_or, Bool.true_or, Bool.or_true, Bool.not_true, Bool.not_false, Bool.false_eq_true, implies_true, not_false_eq_true, Nat.reduceLT, Nat.reduceEqDiff, Nat.reduceAdd, Nat.reduceMul, Nat.reduceMod, Nat.reduceLeDiff, Nat.reduceBEq, Nat.zero_add, Nat.add_zero, reduceIte, ↓reduceIte, List.not_mem_nil]
  unfold textR
  refine ⟨⟨hl, .inl trivial⟩, ⟨hl, .inr trivial⟩, ?_⟩
  by_cases c : (quotedR 39 (sB s)).length < (quotedR 34 (sB s)).length
  · rw [if_pos (by omega), if_pos c]
  · rw [if_neg (by omega), if_neg c]
theorem rtxt_calm : ∀ args sc res, F_rtxt args = some (sc, res) → sc → Calm Tryd.prog 23 args res := by
  intro args sc res h hs
  unfold F_rtxt at h
  split at h <;> cases h
  exact known_rtxt.calm mixed rfl rfl (rtxt_body _ hs)
end Go.Proofs.YtelgddealjbgiaaDoor.Eng
