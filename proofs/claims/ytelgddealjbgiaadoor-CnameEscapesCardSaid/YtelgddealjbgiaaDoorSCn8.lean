/- Names of CSS: where they begin and which they are, on the small machine. -/
import Derived.Test.YtelgddealjbgiaaDoorSCn7
import Derived.Test.YtelgddealjbgiaaDoorSRpt
namespace Go.Proofs.YtelgddealjbgiaaDoor.Eng
open Go Go.Proofs.YtelgddealjbgiaaDoor.Base
set_option maxRecDepth 100000
set_option linter.unusedSimpArgs false
set_option linter.unusedVariables false
noncomputable def Gr_escd : Gam := ((Gam.none.add 37 fun a => F_at (NT.nz.nzL [.s 2] a)).add 53 fun a => F_hexv (NT.nz.nzL [] a)).add 54 fun a => F_blankc (NT.nz.nzL [] a)
theorem known_Gr_escd : Known Tryd.prog Gr_escd := (((Known.none _).addC _ atRf_calm).addC _ hexR_calm).addC _ blankR_calm
theorem Gr_escd_at : (∀ h d a, Gr_escd 37 h d a = calmE (fun a => F_at (NT.nz.nzL [.s 2] a)) h a) ∧ (∀ h d a, Gr_escd 53 h d a = calmE (fun a => F_hexv (NT.nz.nzL [] a)) h a) ∧ (∀ h d a, Gr_escd 54 h d a = calmE (fun a => F_blankc (NT.nz.nzL [] a)) h a) := ⟨fun _ _ _ => rfl, fun _ _ _ => rfl, fun _ _ _ => rfl⟩
theorem escdR_body (l : List (Int × Int)) (i : Int) (hl : l.length ≤ 1000000) (hr : okR l) (h0 : 0 ≤ i) (h1 : i ≤ 1000000) : Body Tryd.prog Gr_escd (DRun Tryd.prog Gr_escd) 33 [.d (runesD l), vInt .i64 i] (.tup [vInt .i64 (escV l i).1, vInt .i64 (escV l i).2]) := by
  refine Body.of Tryd.func33 Tryd.ntmps33 (by kernel_rfl) rfl rfl rfl ?_
  have nz2 : ∀ xs, (NT.s 2).nz (.d (.sl 2 xs)) = .d (.sl 2 xs) := fun xs => rfl
  have w1 : IntKind.i64.wrap (i + 1) = i + 1 := w64 (by omega) (by omega)
  simp only [runesD, rD_runeOf, nz2, w1, Gr_escd_at, calmE, F_at, F_hexv, F_blankc, AV.flat, AV.flat.flatL, List.length_map, Int.reduceLE, Int.reduceLT, Int.reduceGT, Int.reduceGE, Int.reduceBEq, Int.reduceBNe, Int.reduceEq, Int.reduceToNat, Int.reduceSub, Int.reduceAdd, Int.reduceMul, Int.reducePow, Int.reduceNeg, goTG_val, goTG_new, goTG_up, goTG_none, goG_none, goG_new, goG_up, ne_eq, evK, evH, retHF, DRun_mk, runT_nil, runT_none, runT_guard, goT_val, goT_new, goT_store, goTH_true, goTH_false, evO, keys, Option.toList_some, Option.toList_none, nzL_nil, nzL_cons, nz_k, nz_sl, nz_nil, nz_agg, startL, evC, evV, goE_val, goE_new, goE_store, goH_true, goH_false, goG_val, lk_cons, lk_nil, lk_func, lk_int, lk_bool, lk_string, lk_slice, lk_agg, look_mk, St.effOf, eff, effCall, effBinC, isConst, effBin, effUn, effConv, effPick, effNil, effFold, fold1, effLoad, effStore, effFieldAddr, effField, fieldOf, sliceOf, effIndexAddr, effIndex, effLen, effExtract, effSlice, dats, bnd, effBuild, placesOf, effBuildSlice, effMakeSlice, effAppend, srcOf, fillA, chunk, seg, toD, toDs, put, eqAV, fieldsEq, leafEq, strip, unw, allB, selP_or, selP_and, tis, TyD.agg, AV.cells, AV.cell, allCell, vInt, vBool, vStr, subL_nil, subL_cons, upIds, AV.ids, AV.ids.idsL, AObj.ids, drops, Hp.get_cons, get_nil, retF, resL, one, fz, fz.fzL, List.map_cons, List.map_nil, List.nil_append, List.append_nil, List.cons_append, List.all_cons, List.all_nil, List.length_cons, List.length_nil, List.getElem?_cons_zero, List.getElem?_cons_succ, List.getD_cons_zero, List.getD_cons_succ, List.take_succ_cons, List.take_zero, List.drop_succ_cons, List.drop_zero, List.take_nil, List.drop_nil, List.contains_cons, List.contains_nil, Option.getD_some, Option.getD_none, Option.map_some, Option.map_none, if_true, if_false, true_and, and_true, and_self, or_self, or_false, false_or, false_and, and_false, reduceCtorEq, sel_and, sel_or, decide_eq_true_eq, Bool.and_eq_true, Bool.or_eq_true, Bool.and_true, Bool.true_and, Bool.or_false, Bool.false_or, Bool.true_or, Bool.or_true, Bool.not_true, Bool.not_false, Bool.false_eq_true, implies_true, not_false_eq_true, Nat.reduceLT, Nat.reduceEqDiff, Nat.reduceAdd, Nat.reduceMul, Nat.reduceMod, Nat.reduceLeDiff, Nat.reduceBEq, Nat.zero_add, Nat.add_zero, reduceIte, ↓reduceIte, List.not_mem_nil]
  by_cases c0 : i + 1 ≥ l.length
  · rw [if_pos c0]
    unfold escV
    rw [if_pos c0]
  rw [if_neg c0]
  have hra := fun k => atR_range hr k
  refine ⟨by have := hra (i + 1); omega, ?_⟩
  by_cases cx : hexP (atR l (i + 1))
  rotate_left
  · have := hexV_iff (atR l (i + 1))
    rw [if_pos (by simp only [cx, iff_false] at this; omega), escV_eq c0 (n := 0) (e := i + 1) (hexN_stop (.inr cx)), if_pos rfl]
    rw [w64 (by omega) (by omega)]
  have hx0 := (hexV_range cx).1
  rw [if_neg (by omega)]
  refine wpc_loop (fun q : Nat × Int => ⟨70, [], [(0, .d (runesD l)), (1, vInt .i64 i), (7, vInt .i64 q.2), (8, vInt .i64 (i + 1 + q.1))], []⟩) (fun q => q.1 ≤ 6 ∧ 0 ≤ q.2 ∧ q.2 < 16 ^ q.1 ∧ hexN l (6 - q.1) q.2 (i + 1 + q.1) = hexN l 6 0 (i + 1)) (fun q => 6 - q.1) (0, 0) ⟨by decide, by decide, by decide, by simp⟩ ?_ ?_
  · refine Le.of id [] ?_
    simp only [runesD, Mt_tup, Mt_agg, Mt_fn, forall_eq, forall_eq_or_imp, ne_eq, List.all_cons, List.all_nil, pr, Nat.reduceLeDiff, slR_nil, slR_cons, hpR_nil, hpR_cells, hpR_row, idsR_nil, idsR_cons, mtE_v, mtE_sl, mtE_nil, mtE_refl, mtE_row, mtE_born, mtE_ptr, mtE_rp, mtE_agg, mtE_tup, mtE_fn, mtE_ep, MtL_nil, MtL_cons, Mt_v, Mt_sl, Mt_nil, Mt_refl, Mt_row, Mt_born, Mt_ptr, MtO_cells, MtO_row, liveIds, distinct, Dat.v.injEq, Dat.sl.injEq, Value.int.injEq, Value.bool.injEq, Value.string.injEq, lk_cons, lk_nil, subL_nil, subL_cons, upIds, AV.ids, AV.ids.idsL, AObj.ids, Hp.get_cons, get_nil, allCell, AV.cell, vInt, vBool, vStr, id, true_and, and_true, and_self, List.append_nil, List.nil_append, List.not_mem_nil, List.mem_cons, or_false, false_or, or_self, not_true_eq_false, not_false_eq_true, false_imp_iff, false_implies, List.map_nil, not_false_eq_true, List.contains_cons, List.contains_nil, Bool.or_false, Bool.false_or, Bool.true_or, Bool.or_true, Bool.and_true, Bool.true_and, implies_true, if_true, if_false, reduceCtorEq, Nat.reduceEqDiff, Nat.reduceBEq, Nat.reduceAdd, reduceIte, ↓reduceIte]
    omega
  · rintro ⟨k, n⟩ ⟨hk, hn0, hn1, he⟩
    simp only [] at hk hn0 hn1 he
    have w7 : IntKind.i64.wrap (i + 7) = i + 7 := w64 (by omega) (by omega)
    have w0 := hra (i + 1 + k)
    have wx : IntKind.i64.wrap (16 * n) = 16 * n := by
      by_cases hk5 : k ≤ 5
      · have := pow16 (k := k) hk5; exact w64 (by omega) (by omega)
      · obtain rfl : k = 6 := by omega
        exact w64 (by omega) (by have : (16 : Int) ^ 6 = 16777216 := by decide
                                 omega)
    have cxr : (-1000 ≤ atR l (i + 1 + (k : Int)) ∧ atR l (i + 1 + (k : Int)) ≤ 2000000) = True := eq_true (by omega)
    simp only [runesD, rD_runeOf, nz2, w1, w7, wx, cxr, Gr_escd_at, calmE, F_at, F_hexv, F_blankc, AV.flat, AV.flat.flatL, List.length_map, Int.reduceLE, Int.reduceLT, Int.reduceGT, Int.reduceGE, Int.reduceBEq, Int.reduceBNe, Int.reduceEq, Int.reduceToNat, Int.reduceSub, Int.reduceAdd, Int.reduceMul, Int.reducePow, Int.reduceNeg, goTG_val, goTG_new, goTG_up, goTG_none, goG_none, goG_new, goG_up, ne_eq, evK, evH, retHF, DRun_mk, runT_nil, runT_none, runT_guard, goT_val, goT_new, goT_store, goTH_true, goTH_false, evO, keys, Option.toList_some, Option.toList_none, nzL_nil, nzL_cons, nz_k, nz_sl, nz_nil, nz_agg, startL, evC, evV, goE_val, goE_new, goE_store, goH_true, goH_false, goG_val, lk_cons, lk_nil, lk_func, lk_int, lk_bool, lk_string, lk_slice, lk_agg, look_mk, St.effOf, eff, effCall, effBinC, isConst, effBin, effUn, effConv, effPick, effNil, effFold, fold1, effLoad, effStore, effFieldAddr, effField, fieldOf, sliceOf, effIndexAddr, effIndex, effLen, effExtract, effSlice, dats, bnd, effBuild, placesOf, effBuildSlice, effMakeSlice, effAppend, srcOf, fillA, chunk, seg, toD, toDs, put, eqAV, fieldsEq, leafEq, strip, unw, allB, selP_or, selP_and, tis, TyD.agg, AV.cells, AV.cell, allCell, vInt, vBool, vStr, subL_nil, subL_cons, upIds, AV.ids, AV.ids.idsL, AObj.ids, drops, Hp.get_cons, get_nil, retF, resL, one, fz, fz.fzL, List.map_cons, List.map_nil, List.nil_append, List.append_nil, List.cons_append, List.all_cons, List.all_nil, List.length_cons, List.length_nil, List.getElem?_cons_zero, List.getElem?_cons_succ, List.getD_cons_zero, List.getD_cons_succ, List.take_succ_cons, List.take_zero, List.drop_succ_cons, List.drop_zero, List.take_nil, List.drop_nil, List.contains_cons, List.contains_nil, Option.getD_some, Option.getD_none, Option.map_some, Option.map_none, if_true, if_false, true_and, and_true, and_self, or_self, or_false, false_or, false_and, and_false, reduceCtorEq, sel_and, sel_or, decide_eq_true_eq, Bool.and_eq_true, Bool.or_eq_true, Bool.and_true, Bool.true_and, Bool.or_false, Bool.false_or, Bool.true_or, Bool.or_true, Bool.not_true, Bool.not_false, Bool.false_eq_true, implies_true, not_false_eq_true, Nat.reduceLT, Nat.reduceEqDiff, Nat.reduceAdd, Nat.reduceMul, Nat.reduceMod, Nat.reduceLeDiff, Nat.reduceBEq, Nat.zero_add, Nat.add_zero, reduceIte, ↓reduceIte, List.not_mem_nil]
    by_cases c1 : i + 1 + (k : Int) < i + 7 ∧ hexV (atR l (i + 1 + k)) ≥ 0
    · rw [if_pos c1]
      have hxp := (hexV_iff _).mp c1.2
      have hv := hexV_range hxp
      have p16 := pow16 (k := k) (by omega)
      refine ⟨(k + 1, 16 * n + hexV (atR l (i + 1 + k))), by simp only []; omega, ⟨by simp only []; omega, by simp only []; omega, ?_, ?_⟩, Le.of id [] ?_⟩
      · simp only [Int.pow_succ]; omega
      · rw [← he, show 6 - k = (6 - (k + 1)) + 1 by omega, hexN, if_pos hxp]
        simp only []
        congr 1
        omega
      · simp only [runesD, Mt_tup, Mt_agg, Mt_fn, forall_eq, forall_eq_or_imp, ne_eq, List.all_cons, List.all_nil, pr, Nat.reduceLeDiff, slR_nil, slR_cons, hpR_nil, hpR_cells, hpR_row, idsR_nil, idsR_cons, mtE_v, mtE_sl, mtE_nil, mtE_refl, mtE_row, mtE_born, mtE_ptr, mtE_rp, mtE_agg, mtE_tup, mtE_fn, mtE_ep, MtL_nil, MtL_cons, Mt_v, Mt_sl, Mt_nil, Mt_refl, Mt_row, Mt_born, Mt_ptr, MtO_cells, MtO_row, liveIds, distinct, Dat.v.injEq, Dat.sl.injEq, Value.int.injEq, Value.bool.injEq, Value.string.injEq, lk_cons, lk_nil, subL_nil, subL_cons, upIds, AV.ids, AV.ids.idsL, AObj.ids, Hp.get_cons, get_nil, allCell, AV.cell, vInt, vBool, vStr, id, true_and, and_true, and_self, List.append_nil, List.nil_append, List.not_mem_nil, List.mem_cons, or_false, false_or, or_self, not_true_eq_false, not_false_eq_true, false_imp_iff, false_implies, List.map_nil, not_false_eq_true, List.contains_cons, List.contains_nil, Bool.or_false, Bool.false_or, Bool.true_or, Bool.or_true, Bool.and_true, Bool.true_and, implies_true, if_true, if_false, reduceCtorEq, Nat.reduceEqDiff, Nat.reduceBEq, Nat.reduceAdd, reduceIte, ↓reduceIte]
        rw [w64 (by omega) (by omega), w64 (by omega) (by omega)]
        exact ⟨by omega, by omega⟩
    · rw [if_neg c1]
      have hs : 6 - k = 0 ∨ ¬ hexP (atR l (i + 1 + (k : Int))) := by
        by_cases c2 : k = 6
        · exact .inl (by omega)
        · exact .inr fun h => c1 ⟨by omega, (hexV_iff _).mpr h⟩
      rw [hexN_stop hs] at he
      rw [escV_eq c0 he.symm]
      have c2 : k ≠ 0 := by
        rintro rfl
        exact c1 ⟨by omega, (hexV_iff _).mpr (by simpa using cx)⟩
      rw [if_neg (show ¬ i + 1 + (k : Int) = i + 1 by omega)]
      unfold fixN
      by_cases c4 : (n = 0 ∨ n > 1114111) ∨ n ≥ 55296 ∧ n ≤ 57343
      · have c5 : ((n == 0) = true ∨ n > 1114111) ∨ n ≥ 55296 ∧ n < 57344 := by rw [beq_iff_eq]; omega
        rw [if_pos c5, if_pos c5, if_pos c4]
        by_cases c3 : blankC (atR l (i + 1 + (k : Int)))
        · rw [if_pos c3, if_pos c3, w64 (by omega) (by omega)]
        · rw [if_neg c3, if_neg c3]
      · have c5 : ¬ (((n == 0) = true ∨ n > 1114111) ∨ n ≥ 55296 ∧ n < 57344) := by rw [beq_iff_eq]; omega
        rw [if_neg c5, if_neg c5, if_neg c4]
        by_cases c3 : blankC (atR l (i + 1 + (k : Int)))
        · rw [if_pos c3, if_pos c3, w64 (by omega) (by omega)]
        · rw [if_neg c3, if_neg c3]
theorem escdR_calm : ∀ args sc res, F_escd args = some (sc, res) → sc → Calm Tryd.prog 33 args res := by
  intro args sc res h hs
  unfold F_escd at h
  split at h <;> cases h
  rename_i xs i
  obtain ⟨h1, h2, h3, h4, h5⟩ := hs
  have hb := escdR_body (xs.map runeOf) i (by simpa using h2) h3 h4 h5
  rw [runesD, ← h1] at hb
  exact known_Gr_escd.calm mixed rfl rfl hb
/- Where a name begins. -/
def begP (l : List (Int × Int)) (i : Int) : Prop := (0 ≤ i ∧ i < l.length) ∧ (if atR l i = 45 then startP (atR l (i + 1)) ∨ atR l (i + 1) = 45 ∨ escP l (i + 1) else startP (atR l i) ∨ escP l i)
instance (l : List (Int × Int)) (i : Int) : Decidable (begP l i) := by unfold begP; infer_instance
def F_beg : List AV → Option (Prop × AV)
  | [.d (.sl 2 xs), .d (.v (.int .i64 i))] => some (xs = (xs.map runeOf).map rD ∧ xs.length ≤ 1000000 ∧ okR (xs.map runeOf), vBool (decide (begP (xs.map runeOf) i)))
  | _ => none
theorem atR_neg {l : List (Int × Int)} (h : okR l) (i : Int) : atR l i < 0 ↔ ¬ (0 ≤ i ∧ i < l.length) := by
  unfold atR
  split
  · constructor
    · intro _; omega
    · intro _; decide
  · rename_i c
    obtain ⟨k, rfl⟩ := Int.eq_ofNat_of_zero_le (show 0 ≤ i by omega)
    obtain ⟨x, hx⟩ : ∃ x, l[k]? = some x := ⟨_, List.getElem?_eq_getElem (by omega)⟩
    rw [Int.toNat_natCast, List.getD_eq_getElem?_getD, hx]
    have := h x (List.mem_of_getElem? hx)
    simp only [Option.getD_some]; omega
noncomputable def Gc_beg : Gam := ((Gam.none.add 36 fun a => F_at (NT.nz.nzL [.s 2] a)).add 12 fun a => F_start (NT.nz.nzL [] a)).add 27 fun a => F_esc (NT.nz.nzL [.s 2] a)
theorem known_Gc_beg : Known Tryd.prog Gc_beg := (((Known.none _).addC _ atI_calm).addC _ startI_calm).addC _ escI_calm
theorem Gc_beg_at : (∀ h d a, Gc_beg 36 h d a = calmE (fun a => F_at (NT.nz.nzL [.s 2] a)) h a) ∧ (∀ h d a, Gc_beg 12 h d a = calmE (fun a => F_start (NT.nz.nzL [] a)) h a) ∧ (∀ h d a, Gc_beg 27 h d a = calmE (fun a => F_esc (NT.nz.nzL [.s 2] a)) h a) := ⟨fun _ _ _ => rfl, fun _ _ _ => rfl, fun _ _ _ => rfl⟩
theorem begI_body (l : List (Int × Int)) (i : Int) (hl : l.length ≤ 1000000) (hr : okR l) : Body Tryd.prog Gc_beg (DRun Tryd.prog Gc_beg) 16 [.d (runesD l), vInt .i64 i] (vBool (decide (begP l i))) := by
  refine Body.of Tryd.func16 Tryd.ntmps16 (by kernel_rfl) rfl rfl rfl ?_
  have nz2 : ∀ xs, (NT.s 2).nz (.d (.sl 2 xs)) = .d (.sl 2 xs) := fun xs => rfl
  have hn := atR_neg hr i
  simp only [runesD, rD_runeOf, nz2, Gc_beg_at, calmE, F_at, F_start, F_esc, AV.flat, AV.flat.flatL, List.length_map, Int.reduceLE, Int.reduceLT, Int.reduceGT, Int.reduceGE, Int.reduceBEq, Int.reduceBNe, Int.reduceEq, Int.reduceToNat, Int.reduceSub, Int.reduceAdd, Int.reduceMul, Int.reducePow, Int.reduceNeg, goTG_val, goTG_new, goTG_up, goTG_none, goG_none, goG_new, goG_up, ne_eq, evK, evH, retHF, DRun_mk, runT_nil, runT_none, runT_guard, goT_val, goT_new, goT_store, goTH_true, goTH_false, evO, keys, Option.toList_some, Option.toList_none, nzL_nil, nzL_cons, nz_k, nz_sl, nz_nil, nz_agg, startL, evC, evV, goE_val, goE_new, goE_store, goH_true, goH_false, goG_val, lk_cons, lk_nil, lk_func, lk_int, lk_bool, lk_string, lk_slice, lk_agg, look_mk, St.effOf, eff, effCall, effBinC, isConst, effBin, effUn, effConv, effPick, effNil, effFold, fold1, effLoad, effStore, effFieldAddr, effField, fieldOf, sliceOf, effIndexAddr, effIndex, effLen, effExtract, effSlice, dats, bnd, effBuild, placesOf, effBuildSlice, effMakeSlice, effAppend, srcOf, fillA, chunk, seg, toD, toDs, put, eqAV, fieldsEq, leafEq, strip, unw, allB, selP_or, selP_and, tis, TyD.agg, AV.cells, AV.cell, allCell, vInt, vBool, vStr, subL_nil, subL_cons, upIds, AV.ids, AV.ids.idsL, AObj.ids, drops, Hp.get_cons, get_nil, retF, resL, one, fz, fz.fzL, List.map_cons, List.map_nil, List.nil_append, List.append_nil, List.cons_append, List.all_cons, List.all_nil, List.length_cons, List.length_nil, List.getElem?_cons_zero, List.getElem?_cons_succ, List.getD_cons_zero, List.getD_cons_succ, List.take_succ_cons, List.take_zero, List.drop_succ_cons, List.drop_zero, List.take_nil, List.drop_nil, List.contains_cons, List.contains_nil, Option.getD_some, Option.getD_none, Option.map_some, Option.map_none, if_true, if_false, true_and, and_true, and_self, or_self, or_false, false_or, false_and, and_false, reduceCtorEq, sel_and, sel_or, decide_eq_true_eq, Bool.and_eq_true, Bool.or_eq_true, Bool.and_true, Bool.true_and, Bool.or_false, Bool.false_or, Bool.true_or, Bool.or_true, Bool.not_true, Bool.not_false, Bool.false_eq_true, implies_true, not_false_eq_true, Nat.reduceLT, Nat.reduceEqDiff, Nat.reduceAdd, Nat.reduceMul, Nat.reduceMod, Nat.reduceLeDiff, Nat.reduceBEq, Nat.zero_add, Nat.add_zero, reduceIte, ↓reduceIte, List.not_mem_nil]
  by_cases c : atR l i < 0
  · rw [if_pos c]
    refine Sub.eq ?_
    rw [decide_eq_false (fun h : begP l i => hn.mp c h.1)]
  rw [if_neg c]
  have hin : 0 ≤ i ∧ i < l.length := Decidable.byContradiction fun h => c (hn.mpr h)
  have w1 : IntKind.i64.wrap (i + 1) = i + 1 := w64 (by omega) (by omega)
  rw [w1]
  have hs : startP (atR l (i + 1)) → atR l (i + 1) ≥ 0 := fun h => by unfold startP at h; omega
  by_cases c1 : atR l i = 45
  · rw [if_pos (by simp [c1])]
    refine ⟨fun _ => hl, Sub.eq ?_⟩
    congr 3
    rw [Bool.eq_iff_iff, decide_eq_true_eq]
    unfold begP
    rw [if_pos c1]
    by_cases c2 : startP (atR l (i + 1))
    · simp [hin, c2, hs c2]
    · by_cases c3 : atR l (i + 1) = 45
      · simp [hin, c2, c3]
      · simp [hin, c2, c3]
  · rw [if_neg (by simp [c1])]
    refine ⟨fun _ => hl, Sub.eq ?_⟩
    congr 3
    rw [Bool.eq_iff_iff, decide_eq_true_eq]
    unfold begP
    rw [if_neg c1]
    by_cases c2 : startP (atR l i)
    · simp [hin, c2]
    · simp [hin, c2]
theorem begI_calm : ∀ args sc res, F_beg args = some (sc, res) → sc → Calm Tryd.prog 16 args res := by
  intro args sc res h hs
  unfold F_beg at h
  split at h <;> cases h
  rename_i xs i
  obtain ⟨h1, h2, h3⟩ := hs
  have hb := begI_body (xs.map runeOf) i (by simpa using h2) h3
  rw [runesD, ← h1] at hb
  exact known_Gc_beg.calm mixed rfl rfl hb
noncomputable def Gr_beg : Gam := ((Gam.none.add 37 fun a => F_at (NT.nz.nzL [.s 2] a)).add 13 fun a => F_start (NT.nz.nzL [] a)).add 32 fun a => F_esc (NT.nz.nzL [.s 2] a)
theorem known_Gr_beg : Known Tryd.prog Gr_beg := (((Known.none _).addC _ atRf_calm).addC _ startR_calm).addC _ escR_calm
theorem Gr_beg_at : (∀ h d a, Gr_beg 37 h d a = calmE (fun a => F_at (NT.nz.nzL [.s 2] a)) h a) ∧ (∀ h d a, Gr_beg 13 h d a = calmE (fun a => F_start (NT.nz.nzL [] a)) h a) ∧ (∀ h d a, Gr_beg 32 h d a = calmE (fun a => F_esc (NT.nz.nzL [.s 2] a)) h a) := ⟨fun _ _ _ => rfl, fun _ _ _ => rfl, fun _ _ _ => rfl⟩
theorem begR_body (l : List (Int × Int)) (i : Int) (hl : l.length ≤ 1000000) (hr : okR l) : Body Tryd.prog Gr_beg (DRun Tryd.prog Gr_beg) 17 [.d (runesD l), vInt .i64 i] (vBool (decide (begP l i))) := by
  refine Body.of Tryd.func17 Tryd.ntmps17 (by kernel_rfl) rfl rfl rfl ?_
  have nz2 : ∀ xs, (NT.s 2).nz (.d (.sl 2 xs)) = .d (.sl 2 xs) := fun xs => rfl
  by_cases c : i < 0 ∨ i ≥ l.length
  · simp only [c, runesD, rD_runeOf, nz2, Gr_beg_at, calmE, F_at, F_start, F_esc, AV.flat, AV.flat.flatL, List.length_map, Int.reduceLE, Int.reduceLT, Int.reduceGT, Int.reduceGE, Int.reduceBEq, Int.reduceBNe, Int.reduceEq, Int.reduceToNat, Int.reduceSub, Int.reduceAdd, Int.reduceMul, Int.reducePow, Int.reduceNeg, goTG_val, goTG_new, goTG_up, goTG_none, goG_none, goG_new, goG_up, ne_eq, evK, evH, retHF, DRun_mk, runT_nil, runT_none, runT_guard, goT_val, goT_new, goT_store, goTH_true, goTH_false, evO, keys, Option.toList_some, Option.toList_none, nzL_nil, nzL_cons, nz_k, nz_sl, nz_nil, nz_agg, startL, evC, evV, goE_val, goE_new, goE_store, goH_true, goH_false, goG_val, lk_cons, lk_nil, lk_func, lk_int, lk_bool, lk_string, lk_slice, lk_agg, look_mk, St.effOf, eff, effCall, effBinC, isConst, effBin, effUn, effConv, effPick, effNil, effFold, fold1, effLoad, effStore, effFieldAddr, effField, fieldOf, sliceOf, effIndexAddr, effIndex, effLen, effExtract, effSlice, dats, bnd, effBuild, placesOf, effBuildSlice, effMakeSlice, effAppend, srcOf, fillA, chunk, seg, toD, toDs, put, eqAV, fieldsEq, leafEq, strip, unw, allB, selP_or, selP_and, tis, TyD.agg, AV.cells, AV.cell, allCell, vInt, vBool, vStr, subL_nil, subL_cons, upIds, AV.ids, AV.ids.idsL, AObj.ids, drops, Hp.get_cons, get_nil, retF, resL, one, fz, fz.fzL, List.map_cons, List.map_nil, List.nil_append, List.append_nil, List.cons_append, List.all_cons, List.all_nil, List.length_cons, List.length_nil, List.getElem?_cons_zero, List.getElem?_cons_succ, List.getD_cons_zero, List.getD_cons_succ, List.take_succ_cons, List.take_zero, List.drop_succ_cons, List.drop_zero, List.take_nil, List.drop_nil, List.contains_cons, List.contains_nil, Option.getD_some, Option.getD_none, Option.map_some, Option.map_none, if_true, if_false, true_and, and_true, and_self, or_self, or_false, false_or, false_and, and_false, reduceCtorEq, sel_and, sel_or, decide_eq_true_eq, Bool.and_eq_true, Bool.or_eq_true, Bool.and_true, Bool.true_and, Bool.or_false, Bool.false_or, Bool.true_or, Bool.or_true, Bool.not_true, Bool.not_false, Bool.false_eq_true, implies_true, not_false_eq_true, Nat.reduceLT, Nat.reduceEqDiff, Nat.reduceAdd, Nat.reduceMul, Nat.reduceMod, Nat.reduceLeDiff, Nat.reduceBEq, Nat.zero_add, Nat.add_zero, reduceIte, ↓reduceIte, List.not_mem_nil]
    refine Sub.eq ?_
    rw [decide_eq_false (fun h : begP l i => by have := h.1; omega)]
  · obtain ⟨k, rfl⟩ := Int.eq_ofNat_of_zero_le (show 0 ≤ i by omega)
    obtain ⟨x, hx⟩ : ∃ x, l[k]? = some x := ⟨_, List.getElem?_eq_getElem (by omega)⟩
    have hg : ∀ z, (l.map rD).getD (k : Int).toNat z = rD x := getD_map hx
    have hat : atR l (k : Int) = x.1 := by
      unfold atR
      rw [if_neg (by omega), Int.toNat_natCast, List.getD_eq_getElem?_getD, hx]; rfl
    have w1 : IntKind.i64.wrap ((k : Int) + 1) = (k : Int) + 1 := w64 (by omega) (by omega)
    simp only [c, hg, rD, w1, runesD, rD_runeOf, nz2, Gr_beg_at, calmE, F_at, F_start, F_esc, AV.flat, AV.flat.flatL, List.length_map, Int.reduceLE, Int.reduceLT, Int.reduceGT, Int.reduceGE, Int.reduceBEq, Int.reduceBNe, Int.reduceEq, Int.reduceToNat, Int.reduceSub, Int.reduceAdd, Int.reduceMul, Int.reducePow, Int.reduceNeg, goTG_val, goTG_new, goTG_up, goTG_none, goG_none, goG_new, goG_up, ne_eq, evK, evH, retHF, DRun_mk, runT_nil, runT_none, runT_guard, goT_val, goT_new, goT_store, goTH_true, goTH_false, evO, keys, Option.toList_some, Option.toList_none, nzL_nil, nzL_cons, nz_k, nz_sl, nz_nil, nz_agg, startL, evC, evV, goE_val, goE_new, goE_store, goH_true, goH_false, goG_val, lk_cons, lk_nil, lk_func, lk_int, lk_bool, lk_string, lk_slice, lk_agg, look_mk, St.effOf, eff, effCall, effBinC, isConst, effBin, effUn, effConv, effPick, effNil, effFold, fold1, effLoad, effStore, effFieldAddr, effField, fieldOf, sliceOf, effIndexAddr, effIndex, effLen, effExtract, effSlice, dats, bnd, effBuild, placesOf, effBuildSlice, effMakeSlice, effAppend, srcOf, fillA, chunk, seg, toD, toDs, put, eqAV, fieldsEq, leafEq, strip, unw, allB, selP_or, selP_and, tis, TyD.agg, AV.cells, AV.cell, allCell, vInt, vBool, vStr, subL_nil, subL_cons, upIds, AV.ids, AV.ids.idsL, AObj.ids, drops, Hp.get_cons, get_nil, retF, resL, one, fz, fz.fzL, List.map_cons, List.map_nil, List.nil_append, List.append_nil, List.cons_append, List.all_cons, List.all_nil, List.length_cons, List.length_nil, List.getElem?_cons_zero, List.getElem?_cons_succ, List.getD_cons_zero, List.getD_cons_succ, List.take_succ_cons, List.take_zero, List.drop_succ_cons, List.drop_zero, List.take_nil, List.drop_nil, List.contains_cons, List.contains_nil, Option.getD_some, Option.getD_none, Option.map_some, Option.map_none, if_true, if_false, true_and, and_true, and_self, or_self, or_false, false_or, false_and, and_false, reduceCtorEq, sel_and, sel_or, decide_eq_true_eq, Bool.and_eq_true, Bool.or_eq_true, Bool.and_true, Bool.true_and, Bool.or_false, Bool.false_or, Bool.true_or, Bool.or_true, Bool.not_true, Bool.not_false, Bool.false_eq_true, implies_true, not_false_eq_true, Nat.reduceLT, Nat.reduceEqDiff, Nat.reduceAdd, Nat.reduceMul, Nat.reduceMod, Nat.reduceLeDiff, Nat.reduceBEq, Nat.zero_add, Nat.add_zero, reduceIte, ↓reduceIte, List.not_mem_nil]
    have hin : 0 ≤ (k : Int) ∧ (k : Int) < l.length := by omega
    refine ⟨hin, ?_⟩
    rw [← hat]
    by_cases c1 : atR l (k : Int) = 45
    · rw [if_pos (by simp [c1])]
      refine ⟨fun _ => hl, Sub.eq ?_⟩
      congr 3
      rw [Bool.eq_iff_iff, decide_eq_true_eq]
      unfold begP
      rw [if_pos c1]
      by_cases c2 : startP (atR l ((k : Int) + 1))
      · simp [hin, c2]
      · by_cases c3 : atR l ((k : Int) + 1) = 45
        · simp [hin, c2, c3]
        · simp [hin, c2, c3]
    · rw [if_neg (by simp [c1])]
      refine ⟨hin, fun _ => hl, Sub.eq ?_⟩
      congr 3
      rw [Bool.eq_iff_iff, decide_eq_true_eq]
      unfold begP
      rw [if_neg c1]
      by_cases c2 : startP (atR l (k : Int))
      · simp [hin, c2]
      · simp [hin, c2]
theorem begR_calm : ∀ args sc res, F_beg args = some (sc, res) → sc → Calm Tryd.prog 17 args res := by
  intro args sc res h hs
  unfold F_beg at h
  split at h <;> cases h
  rename_i xs i
  obtain ⟨h1, h2, h3⟩ := hs
  have hb := begR_body (xs.map runeOf) i (by simpa using h2) h3
  rw [runesD, ← h1] at hb
  exact known_Gr_beg.calm mixed rfl rfl hb
end Go.Proofs.YtelgddealjbgiaaDoor.Eng
