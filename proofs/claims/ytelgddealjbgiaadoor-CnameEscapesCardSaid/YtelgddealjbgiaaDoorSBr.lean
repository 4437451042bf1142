/- strings.Builder's WriteRune, for code points below 128, on the small machine. -/
import Derived.Test.YtelgddealjbgiaaDoorSBld
namespace Go.Proofs.YtelgddealjbgiaaDoor.Eng
open Go Go.Proofs.YtelgddealjbgiaaDoor.Base
set_option maxRecDepth 100000
set_option linter.unusedSimpArgs false
set_option linter.unusedVariables false
/-- AppendRune, at a row of one's own. -/
def F_ar (h : Nat → Option AObj) (d : Nat) : List AV → Option Eff
  | [.row o n, .d (.v (.int .i32 r))] => match h o with
    | some (.row e sz xs) => if e = 5 ∧ sz = 1 ∧ n = xs.length then some { sc := (0 ≤ r ∧ r < 128) ∧ xs.length < 140737488355328, val := .row d (xs ++ [iD .u8 r]).length, up := [(d, some (.row 5 1 (xs ++ [iD .u8 r]))), (o, none)], new := true } else none
    | _ => none
  | _ => none
theorem ar_body (xs : List (List Dat)) (hl : xs.length < 140737488355328) (r : Int) (hr : 0 ≤ r ∧ r < 128) :
    HBody Tryd.prog Gam.none (DRun Tryd.prog Gam.none) 68 [.row 10000 xs.length, .d (.v (.int .i32 r))] [(10000, some (.row 5 1 xs))] (.row 9000 (xs ++ [iD .u8 r]).length) [(9000, some (.row 5 1 (xs ++ [iD .u8 r])))] := by
  refine HBody.of Tryd.func68 Tryd.ntmps68 (by kernel_rfl) rfl rfl rfl rfl ?_
  have e1 : IntKind.u32.wrap r = r := by rw [IntKind.wrap_u32]; omega
  have e2 : IntKind.u8.wrap r = r := by rw [IntKind.wrap_u8]; omega
  have c1 : (r ≤ 127) = True := eq_true (by omega)
  simp only [iD, e1, e2, c1, List.length_map, goTG_val, goTG_new, goTG_up, goTG_none, goG_none, goG_new, goG_up, ne_eq, evK, evH, retHF, DRun_mk, runT_nil, runT_none, runT_guard, goT_val, goT_new, goT_store, goTH_true, goTH_false, evO, keys, Option.toList_some, Option.toList_none, nzL_nil, nzL_cons, nz_k, nz_sl, nz_nil, nz_agg, startL, evC, evV, goE_val, goE_new, goE_store, goH_true, goH_false, goG_val, lk_cons, lk_nil, lk_func, lk_int, lk_bool, lk_string, lk_slice, lk_agg, look_mk, St.effOf, eff, effCall, effBinC, isConst, effBin, effUn, effConv, effPick, effNil, effFold, fold1, effLoad, effStore, effFieldAddr, effField, fieldOf, sliceOf, effIndexAddr, effIndex, effLen, effExtract, effSlice, dats, bnd, effBuild, placesOf, effBuildSlice, effMakeSlice, effAppend, srcOf, fillA, chunk, seg, toD, toDs, put, eqAV, fieldsEq, leafEq, strip, unw, allB, selP_or, selP_and, tis, TyD.agg, AV.cells, AV.cell, allCell, vInt, vBool, vStr, subL_nil, subL_cons, upIds, AV.ids, AV.ids.idsL, AObj.ids, drops, Hp.get_cons, get_nil, retF, resL, one, fz, fz.fzL, List.map_cons, List.map_nil, List.nil_append, List.append_nil, List.cons_append, List.all_cons, List.all_nil, List.length_cons, List.length_nil, List.getElem?_cons_zero, List.getElem?_cons_succ, List.getD_cons_zero, List.getD_cons_succ, List.take_succ_cons, List.take_zero, List.drop_succ_cons, List.drop_zero, List.take_nil, List.drop_nil, List.contains_cons, List.contains_nil, Option.getD_some, Option.getD_none, Option.map_some, Option.map_none, if_true, if_false, true_and, and_true, and_self, or_self, or_false, false_or, false_and, and_false, reduceCtorEq, sel_and, sel_or, decide_eq_true_eq, Bool.and_eq_true, Bool.or_eq_true, Bool.and_true, Bool.true_and, Bool.or_false, Bool.false_or, Bool.true_or, Bool.or_true, Bool.not_true, Bool.not_false, Bool.false_eq_true, implies_true, not_false_eq_true, Nat.reduceLT, Nat.reduceEqDiff, Nat.reduceAdd, Nat.reduceMul, Nat.reduceMod, Nat.reduceLeDiff, Nat.reduceBEq, Nat.zero_add, Nat.add_zero, reduceIte, ↓reduceIte, List.not_mem_nil]
  refine ⟨by omega, fun _ => 12, ?_⟩
  simp only [Mt_tup, Mt_agg, Mt_fn, forall_eq, forall_eq_or_imp, ne_eq, List.all_cons, List.all_nil, pr, Nat.reduceLeDiff, slR_nil, slR_cons, hpR_nil, hpR_cells, hpR_row, idsR_nil, idsR_cons, mtE_v, mtE_sl, mtE_nil, mtE_refl, mtE_row, mtE_born, mtE_ptr, mtE_rp, mtE_agg, mtE_tup, mtE_fn, mtE_ep, MtL_nil, MtL_cons, Mt_v, Mt_sl, Mt_nil, Mt_refl, Mt_row, Mt_born, Mt_ptr, MtO_cells, MtO_row, liveIds, distinct, Dat.v.injEq, Dat.sl.injEq, Value.int.injEq, Value.bool.injEq, Value.string.injEq, lk_cons, lk_nil, subL_nil, subL_cons, upIds, AV.ids, AV.ids.idsL, AObj.ids, Hp.get_cons, get_nil, allCell, AV.cell, vInt, vBool, vStr, id, true_and, and_true, and_self, List.append_nil, List.nil_append, List.not_mem_nil, List.mem_cons, or_false, false_or, or_self, not_true_eq_false, not_false_eq_true, false_imp_iff, false_implies, List.map_nil, not_false_eq_true, List.contains_cons, List.contains_nil, Bool.or_false, Bool.false_or, Bool.true_or, Bool.or_true, Bool.and_true, Bool.true_and, implies_true, if_true, if_false, reduceCtorEq, Nat.reduceEqDiff, Nat.reduceBEq, Nat.reduceAdd, reduceIte, ↓reduceIte]
theorem ar_calm (xs : List (List Dat)) (hl : xs.length < 140737488355328) (r : Int) (hr : 0 ≤ r ∧ r < 128) :
    HCalm Tryd.prog 68 [.row 10000 xs.length, .d (.v (.int .i32 r))] [(10000, some (.row 5 1 xs))] (.row 9000 (xs ++ [iD .u8 r]).length) [(9000, some (.row 5 1 (xs ++ [iD .u8 r])))] :=
  (Known.none _).hcalm mixed rfl (ar_body xs hl r hr)
theorem ar_ok {Γ : Gam} (hG : Gok Tryd.prog Γ) : Gok Tryd.prog (Γ.addH 68 F_ar) := by
  refine hG.addH fun hp d args e he hsc => ?_
  unfold F_ar at he
  split at he
  case h_2 => cases he
  rename_i o n r
  split at he
  case h_2 => cases he
  rename_i e0 sz xs ho
  split at he
  case isFalse => cases he
  rename_i hc
  obtain ⟨rfl, rfl, rfl⟩ := hc
  cases he
  refine ⟨⟨fun _ => o, [], [.row 10000 xs.length, .d (.v (.int .i32 r))], [(10000, some (.row 5 1 xs))], .row 9000 (xs ++ [iD .u8 r]).length, [(9000, .row 5 1 (xs ++ [iD .u8 r]))], true⟩, rfl, ⟨⟨⟨by simp, rfl, rfl⟩, .inl rfl, trivial⟩, ?_, ?_⟩, ar_calm xs hsc.2 r hsc.1, rfl, fun _ => rfl, rfl⟩
  · refine ⟨?_, trivial⟩
    rw [if_neg (by simp)]
    simp only [ho]
    exact ⟨rfl, rfl, rfl⟩
  · exact ⟨(fun _ b' hb' => nomatch (show b' ∈ ([] : List Nat) from hb')), trivial⟩
noncomputable def G_wr : Gam := G_cc.addH 68 F_ar
theorem G_wr_at : (∀ h d a, G_wr 59 h d a = F_cc h d a) ∧ (∀ h d a, G_wr 68 h d a = F_ar h d a) := ⟨fun _ _ _ => rfl, fun _ _ _ => rfl⟩
theorem known_wr : Known Tryd.prog G_wr := ⟨ar_ok known_cc.ok, known_cc.loc.addH _ fun d args h h' ha => by
  unfold F_ar
  split
  · rw [ha _ (by simp [AV.ids.idsL, AV.ids])]
  · rfl⟩
theorem wr_body (a : AV) (ha : a = .d (.v (.pointer none)) ∨ a = .ptr 10000 0) (xs : List (List Dat)) (r : Int) (hr : 0 ≤ r ∧ r < 128) (hl : xs.length + 1 ≤ 140737488355328) :
    HBody Tryd.prog G_wr (DRun Tryd.prog G_wr) 60 [.ptr 10000 0, .d (.v (.int .i32 r))] (bldH a xs) (.tup [vInt .i64 1, .d (.v .nilIface)]) ((bldO (xs ++ [iD .u8 r])).map fun p => (p.1, some p.2)) := by
  rcases ha with rfl | rfl
  all_goals
    refine HBody.of Tryd.func60 Tryd.ntmps60 (by kernel_rfl) rfl rfl rfl rfl ?_
    simp only [bldH, bldO, G_wr_at, F_cc, F_ar, goTG_val, goTG_new, goTG_up, goTG_none, goG_none, goG_new, goG_up, ne_eq, evK, evH, retHF, DRun_mk, runT_nil, runT_none, runT_guard, goT_val, goT_new, goT_store, goTH_true, goTH_false, evO, keys, Option.toList_some, Option.toList_none, nzL_nil, nzL_cons, nz_k, nz_sl, nz_nil, nz_agg, startL, evC, evV, goE_val, goE_new, goE_store, goH_true, goH_false, goG_val, lk_cons, lk_nil, lk_func, lk_int, lk_bool, lk_string, lk_slice, lk_agg, look_mk, St.effOf, eff, effCall, effBinC, isConst, effBin, effUn, effConv, effPick, effNil, effFold, fold1, effLoad, effStore, effFieldAddr, effField, fieldOf, sliceOf, effIndexAddr, effIndex, effLen, effExtract, effSlice, dats, bnd, effBuild, placesOf, effBuildSlice, effMakeSlice, effAppend, srcOf, fillA, chunk, seg, toD, toDs, put, eqAV, fieldsEq, leafEq, strip, unw, allB, selP_or, selP_and, tis, TyD.agg, AV.cells, AV.cell, allCell, vInt, vBool, vStr, subL_nil, subL_cons, upIds, AV.ids, AV.ids.idsL, AObj.ids, drops, Hp.get_cons, get_nil, retF, resL, one, fz, fz.fzL, List.map_cons, List.map_nil, List.nil_append, List.append_nil, List.cons_append, List.all_cons, List.all_nil, List.length_cons, List.length_nil, List.getElem?_cons_zero, List.getElem?_cons_succ, List.getD_cons_zero, List.getD_cons_succ, List.take_succ_cons, List.take_zero, List.drop_succ_cons, List.drop_zero, List.take_nil, List.drop_nil, List.contains_cons, List.contains_nil, Option.getD_some, Option.getD_none, Option.map_some, Option.map_none, if_true, if_false, true_and, and_true, and_self, or_self, or_false, false_or, false_and, and_false, reduceCtorEq, sel_and, sel_or, decide_eq_true_eq, Bool.and_eq_true, Bool.or_eq_true, Bool.and_true, Bool.true_and, Bool.or_false, Bool.false_or, Bool.true_or, Bool.or_true, Bool.not_true, Bool.not_false, Bool.false_eq_true, implies_true, not_false_eq_true, Nat.reduceLT, Nat.reduceEqDiff, Nat.reduceAdd, Nat.reduceMul, Nat.reduceMod, Nat.reduceLeDiff, Nat.reduceBEq, Nat.zero_add, Nat.add_zero, reduceIte, ↓reduceIte, List.not_mem_nil]
    have ew : IntKind.i64.wrap (((xs ++ [iD .u8 r]).length : Int) - (xs.length : Int)) = 1 := by
      rw [List.length_append]; simp only [List.length_cons, List.length_nil]
      rw [w64 (by omega) (by omega)]; omega
    rw [ew]
    refine ⟨⟨hr, by omega⟩, fun o => if o = 9000 then 20 else o, ?_⟩
    simp only [Mt_tup, Mt_agg, Mt_fn, forall_eq, forall_eq_or_imp, ne_eq, List.all_cons, List.all_nil, pr, Nat.reduceLeDiff, slR_nil, slR_cons, hpR_nil, hpR_cells, hpR_row, idsR_nil, idsR_cons, mtE_v, mtE_sl, mtE_nil, mtE_refl, mtE_row, mtE_born, mtE_ptr, mtE_rp, mtE_agg, mtE_tup, mtE_fn, mtE_ep, MtL_nil, MtL_cons, Mt_v, Mt_sl, Mt_nil, Mt_refl, Mt_row, Mt_born, Mt_ptr, MtO_cells, MtO_row, liveIds, distinct, Dat.v.injEq, Dat.sl.injEq, Value.int.injEq, Value.bool.injEq, Value.string.injEq, lk_cons, lk_nil, subL_nil, subL_cons, upIds, AV.ids, AV.ids.idsL, AObj.ids, Hp.get_cons, get_nil, allCell, AV.cell, vInt, vBool, vStr, id, true_and, and_true, and_self, List.append_nil, List.nil_append, List.not_mem_nil, List.mem_cons, or_false, false_or, or_self, not_true_eq_false, not_false_eq_true, false_imp_iff, false_implies, List.map_nil, not_false_eq_true, List.contains_cons, List.contains_nil, Bool.or_false, Bool.false_or, Bool.true_or, Bool.or_true, Bool.and_true, Bool.true_and, implies_true, if_true, if_false, reduceCtorEq, Nat.reduceEqDiff, Nat.reduceBEq, Nat.reduceAdd, reduceIte, ↓reduceIte]
/-- WriteRune, of a code point below 128, at a builder that is used, and at one that is not yet. -/
def F_wr (h : Nat → Option AObj) (d : Nat) : List AV → Option Eff
  | [.ptr o 0, .d (.v (.int .i32 r))] => match h o with
    | some (.cells t [.d (.v (.pointer none)), .d (.v (.slice none 0 0))]) => if t = 53 then some { sc := 0 ≤ r ∧ r < 128, val := .tup [vInt .i64 1, .d (.v .nilIface)], up := [(o, some (.cells t [.ptr o 0, .row d [iD .u8 r].length])), (d, some (.row 5 1 [iD .u8 r]))], new := true } else none
    | some (.cells t [.d (.v (.pointer none)), .row b n]) => match h b with
      | some (.row e sz xs) => if t = 53 ∧ e = 5 ∧ sz = 1 ∧ n = xs.length ∧ b ≠ o then some { sc := (0 ≤ r ∧ r < 128) ∧ xs.length + 1 ≤ 140737488355328, val := .tup [vInt .i64 1, .d (.v .nilIface)], up := [(o, some (.cells t [.ptr o 0, .row d (xs ++ [iD .u8 r]).length])), (d, some (.row 5 1 (xs ++ [iD .u8 r]))), (b, none)], new := true } else none
      | _ => none
    | some (.cells t [.ptr o' 0, .row b n]) => match h b with
      | some (.row e sz xs) => if o' = o ∧ t = 53 ∧ e = 5 ∧ sz = 1 ∧ n = xs.length ∧ b ≠ o then some { sc := (0 ≤ r ∧ r < 128) ∧ xs.length + 1 ≤ 140737488355328, val := .tup [vInt .i64 1, .d (.v .nilIface)], up := [(o, some (.cells t [.ptr o 0, .row d (xs ++ [iD .u8 r]).length])), (d, some (.row 5 1 (xs ++ [iD .u8 r]))), (b, none)], new := true } else none
      | _ => none
    | _ => none
  | _ => none
theorem wr_calm (a : AV) (ha : a = .d (.v (.pointer none)) ∨ a = .ptr 10000 0) (xs : List (List Dat)) (r : Int) (hr : 0 ≤ r ∧ r < 128) (hl : xs.length + 1 ≤ 140737488355328) :
    HCalm Tryd.prog 60 [.ptr 10000 0, .d (.v (.int .i32 r))] (bldH a xs) (.tup [vInt .i64 1, .d (.v .nilIface)]) ((bldO (xs ++ [iD .u8 r])).map fun p => (p.1, some p.2)) := by
  refine known_wr.hcalm mixed ?_ (wr_body a ha xs r hr hl)
  rcases ha with rfl | rfl <;> rfl
theorem wr_ok {Γ : Gam} (hG : Gok Tryd.prog Γ) : Gok Tryd.prog (Γ.addH 60 F_wr) := by
  refine hG.addH fun hp d args e he hsc => ?_
  unfold F_wr at he
  split at he
  case h_2 => cases he
  rename_i o r
  split at he
  · rename_i t ho
    split at he
    case isFalse => cases he
    rename_i ht
    subst ht
    cases he
    refine ⟨⟨fun _ => o, [10001], [.ptr 10000 0, .d (.v (.int .i32 r))], bldH (.d (.v (.pointer none))) [], .tup [vInt .i64 1, .d (.v .nilIface)], bldO [iD .u8 r], true⟩, rfl, ⟨⟨⟨by simp, rfl, rfl⟩, .inl rfl, trivial⟩, ?_, ?_⟩, ?_, rfl, fun _ => rfl, rfl⟩
    · refine ⟨?_, ?_, trivial⟩
      · rw [if_neg (by simp)]
        simp only [ho]
        exact ⟨rfl, ⟨.inl rfl, ⟨rfl, by simp, rfl⟩, trivial⟩, rfl⟩
      · rw [if_pos (by simp)]
    · exact ⟨fun _ b hb hb2 => by
        rcases List.mem_singleton.mp (show b ∈ [10001] from hb) with rfl
        exact absurd (List.mem_singleton.mpr rfl) hb2, fun h => absurd (List.mem_singleton.mpr rfl) h, trivial⟩
    · have := wr_calm (.d (.v (.pointer none))) (.inl rfl) [] r hsc (by simp)
      rw [List.nil_append] at this
      exact this
  · rename_i t b n ho
    split at he
    case h_2 => cases he
    rename_i e0 sz xs hb
    split at he
    case isFalse => cases he
    rename_i hc
    obtain ⟨rfl, rfl, rfl, rfl, hne⟩ := hc
    cases he
    refine ⟨⟨fun i => if i = 10001 then b else o, [], [.ptr 10000 0, .d (.v (.int .i32 r))], bldH (.d (.v (.pointer none))) xs, .tup [vInt .i64 1, .d (.v .nilIface)], bldO (xs ++ [iD .u8 r]), true⟩, rfl, ⟨⟨⟨by simp, rfl, rfl⟩, .inl rfl, trivial⟩, ?_, ?_⟩, wr_calm (.d (.v (.pointer none))) (.inl rfl) xs r hsc.1 hsc.2, rfl, fun _ => rfl, rfl⟩
    · refine ⟨?_, ?_, trivial⟩
      · rw [if_neg (by simp)]
        simp only [show ((10000 : Nat) = 10001) = False by simp, if_false, ho]
        exact ⟨rfl, ⟨.inl rfl, ⟨by simp, rfl, rfl⟩, trivial⟩, rfl⟩
      · rw [if_neg (by simp)]
        simp only [if_true, hb]
        exact ⟨rfl, rfl, rfl⟩
    · exact ⟨fun _ b' hb' _ _ => by
        rcases List.mem_singleton.mp (show b' ∈ [10001] from hb') with rfl
        exact hne, (fun _ b' hb' => nomatch (show b' ∈ ([] : List Nat) from hb')), trivial⟩
  · rename_i t o' b n ho
    split at he
    case h_2 => cases he
    rename_i e0 sz xs hb
    split at he
    case isFalse => cases he
    rename_i hc
    obtain ⟨rfl, rfl, rfl, rfl, rfl, hne⟩ := hc
    cases he
    refine ⟨⟨fun i => if i = 10001 then b else o', [], [.ptr 10000 0, .d (.v (.int .i32 r))], bldH (.ptr 10000 0) xs, .tup [vInt .i64 1, .d (.v .nilIface)], bldO (xs ++ [iD .u8 r]), true⟩, rfl, ⟨⟨⟨by simp, rfl, rfl⟩, .inl rfl, trivial⟩, ?_, ?_⟩, wr_calm (.ptr 10000 0) (.inr rfl) xs r hsc.1 hsc.2, rfl, fun _ => rfl, rfl⟩
    · refine ⟨?_, ?_, trivial⟩
      · rw [if_neg (by simp)]
        simp only [show ((10000 : Nat) = 10001) = False by simp, if_false, ho]
        exact ⟨rfl, ⟨⟨by simp, rfl, rfl⟩, ⟨by simp, rfl, rfl⟩, trivial⟩, rfl⟩
      · rw [if_neg (by simp)]
        simp only [if_true, hb]
        exact ⟨rfl, rfl, rfl⟩
    · exact ⟨fun _ b' hb' _ _ => by
        rcases List.mem_singleton.mp (show b' ∈ [10001] from hb') with rfl
        exact hne, (fun _ b' hb' => nomatch (show b' ∈ ([] : List Nat) from hb')), trivial⟩
  · cases he
end Go.Proofs.YtelgddealjbgiaaDoor.Eng
