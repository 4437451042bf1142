/- Functions handed on: which bytes they take (jlex). -/
import Derived.Test.YtlhhibhcoefolaaSJx1
namespace Go.Proofs.Ytlhhibhcoefolaa.Eng
open Go Go.Proofs.Ytlhhibhcoefolaa.Base
set_option maxRecDepth 100000
set_option linter.unusedSimpArgs false
set_option linter.unusedVariables false
def dotS : ByteArray := ⟨#[46, 43, 45, 95]⟩
def goB (c : Int) : Bool := ltrB c || digB c || inB dotS c
noncomputable def G_en : Gam := ((Gam.none.add 42 fun a => F_pr ltrB (NT.nz.nzL [] a)).add 23 fun a => F_pr digB (NT.nz.nzL [] a)).add 21 fun a => F_ib (NT.nz.nzL [] a)
theorem known_en : Known Try.prog G_en := (((Known.none _).addC _ letterJ_calm).addC _ digitJ_calm).addC _ ib_calm
theorem G_en_at : (∀ h d a, G_en 42 h d a = calmE (fun a => F_pr ltrB (NT.nz.nzL [] a)) h a) ∧ (∀ h d a, G_en 23 h d a = calmE (fun a => F_pr digB (NT.nz.nzL [] a)) h a) ∧ (∀ h d a, G_en 21 h d a = calmE (fun a => F_ib (NT.nz.nzL [] a)) h a) := ⟨fun _ _ _ => rfl, fun _ _ _ => rfl, fun _ _ _ => rfl⟩
theorem en1_body (c : Int) : Body Try.prog G_en (DRun Try.prog G_en) 41 [.d (.v (.int .u8 c))] (vBool (goB c)) := by
  refine Body.of Try.func41 Try.ntmps41 (by kernel_rfl) rfl rfl rfl ?_
  simp only [G_en_at, calmE, F_pr, F_ib, AV.flat, AV.flat.flatL, Int.reduceLE, Int.reduceLT, Int.reduceGT, Int.reduceGE, Int.reduceBEq, Int.reduceBNe, Int.reduceEq, Int.reduceToNat, Int.reduceSub, Int.reduceAdd, Int.reduceMul, Int.reducePow, Int.reduceNeg, goTG_val, goTG_new, goTG_up, goTG_none, goG_none, goG_new, goG_up, ne_eq, evK, evH, retHF, DRun_mk, runT_nil, runT_none, runT_guard, goT_val, goT_new, goT_store, goTH_true, goTH_false, evO, keys, Option.toList_some, Option.toList_none, nzL_nil, nzL_cons, nz_k, nz_sl, nz_nil, nz_agg, startL, evC, evV, goE_val, goE_new, goE_store, goH_true, goH_false, goG_val, lk_cons, lk_nil, lk_func, lk_int, lk_bool, lk_string, lk_slice, lk_agg, look_mk, St.effOf, eff, effCall, effBinC, isConst, effBin, effUn, effConv, effPick, effNil, effFold, fold1, effLoad, effStore, effFieldAddr, effField, fieldOf, sliceOf, effIndexAddr, effIndex, effLen, effExtract, effSlice, dats, bnd, effBuild, placesOf, effBuildSlice, effMakeSlice, effAppend, srcOf, fillA, chunk, seg, toD, toDs, put, eqAV, fieldsEq, leafEq, strip, unw, allB, selP_or, selP_and, tis, TyD.agg, AV.cells, AV.cell, allCell, vInt, vBool, vStr, subL_nil, subL_cons, upIds, AV.ids, AV.ids.idsL, AObj.ids, drops, Hp.get_cons, get_nil, retF, resL, one, fz, fz.fzL, List.map_cons, List.map_nil, List.nil_append, List.append_nil, List.cons_append, List.all_cons, List.all_nil, List.length_cons, List.length_nil, List.getElem?_cons_zero, List.getElem?_cons_succ, List.getD_cons_zero, List.getD_cons_succ, List.take_succ_cons, List.take_zero, List.drop_succ_cons, List.drop_zero, List.take_nil, List.drop_nil, List.contains_cons, List.contains_nil, Option.getD_some, Option.getD_none, Option.map_some, Option.map_none, if_true, if_false, true_and, and_true, and_self, or_self, or_false, false_or, false_and, and_false, reduceCtorEq, sel_and, sel_or, decide_eq_true_eq, Bool.and_eq_true, Bool.or_eq_true, Bool.and_true, Bool.true_and, Bool.or_false, Bool.false_or, Bool.true_or, Bool.or_true, Bool.not_true, Bool.not_false, Bool.false_eq_true, implies_true, not_false_eq_true, Nat.reduceLT, Nat.reduceEqDiff, Nat.reduceAdd, Nat.reduceMul, Nat.reduceMod, Nat.reduceLeDiff, Nat.reduceBEq, Nat.zero_add, Nat.add_zero, reduceIte, ↓reduceIte, List.not_mem_nil]
  refine Sub.eq ?_
  congr 3
  unfold goB inB dotS
  cases ltrB c <;> cases digB c <;> simp
theorem en1_calm : ∀ args sc res, F_pr goB args = some (sc, res) → sc → Calm Try.prog 41 args res := by
  intro args sc res h hs
  unfold F_pr at h
  split at h <;> cases h
  exact known_en.calm mixed rfl rfl (en1_body _)
/-- Which bytes a function takes. -/
def isP (f : Nat) : List AV → Option (Int → Bool)
  | [] => if f = 13 then some blkB else if f = 23 then some digB else if f = 39 then some hexB else if f = 41 then some goB else none
  | [.ep [.v (.string s)] 0] => if f = 40 then some (inB s) else none
  | _ => none
noncomputable def G_is : Gam := ((((Gam.none.add 13 fun a => F_pr blkB (NT.nz.nzL [] a)).add 23 fun a => F_pr digB (NT.nz.nzL [] a)).add 39 fun a => F_pr hexB (NT.nz.nzL [] a)).add 41 fun a => F_pr goB (NT.nz.nzL [] a)).add 40 fun a => F_in1 (NT.nz.nzL [] a)
theorem known_is : Known Try.prog G_is := (((((Known.none _).addC _ blankJ_calm).addC _ digitJ_calm).addC _ hexJ_calm).addC _ en1_calm).addC _ in1_calm
theorem isP_ok {f : Nat} {caps : List AV} {p : Int → Bool} (h : isP f caps = some p) : Mt.MtL (pr id) [] caps caps ∧ AV.ids.idsL caps = [] ∧ ∀ hh d c, G_is f hh d (.d (.v (.int .u8 c)) :: caps) = some { sc := True, val := vBool (p c), up := [] } := by
  unfold isP at h
  split at h
  · split at h
    · rename_i e; cases h; subst e; exact ⟨trivial, rfl, fun _ _ _ => rfl⟩
    · split at h
      · rename_i e; cases h; subst e; exact ⟨trivial, rfl, fun _ _ _ => rfl⟩
      · split at h
        · rename_i e; cases h; subst e; exact ⟨trivial, rfl, fun _ _ _ => rfl⟩
        · split at h
          · rename_i e; cases h; subst e; exact ⟨trivial, rfl, fun _ _ _ => rfl⟩
          · cases h
  · split at h
    · rename_i e; cases h; subst e; exact ⟨⟨⟨rfl, rfl⟩, trivial⟩, rfl, fun _ _ _ => rfl⟩
    · cases h
  · cases h
end Go.Proofs.Ytlhhibhcoefolaa.Eng
