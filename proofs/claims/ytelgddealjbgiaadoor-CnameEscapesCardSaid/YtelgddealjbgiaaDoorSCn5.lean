/- Names of CSS: how a name is written whole, on the small machine. -/
import Derived.Test.YtelgddealjbgiaaDoorSCn4
namespace Go.Proofs.YtelgddealjbgiaaDoor.Eng
open Go Go.Proofs.YtelgddealjbgiaaDoor.Base
set_option maxRecDepth 100000
set_option linter.unusedSimpArgs false
set_option linter.unusedVariables false
/- Texts as lists. -/
theorem str_sB (s : ByteArray) : strOfNums (sB s) = s := by
  apply ByteArray.ext
  apply Array.ext'
  simp [strOfNums, sB, Function.comp_def]
theorem sB_ext (s : ByteArray) (a b : Nat) : s.extract a b = strOfNums (((sB s).drop a).take (b - a)) := by
  apply ByteArray.ext
  apply Array.ext'
  simp [strOfNums, sB, Function.comp_def, List.map_take, List.map_drop, List.take_drop]
theorem sB_app (a b : ByteArray) : sB (a ++ b) = sB a ++ sB b := by simp [sB]
theorem bt_sB (s : ByteArray) (i : Int) : bt s i = (sB s).getD i.toNat 0 := by
  unfold bt sB
  simp only [List.getD_eq_getElem?_getD, List.getElem?_map]
  cases s.data.toList[i.toNat]? <;> rfl
theorem eq_sB (s t : ByteArray) : (s.toList == t.toList) = decide (sB s = sB t) := by
  rw [ByteArray.toList_eq, ByteArray.toList_eq, Bool.eq_iff_iff, beq_iff_eq, decide_eq_true_eq]
  constructor
  · intro h; rw [sB, h]; rfl
  · intro h
    have := congrArg strOfNums h
    rw [str_sB, str_sB] at this
    rw [this]
/-- Is it the begin. -/
def hasPre (s p : ByteArray) : Bool := decide ((sB s).take p.size = sB p)
def F_hp : List AV → Option (Prop × AV)
  | [.d (.v (.string s)), .d (.v (.string p))] => some (True, vBool (hasPre s p))
  | _ => none
theorem hpl_body (s p : ByteArray) : Body Tryd.prog Gam.none (DRun Tryd.prog Gam.none) 55 [vStr s, vStr p] (vBool (hasPre s p)) := by
  refine Body.of Tryd.func55 Tryd.ntmps55 (by kernel_rfl) rfl rfl rfl ?_
  simp only [eq_sB, goTG_val, goTG_new, goTG_up, goTG_none, goG_none, goG_new, goG_up, ne_eq, evK, evH, retHF, DRun_mk, runT_nil, runT_none, runT_guard, goT_val, goT_new, goT_store, goTH_true, goTH_false, evO, keys, Option.toList_some, Option.toList_none, nzL_nil, nzL_cons, nz_k, nz_sl, nz_nil, nz_agg, startL, evC, evV, goE_val, goE_new, goE_store, goH_true, goH_false, goG_val, lk_cons, lk_nil, lk_func, lk_int, lk_bool, lk_string, lk_slice, lk_agg, look_mk, St.effOf, eff, effCall, effBinC, isConst, effBin, effUn, effConv, effPick, effNil, effFold, fold1, effLoad, effStore, effFieldAddr, effField, fieldOf, sliceOf, effIndexAddr, effIndex, effLen, effExtract, effSlice, dats, bnd, effBuild, placesOf, effBuildSlice, effMakeSlice, effAppend, srcOf, fillA, chunk, seg, toD, toDs, put, eqAV, fieldsEq, leafEq, strip, unw, allB, selP_or, selP_and, tis, TyD.agg, AV.cells, AV.cell, allCell, vInt, vBool, vStr, subL_nil, subL_cons, upIds, AV.ids, AV.ids.idsL, AObj.ids, drops, Hp.get_cons, get_nil, retF, resL, one, fz, fz.fzL, List.map_cons, List.map_nil, List.nil_append, List.append_nil, List.cons_append, List.all_cons, List.all_nil, List.length_cons, List.length_nil, List.getElem?_cons_zero, List.getElem?_cons_succ, List.getD_cons_zero, List.getD_cons_succ, List.take_succ_cons, List.take_zero, List.drop_succ_cons, List.drop_zero, List.take_nil, List.drop_nil, List.contains_cons, List.contains_nil, Option.getD_some, Option.getD_none, Option.map_some, Option.map_none, if_true, if_false, true_and, and_true, and_self, or_self, or_false, false_or, false_and, and_false, reduceCtorEq, sel_and, sel_or, decide_eq_true_eq, Bool.and_eq_true, Bool.or_eq_true, Bool.and_true, Bool.true_and, Bool.or_false, Bool.false_or, Bool.true_or, Bool.or_true, Bool.not_true, Bool.not_false, Bool.false_eq_true, implies_true, not_false_eq_true, Nat.reduceLT, Nat.reduceEqDiff, Nat.reduceAdd, Nat.reduceMul, Nat.reduceMod, Nat.reduceLeDiff, Nat.reduceBEq, Nat.zero_add, Nat.add_zero, reduceIte, ↓reduceIte, List.not_mem_nil]
  refine ⟨fun h => ⟨by omega, by omega, by omega⟩, Sub.eq ?_⟩
  congr 3
  have hs := sB_len s
  have hp := sB_len p
  unfold hasPre
  have e : sB (s.extract (Int.toNat 0) ((p.size : Nat) : Int).toNat) = (sB s).take p.size := by
    rw [sB_ext, sB_str (fun x hx => sB_bytes s x (List.mem_of_mem_drop (List.mem_of_mem_take hx)))]
    simp
  rw [e]
  split
  · rfl
  · rw [eq_comm, decide_eq_false_iff_not]
    intro h
    have := congrArg List.length h
    rw [List.length_take] at this
    omega
theorem hpl_calm : ∀ args sc res, F_hp args = some (sc, res) → sc → Calm Tryd.prog 55 args res := by
  intro args sc res h hs
  unfold F_hp at h
  split at h <;> cases h
  exact (Known.none _).calm mixed rfl rfl (hpl_body _ _)
noncomputable def G_hp : Gam := Gam.none.add 55 fun a => F_hp (NT.nz.nzL [] a)
theorem known_hp : Known Tryd.prog G_hp := (Known.none _).addC _ hpl_calm
theorem G_hp_at (h : Nat → Option AObj) (d : Nat) (a : List AV) : G_hp 55 h d a = calmE (fun a => F_hp (NT.nz.nzL [] a)) h a := rfl
theorem hp_body (s p : ByteArray) : Body Tryd.prog G_hp (DRun Tryd.prog G_hp) 38 [vStr s, vStr p] (vBool (hasPre s p)) := by
  refine Body.of Tryd.func38 Tryd.ntmps38 (by kernel_rfl) rfl rfl rfl ?_
  simp only [G_hp_at, calmE, F_hp, AV.flat, AV.flat.flatL, goTG_val, goTG_new, goTG_up, goTG_none, goG_none, goG_new, goG_up, ne_eq, evK, evH, retHF, DRun_mk, runT_nil, runT_none, runT_guard, goT_val, goT_new, goT_store, goTH_true, goTH_false, evO, keys, Option.toList_some, Option.toList_none, nzL_nil, nzL_cons, nz_k, nz_sl, nz_nil, nz_agg, startL, evC, evV, goE_val, goE_new, goE_store, goH_true, goH_false, goG_val, lk_cons, lk_nil, lk_func, lk_int, lk_bool, lk_string, lk_slice, lk_agg, look_mk, St.effOf, eff, effCall, effBinC, isConst, effBin, effUn, effConv, effPick, effNil, effFold, fold1, effLoad, effStore, effFieldAddr, effField, fieldOf, sliceOf, effIndexAddr, effIndex, effLen, effExtract, effSlice, dats, bnd, effBuild, placesOf, effBuildSlice, effMakeSlice, effAppend, srcOf, fillA, chunk, seg, toD, toDs, put, eqAV, fieldsEq, leafEq, strip, unw, allB, selP_or, selP_and, tis, TyD.agg, AV.cells, AV.cell, allCell, vInt, vBool, vStr, subL_nil, subL_cons, upIds, AV.ids, AV.ids.idsL, AObj.ids, drops, Hp.get_cons, get_nil, retF, resL, one, fz, fz.fzL, List.map_cons, List.map_nil, List.nil_append, List.append_nil, List.cons_append, List.all_cons, List.all_nil, List.length_cons, List.length_nil, List.getElem?_cons_zero, List.getElem?_cons_succ, List.getD_cons_zero, List.getD_cons_succ, List.take_succ_cons, List.take_zero, List.drop_succ_cons, List.drop_zero, List.take_nil, List.drop_nil, List.contains_cons, List.contains_nil, Option.getD_some, Option.getD_none, Option.map_some, Option.map_none, if_true, if_false, true_and, and_true, and_self, or_self, or_false, false_or, false_and, and_false, reduceCtorEq, sel_and, sel_or, decide_eq_true_eq, Bool.and_eq_true, Bool.or_eq_true, Bool.and_true, Bool.true_and, Bool.or_false, Bool.false_or, Bool.true_or, Bool.or_true, Bool.not_true, Bool.not_false, Bool.false_eq_true, implies_true, not_false_eq_true, Nat.reduceLT, Nat.reduceEqDiff, Nat.reduceAdd, Nat.reduceMul, Nat.reduceMod, Nat.reduceLeDiff, Nat.reduceBEq, Nat.zero_add, Nat.add_zero, reduceIte, ↓reduceIte, List.not_mem_nil]
  exact Sub.refl _
theorem hp_calm : ∀ args sc res, F_hp args = some (sc, res) → sc → Calm Tryd.prog 38 args res := by
  intro args sc res h hs
  unfold F_hp at h
  split at h <;> cases h
  exact known_hp.calm mixed rfl rfl (hp_body _ _)
theorem bytes_getD {l : List Int} (h : Bytes l) (n : Nat) : 0 ≤ l.getD n 0 ∧ l.getD n 0 < 256 := by
  rw [List.getD_eq_getElem?_getD]
  cases hl : l[n]? with
  | none => exact ⟨by decide, by decide⟩
  | some x => exact h x (List.mem_of_getElem? hl)
theorem restL_le (l : List Int) : (restL l).length ≤ 6 * l.length := by
  have := ones_le (alls l.length l)
  have := alls_len l.length l
  unfold restL
  omega
/-- A name: where a digit may not stand as it is. -/
def nameL (l : List Int) : List Int :=
  if l = [45] then [92, 45] else
  let n := if l.take 1 = [45] then 1 else 0
  if n < l.length ∧ digP (l.getD n 0) then l.take n ++ numL (l.getD n 0) ++ [32] ++ restL (l.drop (n + 1)) else restL l
def F_name : List AV → Option (Prop × AV)
  | [.d (.v (.string s))] => some (s.size ≤ 1000000000, vStr (strOfNums (nameL (sB s))))
  | _ => none
noncomputable def G_name : Gam := (((Gam.none.add 38 fun a => F_hp (NT.nz.nzL [] a)).add 34 fun a => F_dig (NT.nz.nzL [] a)).add 39 fun a => F_num (NT.nz.nzL [] a)).add 20 fun a => F_rest (NT.nz.nzL [] a)
theorem known_name : Known Tryd.prog G_name := ((((Known.none _).addC _ hp_calm).addC _ digI_calm).addC _ num_calm).addC _ rest_calm
theorem G_name_at : (∀ h d a, G_name 38 h d a = calmE (fun a => F_hp (NT.nz.nzL [] a)) h a) ∧ (∀ h d a, G_name 34 h d a = calmE (fun a => F_dig (NT.nz.nzL [] a)) h a) ∧ (∀ h d a, G_name 39 h d a = calmE (fun a => F_num (NT.nz.nzL [] a)) h a) ∧ (∀ h d a, G_name 20 h d a = calmE (fun a => F_rest (NT.nz.nzL [] a)) h a) := ⟨fun _ _ _ => rfl, fun _ _ _ => rfl, fun _ _ _ => rfl, fun _ _ _ => rfl⟩
theorem name_body (s : ByteArray) (hl : s.size ≤ 1000000000) : Body Tryd.prog G_name (DRun Tryd.prog G_name) 18 [vStr s] (vStr (strOfNums (nameL (sB s)))) := by
  refine Body.of Tryd.func18 Tryd.ntmps18 (by kernel_rfl) rfl rfl rfl ?_
  have h45 : sB ⟨#[45]⟩ = [45] := rfl
  have hpre : hasPre s ⟨#[45]⟩ = decide ((sB s).take 1 = [45]) := rfl
  simp only [eq_sB, bt_sB, h45, hpre, G_name_at, calmE, F_hp, F_dig, F_num, F_rest, AV.flat, AV.flat.flatL, Int.reduceLE, Int.reduceLT, Int.reduceGT, Int.reduceGE, Int.reduceBEq, Int.reduceBNe, Int.reduceEq, Int.reduceToNat, Int.reduceSub, Int.reduceAdd, Int.reduceMul, Int.reducePow, goTG_val, goTG_new, goTG_up, goTG_none, goG_none, goG_new, goG_up, ne_eq, evK, evH, retHF, DRun_mk, runT_nil, runT_none, runT_guard, goT_val, goT_new, goT_store, goTH_true, goTH_false, evO, keys, Option.toList_some, Option.toList_none, nzL_nil, nzL_cons, nz_k, nz_sl, nz_nil, nz_agg, startL, evC, evV, goE_val, goE_new, goE_store, goH_true, goH_false, goG_val, lk_cons, lk_nil, lk_func, lk_int, lk_bool, lk_string, lk_slice, lk_agg, look_mk, St.effOf, eff, effCall, effBinC, isConst, effBin, effUn, effConv, effPick, effNil, effFold, fold1, effLoad, effStore, effFieldAddr, effField, fieldOf, sliceOf, effIndexAddr, effIndex, effLen, effExtract, effSlice, dats, bnd, effBuild, placesOf, effBuildSlice, effMakeSlice, effAppend, srcOf, fillA, chunk, seg, toD, toDs, put, eqAV, fieldsEq, leafEq, strip, unw, allB, selP_or, selP_and, tis, TyD.agg, AV.cells, AV.cell, allCell, vInt, vBool, vStr, subL_nil, subL_cons, upIds, AV.ids, AV.ids.idsL, AObj.ids, drops, Hp.get_cons, get_nil, retF, resL, one, fz, fz.fzL, List.map_cons, List.map_nil, List.nil_append, List.append_nil, List.cons_append, List.all_cons, List.all_nil, List.length_cons, List.length_nil, List.getElem?_cons_zero, List.getElem?_cons_succ, List.getD_cons_zero, List.getD_cons_succ, List.take_succ_cons, List.take_zero, List.drop_succ_cons, List.drop_zero, List.take_nil, List.drop_nil, List.contains_cons, List.contains_nil, Option.getD_some, Option.getD_none, Option.map_some, Option.map_none, if_true, if_false, true_and, and_true, and_self, or_self, or_false, false_or, false_and, and_false, reduceCtorEq, sel_and, sel_or, decide_eq_true_eq, Bool.and_eq_true, Bool.or_eq_true, Bool.and_true, Bool.true_and, Bool.or_false, Bool.false_or, Bool.true_or, Bool.or_true, Bool.not_true, Bool.not_false, Bool.false_eq_true, implies_true, not_false_eq_true, Nat.reduceLT, Nat.reduceEqDiff, Nat.reduceAdd, Nat.reduceMul, Nat.reduceMod, Nat.reduceLeDiff, Nat.reduceBEq, Nat.zero_add, Nat.add_zero, reduceIte, ↓reduceIte, List.not_mem_nil]
  have hn := sB_len s
  have hw : ∀ n, IntKind.i64.wrap ((sB s).getD n 0) = (sB s).getD n 0 := fun n => by
    have := bytes_getD (sB_bytes s) n
    exact w64 (by omega) (by omega)
  have w2 : IntKind.i64.wrap 2 = 2 := by decide
  have w1 : IntKind.i64.wrap 1 = 1 := by decide
  have e92 : (⟨#[92]⟩ : ByteArray) = strOfNums [92] := rfl
  have e32 : (⟨#[32]⟩ : ByteArray) = strOfNums [32] := rfl
  simp only [hw, w1, w2]
  have hnl : ∀ r, (numL r).length ≤ 3 := numL_le
  have hrl : ∀ l, (restL l).length ≤ 6 * l.length := restL_le
  have hz : ∀ a b, (s.extract a b).size ≤ s.size := fun a b => by rw [sB_ext, str_size, List.length_take, List.length_drop]; omega
  have hr : ∀ t : ByteArray, (restL (sB t)).length ≤ 6 * t.size := fun t => by have := restL_le (sB t); rw [sB_len] at this; exact this
  have hbs : ∀ n, sB (s.extract n s.size) = (sB s).drop n := fun n => by
    rw [sB_ext, sB_str (fun x hx => sB_bytes s x (List.mem_of_mem_drop (List.mem_of_mem_take hx))), List.take_of_length_le (by rw [List.length_drop]; omega)]
  unfold nameL
  by_cases c1 : sB s = [45]
  · rw [if_pos c1, if_pos c1]
    have hs : s = strOfNums [45] := by rw [← c1, str_sB]
    refine ⟨by show ((1 + s.size : Nat) : Int) ≤ _; omega, Sub.eq ?_⟩
    rw [hs]; rfl
  rw [if_neg c1, if_neg c1]
  have fin : ∀ n : Nat, n < (sB s).length → digP ((sB s).getD n 0) → strOfNums ((sB s).take n ++ numL ((sB s).getD n 0) ++ [32] ++ restL ((sB s).drop (n + 1))) = s.extract 0 n ++ strOfNums (numL ((sB s).getD n 0)) ++ ⟨#[32]⟩ ++ strOfNums (restL (sB (s.extract (n + 1) s.size))) := fun n h1 h2 => by
    rw [hbs, str_append, str_append, str_append, sB_ext]; simp; rfl
  by_cases c2 : List.take 1 (sB s) = [45]
  · rw [if_pos c2, if_pos c2]
    refine ⟨fun h => h, ?_⟩
    by_cases c3 : (s.size : Int) > 1 ∧ digP ((sB s).getD 1 0)
    · rw [if_pos c3, if_pos ⟨by omega, c3.2⟩, fin 1 (by omega) c3.2]
      have h3 := c3.2
      unfold digP at h3
      have q1 := hnl ((sB s).getD 1 0)
      have q2 := hz 0 1
      have q3 := hz 2 s.size
      have q4 := hr (s.extract 2 s.size)
      refine ⟨by omega, by omega, ⟨by omega, by omega⟩, ?_, ?_, ⟨by omega, by omega, by omega⟩, ?_, ?_, by kernel_rfl, Sub.refl _⟩
      · rw [str_size]; omega
      · rw [ByteArray.size_append, str_size]; show ((_ + 1 : Nat) : Int) ≤ _; omega
      · exact Nat.le_trans q3 hl
      · rw [ByteArray.size_append, ByteArray.size_append, str_size, str_size]; show ((_ + _ + 1 + (restL (sB (s.extract 2 s.size))).length : Nat) : Int) ≤ _; omega
    · rw [if_neg c3, if_neg (fun h => c3 ⟨by omega, h.2⟩)]
      exact ⟨hl, Sub.refl _⟩
  · rw [if_neg c2, if_neg c2]
    refine ⟨fun h => h, ?_⟩
    by_cases c3 : (s.size : Int) > 0 ∧ digP ((sB s).getD 0 0)
    · rw [if_pos c3, if_pos ⟨by omega, c3.2⟩, fin 0 (by omega) c3.2]
      have h3 := c3.2
      unfold digP at h3
      have q1 := hnl ((sB s).getD 0 0)
      have q2 := hz 0 0
      have q3 := hz 1 s.size
      have q4 := hr (s.extract 1 s.size)
      refine ⟨by omega, by omega, ⟨by omega, by omega⟩, ?_, ?_, ⟨by omega, by omega, by omega⟩, ?_, ?_, by kernel_rfl, Sub.refl _⟩
      · rw [str_size]; omega
      · rw [ByteArray.size_append, str_size]; show ((_ + 1 : Nat) : Int) ≤ _; omega
      · exact Nat.le_trans q3 hl
      · rw [ByteArray.size_append, ByteArray.size_append, str_size, str_size]; show ((_ + _ + 1 + (restL (sB (s.extract 1 s.size))).length : Nat) : Int) ≤ _; omega
    · rw [if_neg c3, if_neg (fun h => c3 ⟨by omega, h.2⟩)]
      exact ⟨hl, Sub.refl _⟩
theorem name_calm : ∀ args sc res, F_name args = some (sc, res) → sc → Calm Tryd.prog 18 args res := by
  intro args sc res h hs
  unfold F_name at h
  split at h <;> cases h
  exact known_name.calm mixed rfl rfl (name_body _ hs)
end Go.Proofs.YtelgddealjbgiaaDoor.Eng
