/- Names of CSS: how they are written, on the small machine. -/
import Derived.Test.YtelgddealjbgiaaDoorSCn3
import Derived.Test.YtelgddealjbgiaaDoorSBr
import Derived.Test.YtelgddealjbgiaaDoorSAll
namespace Go.Proofs.YtelgddealjbgiaaDoor.Eng
open Go Go.Proofs.YtelgddealjbgiaaDoor.Base
set_option maxRecDepth 100000
set_option linter.unusedSimpArgs false
set_option linter.unusedVariables false
def F_fb : List AV → Option (Prop × AV)
  | [.d (.v (.slice none 0 0)), .d (.v (.int .u64 n)), .d (.v (.int .i64 b)), .d (.v (.bool g)), .d (.v (.bool a))] => some (0 ≤ n ∧ n < 128 ∧ b = 16 ∧ g = false ∧ a = false, .tup [.d (.v (.slice none 0 0)), vStr (hexS n.toNat)])
  | _ => none
theorem fb_calm : ∀ args sc res, F_fb args = some (sc, res) → sc → Calm Tryd.prog 77 args res := by
  intro args sc res h hs
  unfold F_fb at h
  split at h <;> cases h
  obtain ⟨h0, h1, rfl, rfl, rfl⟩ := hs
  rename_i n
  obtain ⟨k, rfl⟩ := Int.eq_ofNat_of_zero_le h0
  exact known_fb.calm mixed rfl rfl (fb_body k (by omega))
def F_fmt : List AV → Option (Prop × AV)
  | [.d (.v (.int .i64 n)), .d (.v (.int .i64 b))] => some (0 ≤ n ∧ n < 128 ∧ b = 16, vStr (hexS n.toNat))
  | _ => none
noncomputable def G_fi : Gam := Gam.none.add 77 fun a => F_fb (NT.nz.nzL [] a)
theorem known_fi : Known Tryd.prog G_fi := (Known.none _).addC _ fb_calm
theorem G_fi_at (h : Nat → Option AObj) (d : Nat) (a : List AV) : G_fi 77 h d a = calmE (fun a => F_fb (NT.nz.nzL [] a)) h a := rfl
theorem fi_body (n : Int) (h0 : 0 ≤ n) (h1 : n < 128) : Body Tryd.prog G_fi (DRun Tryd.prog G_fi) 65 [vInt .i64 n, vInt .i64 16] (vStr (hexS n.toNat)) := by
  refine Body.of Tryd.func65 Tryd.ntmps65 (by kernel_rfl) rfl rfl rfl ?_
  have ew : IntKind.u64.wrap n = n := by rw [IntKind.wrap_u64]; omega
  have c1 : (n < 0) = False := eq_false (by omega)
  have d0 : decide False = false := rfl
  simp only [ew, c1, d0, G_fi_at, calmE, F_fb, AV.flat, AV.flat.flatL, Int.reduceLE, Int.reduceLT, Int.reduceGT, Int.reduceGE, Int.reduceBEq, Int.reduceBNe, Int.reduceEq, Int.reduceToNat, Int.reduceSub, Int.reduceAdd, Int.reduceMul, Int.reducePow, goTG_val, goTG_new, goTG_up, goTG_none, goG_none, goG_new, goG_up, ne_eq, evK, evH, retHF, DRun_mk, runT_nil, runT_none, runT_guard, goT_val, goT_new, goT_store, goTH_true, goTH_false, evO, keys, Option.toList_some, Option.toList_none, nzL_nil, nzL_cons, nz_k, nz_sl, nz_nil, nz_agg, startL, evC, evV, goE_val, goE_new, goE_store, goH_true, goH_false, goG_val, lk_cons, lk_nil, lk_func, lk_int, lk_bool, lk_string, lk_slice, lk_agg, look_mk, St.effOf, eff, effCall, effBinC, isConst, effBin, effUn, effConv, effPick, effNil, effFold, fold1, effLoad, effStore, effFieldAddr, effField, fieldOf, sliceOf, effIndexAddr, effIndex, effLen, effExtract, effSlice, dats, bnd, effBuild, placesOf, effBuildSlice, effMakeSlice, effAppend, srcOf, fillA, chunk, seg, toD, toDs, put, eqAV, fieldsEq, leafEq, strip, unw, allB, selP_or, selP_and, tis, TyD.agg, AV.cells, AV.cell, allCell, vInt, vBool, vStr, subL_nil, subL_cons, upIds, AV.ids, AV.ids.idsL, AObj.ids, drops, Hp.get_cons, get_nil, retF, resL, one, fz, fz.fzL, List.map_cons, List.map_nil, List.nil_append, List.append_nil, List.cons_append, List.all_cons, List.all_nil, List.length_cons, List.length_nil, List.getElem?_cons_zero, List.getElem?_cons_succ, List.getD_cons_zero, List.getD_cons_succ, List.take_succ_cons, List.take_zero, List.drop_succ_cons, List.drop_zero, List.take_nil, List.drop_nil, List.contains_cons, List.contains_nil, Option.getD_some, Option.getD_none, Option.map_some, Option.map_none, if_true, if_false, true_and, and_true, and_self, or_self, or_false, false_or, false_and, and_false, reduceCtorEq, sel_and, sel_or, decide_eq_true_eq, Bool.and_eq_true, Bool.or_eq_true, Bool.and_true, Bool.true_and, Bool.or_false, Bool.false_or, Bool.true_or, Bool.or_true, Bool.not_true, Bool.not_false, Bool.false_eq_true, implies_true, not_false_eq_true, Nat.reduceLT, Nat.reduceEqDiff, Nat.reduceAdd, Nat.reduceMul, Nat.reduceMod, Nat.reduceLeDiff, Nat.reduceBEq, Nat.zero_add, Nat.add_zero, reduceIte, ↓reduceIte, List.not_mem_nil]
  exact ⟨⟨h0, h1⟩, Sub.refl _⟩
theorem fi_calm : ∀ args sc res, F_fmt args = some (sc, res) → sc → Calm Tryd.prog 65 args res := by
  intro args sc res h hs
  unfold F_fmt at h
  split at h <;> cases h
  obtain ⟨h0, h1, rfl⟩ := hs
  exact known_fi.calm mixed rfl rfl (fi_body _ h0 h1)
noncomputable def G_fs : Gam := Gam.none.add 65 fun a => F_fmt (NT.nz.nzL [] a)
theorem known_fs : Known Tryd.prog G_fs := (Known.none _).addC _ fi_calm
theorem G_fs_at (h : Nat → Option AObj) (d : Nat) (a : List AV) : G_fs 65 h d a = calmE (fun a => F_fmt (NT.nz.nzL [] a)) h a := rfl
theorem fs_body (n : Int) (h0 : 0 ≤ n) (h1 : n < 128) : Body Tryd.prog G_fs (DRun Tryd.prog G_fs) 56 [vInt .i64 n, vInt .i64 16] (vStr (hexS n.toNat)) := by
  refine Body.of Tryd.func56 Tryd.ntmps56 (by kernel_rfl) rfl rfl rfl ?_
  simp only [G_fs_at, calmE, F_fmt, AV.flat, AV.flat.flatL, Int.reduceLE, Int.reduceLT, Int.reduceGT, Int.reduceGE, Int.reduceBEq, Int.reduceBNe, Int.reduceEq, Int.reduceToNat, Int.reduceSub, Int.reduceAdd, Int.reduceMul, Int.reducePow, goTG_val, goTG_new, goTG_up, goTG_none, goG_none, goG_new, goG_up, ne_eq, evK, evH, retHF, DRun_mk, runT_nil, runT_none, runT_guard, goT_val, goT_new, goT_store, goTH_true, goTH_false, evO, keys, Option.toList_some, Option.toList_none, nzL_nil, nzL_cons, nz_k, nz_sl, nz_nil, nz_agg, startL, evC, evV, goE_val, goE_new, goE_store, goH_true, goH_false, goG_val, lk_cons, lk_nil, lk_func, lk_int, lk_bool, lk_string, lk_slice, lk_agg, look_mk, St.effOf, eff, effCall, effBinC, isConst, effBin, effUn, effConv, effPick, effNil, effFold, fold1, effLoad, effStore, effFieldAddr, effField, fieldOf, sliceOf, effIndexAddr, effIndex, effLen, effExtract, effSlice, dats, bnd, effBuild, placesOf, effBuildSlice, effMakeSlice, effAppend, srcOf, fillA, chunk, seg, toD, toDs, put, eqAV, fieldsEq, leafEq, strip, unw, allB, selP_or, selP_and, tis, TyD.agg, AV.cells, AV.cell, allCell, vInt, vBool, vStr, subL_nil, subL_cons, upIds, AV.ids, AV.ids.idsL, AObj.ids, drops, Hp.get_cons, get_nil, retF, resL, one, fz, fz.fzL, List.map_cons, List.map_nil, List.nil_append, List.append_nil, List.cons_append, List.all_cons, List.all_nil, List.length_cons, List.length_nil, List.getElem?_cons_zero, List.getElem?_cons_succ, List.getD_cons_zero, List.getD_cons_succ, List.take_succ_cons, List.take_zero, List.drop_succ_cons, List.drop_zero, List.take_nil, List.drop_nil, List.contains_cons, List.contains_nil, Option.getD_some, Option.getD_none, Option.map_some, Option.map_none, if_true, if_false, true_and, and_true, and_self, or_self, or_false, false_or, false_and, and_false, reduceCtorEq, sel_and, sel_or, decide_eq_true_eq, Bool.and_eq_true, Bool.or_eq_true, Bool.and_true, Bool.true_and, Bool.or_false, Bool.false_or, Bool.true_or, Bool.or_true, Bool.not_true, Bool.not_false, Bool.false_eq_true, implies_true, not_false_eq_true, Nat.reduceLT, Nat.reduceEqDiff, Nat.reduceAdd, Nat.reduceMul, Nat.reduceMod, Nat.reduceLeDiff, Nat.reduceBEq, Nat.zero_add, Nat.add_zero, reduceIte, ↓reduceIte, List.not_mem_nil]
  exact ⟨⟨h0, h1⟩, Sub.refl _⟩
theorem fs_calm : ∀ args sc res, F_fmt args = some (sc, res) → sc → Calm Tryd.prog 56 args res := by
  intro args sc res h hs
  unfold F_fmt at h
  split at h <;> cases h
  obtain ⟨h0, h1, rfl⟩ := hs
  exact known_fs.calm mixed rfl rfl (fs_body _ h0 h1)
/- Bytes. -/
def digL (n : Nat) : Int := if n < 10 then 48 + n else 87 + n
def hexL (n : Nat) : List Int := if n < 16 then [digL n] else [digL (n / 16), digL (n % 16)]
theorem digL_B : ∀ k : Fin 16, digL k.val = ((digB k.val).toNat : Int) := by decide +kernel
theorem hexS_L {n : Nat} (h : n < 256) : hexS n = strOfNums (hexL n) := by
  unfold hexS hexL
  by_cases c : n < 16
  · rw [if_pos c, if_pos c, digL_B ⟨n, c⟩, strOf1]
  · rw [if_neg c, if_neg c, digL_B ⟨n / 16, by omega⟩, digL_B ⟨n % 16, by omega⟩, strOf2]
theorem str_append (a b : List Int) : strOfNums (a ++ b) = strOfNums a ++ strOfNums b := by
  apply ByteArray.ext
  simp [strOfNums]
/-- A code point by its number. -/
def numL (r : Int) : List Int := 92 :: hexL r.toNat
theorem hexL_le (n : Nat) : (hexL n).length ≤ 2 := by unfold hexL; split <;> simp
theorem numL_le (r : Int) : (numL r).length ≤ 3 := by have := hexL_le r.toNat; simp only [numL, List.length_cons]; omega
theorem put_le (r : Int) : (Utf.put r).length ≤ 4 := by
  unfold Utf.put Utf.enc
  repeat' split
  all_goals simp
theorem str_size (l : List Int) : (strOfNums l).size = l.length := strOfNums_size l
def F_num : List AV → Option (Prop × AV)
  | [.d (.v (.int .i64 n))] => some (0 ≤ n ∧ n < 128, vStr (strOfNums (numL n)))
  | _ => none
noncomputable def G_num : Gam := Gam.none.add 56 fun a => F_fmt (NT.nz.nzL [] a)
theorem known_num : Known Tryd.prog G_num := (Known.none _).addC _ fs_calm
theorem G_num_at (h : Nat → Option AObj) (d : Nat) (a : List AV) : G_num 56 h d a = calmE (fun a => F_fmt (NT.nz.nzL [] a)) h a := rfl
theorem hexS_size (n : Nat) : (hexS n).size ≤ 2 := by
  unfold hexS
  split
  · show 1 ≤ 2; omega
  · show 2 ≤ 2; omega
theorem num_body (n : Int) (h0 : 0 ≤ n) (h1 : n < 128) : Body Tryd.prog G_num (DRun Tryd.prog G_num) 39 [vInt .i64 n] (vStr (strOfNums (numL n))) := by
  refine Body.of Tryd.func39 Tryd.ntmps39 (by kernel_rfl) rfl rfl rfl ?_
  have hs := hexS_size n.toNat
  simp only [w64 (n := n) (by omega) (by omega), G_num_at, calmE, F_fmt, AV.flat, AV.flat.flatL, Int.reduceLE, Int.reduceLT, Int.reduceGT, Int.reduceGE, Int.reduceBEq, Int.reduceBNe, Int.reduceEq, Int.reduceToNat, Int.reduceSub, Int.reduceAdd, Int.reduceMul, Int.reducePow, goTG_val, goTG_new, goTG_up, goTG_none, goG_none, goG_new, goG_up, ne_eq, evK, evH, retHF, DRun_mk, runT_nil, runT_none, runT_guard, goT_val, goT_new, goT_store, goTH_true, goTH_false, evO, keys, Option.toList_some, Option.toList_none, nzL_nil, nzL_cons, nz_k, nz_sl, nz_nil, nz_agg, startL, evC, evV, goE_val, goE_new, goE_store, goH_true, goH_false, goG_val, lk_cons, lk_nil, lk_func, lk_int, lk_bool, lk_string, lk_slice, lk_agg, look_mk, St.effOf, eff, effCall, effBinC, isConst, effBin, effUn, effConv, effPick, effNil, effFold, fold1, effLoad, effStore, effFieldAddr, effField, fieldOf, sliceOf, effIndexAddr, effIndex, effLen, effExtract, effSlice, dats, bnd, effBuild, placesOf, effBuildSlice, effMakeSlice, effAppend, srcOf, fillA, chunk, seg, toD, toDs, put, eqAV, fieldsEq, leafEq, strip, unw, allB, selP_or, selP_and, tis, TyD.agg, AV.cells, AV.cell, allCell, vInt, vBool, vStr, subL_nil, subL_cons, upIds, AV.ids, AV.ids.idsL, AObj.ids, drops, Hp.get_cons, get_nil, retF, resL, one, fz, fz.fzL, List.map_cons, List.map_nil, List.nil_append, List.append_nil, List.cons_append, List.all_cons, List.all_nil, List.length_cons, List.length_nil, List.getElem?_cons_zero, List.getElem?_cons_succ, List.getD_cons_zero, List.getD_cons_succ, List.take_succ_cons, List.take_zero, List.drop_succ_cons, List.drop_zero, List.take_nil, List.drop_nil, List.contains_cons, List.contains_nil, Option.getD_some, Option.getD_none, Option.map_some, Option.map_none, if_true, if_false, true_and, and_true, and_self, or_self, or_false, false_or, false_and, and_false, reduceCtorEq, sel_and, sel_or, decide_eq_true_eq, Bool.and_eq_true, Bool.or_eq_true, Bool.and_true, Bool.true_and, Bool.or_false, Bool.false_or, Bool.true_or, Bool.or_true, Bool.not_true, Bool.not_false, Bool.false_eq_true, implies_true, not_false_eq_true, Nat.reduceLT, Nat.reduceEqDiff, Nat.reduceAdd, Nat.reduceMul, Nat.reduceMod, Nat.reduceLeDiff, Nat.reduceBEq, Nat.zero_add, Nat.add_zero, reduceIte, ↓reduceIte, List.not_mem_nil]
  refine ⟨⟨h0, h1⟩, by show ((1 + (hexS n.toNat).size : Nat) : Int) ≤ _; omega, Sub.eq ?_⟩
  rw [numL, show (92 : Int) :: hexL n.toNat = [92] ++ hexL n.toNat from rfl, str_append, ← hexS_L (by omega)]
  rfl
theorem num_calm : ∀ args sc res, F_num args = some (sc, res) → sc → Calm Tryd.prog 39 args res := by
  intro args sc res h hs
  unfold F_num at h
  split at h <;> cases h
  exact known_num.calm mixed rfl rfl (num_body _ hs.1 hs.2)
/-- How a code point stands in a name. -/
def oneL (r : Int) : List Int := if r = 0 then Utf.put 65533 else if r < 32 ∨ r = 127 then numL r ++ [32] else if inP r then Utf.put r else 92 :: Utf.put r
def F_one : List AV → Option (Prop × AV)
  | [.d (.v (.int .i64 r))] => some (0 ≤ r ∧ r ≤ 1114111, vStr (strOfNums (oneL r)))
  | _ => none
noncomputable def G_one : Gam := ((Gam.none.add 39 fun a => F_num (NT.nz.nzL [] a)).add 14 fun a => F_in (NT.nz.nzL [] a)).add 29 fun a => F_Text (NT.nz.nzL [.s 1] a)
theorem known_one : Known Tryd.prog G_one := (((Known.none _).addC _ num_calm).addC _ inI_calm).addC _ Text_calm
theorem G_one_at : (∀ h d a, G_one 39 h d a = calmE (fun a => F_num (NT.nz.nzL [] a)) h a) ∧ (∀ h d a, G_one 14 h d a = calmE (fun a => F_in (NT.nz.nzL [] a)) h a) ∧ (∀ h d a, G_one 29 h d a = calmE (fun a => F_Text (NT.nz.nzL [.s 1] a)) h a) := ⟨fun _ _ _ => rfl, fun _ _ _ => rfl, fun _ _ _ => rfl⟩
theorem one_body (r : Int) (h0 : 0 ≤ r) (h1 : r ≤ 1114111) : Body Tryd.prog G_one (DRun Tryd.prog G_one) 43 [vInt .i64 r] (vStr (strOfNums (oneL r))) := by
  refine Body.of Tryd.func43 Tryd.ntmps43 (by kernel_rfl) rfl rfl rfl ?_
  simp only [G_one_at, calmE, F_num, F_in, F_Text, numOf, iD, AV.flat, AV.flat.flatL, Int.reduceLE, Int.reduceLT, Int.reduceGT, Int.reduceGE, Int.reduceBEq, Int.reduceBNe, Int.reduceEq, Int.reduceToNat, Int.reduceSub, Int.reduceAdd, Int.reduceMul, Int.reducePow, goTG_val, goTG_new, goTG_up, goTG_none, goG_none, goG_new, goG_up, ne_eq, evK, evH, retHF, DRun_mk, runT_nil, runT_none, runT_guard, goT_val, goT_new, goT_store, goTH_true, goTH_false, evO, keys, Option.toList_some, Option.toList_none, nzL_nil, nzL_cons, nz_k, nz_sl, nz_nil, nz_agg, startL, evC, evV, goE_val, goE_new, goE_store, goH_true, goH_false, goG_val, lk_cons, lk_nil, lk_func, lk_int, lk_bool, lk_string, lk_slice, lk_agg, look_mk, St.effOf, eff, effCall, effBinC, isConst, effBin, effUn, effConv, effPick, effNil, effFold, fold1, effLoad, effStore, effFieldAddr, effField, fieldOf, sliceOf, effIndexAddr, effIndex, effLen, effExtract, effSlice, dats, bnd, effBuild, placesOf, effBuildSlice, effMakeSlice, effAppend, srcOf, fillA, chunk, seg, toD, toDs, put, eqAV, fieldsEq, leafEq, strip, unw, allB, selP_or, selP_and, tis, TyD.agg, AV.cells, AV.cell, allCell, vInt, vBool, vStr, subL_nil, subL_cons, upIds, AV.ids, AV.ids.idsL, AObj.ids, drops, Hp.get_cons, get_nil, retF, resL, one, fz, fz.fzL, List.map_cons, List.map_nil, List.nil_append, List.append_nil, List.cons_append, List.all_cons, List.all_nil, List.length_cons, List.length_nil, List.getElem?_cons_zero, List.getElem?_cons_succ, List.getD_cons_zero, List.getD_cons_succ, List.take_succ_cons, List.take_zero, List.drop_succ_cons, List.drop_zero, List.take_nil, List.drop_nil, List.contains_cons, List.contains_nil, Option.getD_some, Option.getD_none, Option.map_some, Option.map_none, if_true, if_false, true_and, and_true, and_self, or_self, or_false, false_or, false_and, and_false, reduceCtorEq, sel_and, sel_or, decide_eq_true_eq, Bool.and_eq_true, Bool.or_eq_true, Bool.and_true, Bool.true_and, Bool.or_false, Bool.false_or, Bool.true_or, Bool.or_true, Bool.not_true, Bool.not_false, Bool.false_eq_true, implies_true, not_false_eq_true, Nat.reduceLT, Nat.reduceEqDiff, Nat.reduceAdd, Nat.reduceMul, Nat.reduceMod, Nat.reduceLeDiff, Nat.reduceBEq, Nat.zero_add, Nat.add_zero, reduceIte, ↓reduceIte, List.not_mem_nil]
  have ep : ∀ x, puts [x] = Utf.put x := fun x => by simp [puts]
  have sz := str_size (Utf.put r)
  have sn := str_size (numL r)
  have pl := put_le r
  have nl := numL_le r
  unfold oneL
  by_cases c0 : r = 0
  · rw [if_pos (by simp [c0]), if_pos c0, ep]
  rw [if_neg (by simpa using c0), if_neg c0]
  by_cases c1 : r < 32 ∨ r = 127
  · rw [if_pos (by simpa using c1), if_pos c1]
    refine ⟨⟨h0, by omega⟩, by rw [sn]; show (((numL r).length + 1 : Nat) : Int) ≤ _; omega, Sub.eq ?_⟩
    rw [str_append]; rfl
  rw [if_neg (by simpa using c1), if_neg c1]
  by_cases c2 : inP r
  · rw [if_pos c2, if_pos c2, ep]
  rw [if_neg c2, if_neg c2, ep]
  refine ⟨by rw [sz]; show ((1 + (Utf.put r).length : Nat) : Int) ≤ _; omega, Sub.eq ?_⟩
  rw [show (92 : Int) :: Utf.put r = [92] ++ Utf.put r from rfl, str_append]; rfl
theorem one_calm2 : ∀ args sc res, F_one args = some (sc, res) → sc → Calm Tryd.prog 43 args res := by
  intro args sc res h hs
  unfold F_one at h
  split at h <;> cases h
  exact known_one.calm mixed rfl rfl (one_body _ hs.1 hs.2)
def bA (u : Bool) (o : Nat) : AV := if u then .ptr o 0 else .d (.v (.pointer none))
/-- A list's bytes. -/
def u8s (l : List Int) : List UInt8 := l.map fun x => UInt8.ofNat x.toNat
theorem str_u8s (l : List Int) : strOfNums l = ⟨(u8s l).toArray⟩ := rfl
theorem u8s_len (l : List Int) : (u8s l).length = l.length := by rw [u8s, List.length_map]
theorem u8s_app (a b : List Int) : u8s (a ++ b) = u8s a ++ u8s b := by simp [u8s]
theorem dec_range {l : List Int} (hb : Bytes l) (h : l ≠ []) : 0 ≤ (Utf.dec l).1 ∧ (Utf.dec l).1 ≤ 1114111 := by
  rcases hd : Utf.dec l with ⟨r, n, ok⟩
  cases ok with
  | true =>
    obtain ⟨hr, -, -⟩ := Utf.enc_dec hb hd
    exact ⟨hr.1, hr.2.1⟩
  | false =>
    have := Utf.dec_false h (by rw [hd])
    rw [hd] at this
    simp only [Utf.bad, Prod.mk.injEq] at this
    simp only []; omega
theorem alls_range : ∀ (n : Nat) (l : List Int), Bytes l → ∀ x ∈ alls n l, 0 ≤ x ∧ x ≤ 1114111
  | 0, _, _, _, h => by simp [alls] at h
  | n + 1, l, hb, x, h => by
    unfold alls at h
    split at h
    · simp at h
    · rename_i hl
      rcases List.mem_cons.mp h with rfl | h
      · exact dec_range hb hl
      · exact alls_range n _ (fun y hy => hb y (List.mem_of_mem_drop hy)) x h
theorem oneL_le (r : Int) : (oneL r).length ≤ 6 := by
  have h1 := put_le r
  have h2 := put_le 65533
  have h3 := numL_le r
  unfold oneL
  repeat' split
  all_goals
    try simp only [List.length_append, List.length_cons, List.length_nil]
    omega
theorem ones_le (l : List Int) : (l.flatMap oneL).length ≤ 6 * l.length := by
  induction l with
  | nil => exact Nat.le_refl _
  | cons a l ih => have := oneL_le a; simp only [List.flatMap_cons, List.length_append, List.length_cons]; omega
/-- The rest of a name. -/
def restL (l : List Int) : List Int := (alls l.length l).flatMap oneL
def F_rest : List AV → Option (Prop × AV)
  | [.d (.v (.string s))] => some (s.size ≤ 1000000000, vStr (strOfNums (restL (sB s))))
  | _ => none
noncomputable def G_rest : Gam := (((Gam.none.addH 42 F_ws).addH 44 F_str).add 41 fun a => F_All (NT.nz.nzL [] a)).add 43 fun a => F_one (NT.nz.nzL [] a)
theorem gok_rest : Gok Tryd.prog G_rest := by
  refine ((str_ok (ws_ok (Known.none _).ok)).add fun args sc res h hs _ => ?_).add fun args sc res h hs _ => ?_
  · exact (All_calm _ sc res h hs).nz
  · exact (one_calm2 _ sc res h hs).nz
theorem G_rest_at : (∀ h d a, G_rest 42 h d a = F_ws h d a) ∧ (∀ h d a, G_rest 44 h d a = F_str h d a) ∧ (∀ h d a, G_rest 41 h d a = calmE (fun a => F_All (NT.nz.nzL [] a)) h a) ∧ (∀ h d a, G_rest 43 h d a = calmE (fun a => F_one (NT.nz.nzL [] a)) h a) := ⟨fun _ _ _ => rfl, fun _ _ _ => rfl, fun _ _ _ => rfl, fun _ _ _ => rfl⟩
theorem rest_body (s : ByteArray) (hl : s.size ≤ 1000000000) : Body Tryd.prog G_rest (DRun Tryd.prog Gam.none) 20 [vStr s] (vStr (strOfNums (restL (sB s)))) := by
  refine Body.of Tryd.func20 Tryd.ntmps20 (by kernel_rfl) rfl rfl rfl ?_
  have hn := sB_len s
  simp only [intsD, G_rest_at, calmE, F_All, F_one, F_ws, F_str, AV.flat, AV.flat.flatL, List.length_map, goTG_val, goTG_new, goTG_up, goTG_none, goG_none, goG_new, goG_up, ne_eq, evK, evH, retHF, DRun_mk, runT_nil, runT_none, runT_guard, goT_val, goT_new, goT_store, goTH_true, goTH_false, evO, keys, Option.toList_some, Option.toList_none, nzL_nil, nzL_cons, nz_k, nz_sl, nz_nil, nz_agg, startL, evC, evV, goE_val, goE_new, goE_store, goH_true, goH_false, goG_val, lk_cons, lk_nil, lk_func, lk_int, lk_bool, lk_string, lk_slice, lk_agg, look_mk, St.effOf, eff, effCall, effBinC, isConst, effBin, effUn, effConv, effPick, effNil, effFold, fold1, effLoad, effStore, effFieldAddr, effField, fieldOf, sliceOf, effIndexAddr, effIndex, effLen, effExtract, effSlice, dats, bnd, effBuild, placesOf, effBuildSlice, effMakeSlice, effAppend, srcOf, fillA, chunk, seg, toD, toDs, put, eqAV, fieldsEq, leafEq, strip, unw, allB, selP_or, selP_and, tis, TyD.agg, AV.cells, AV.cell, allCell, vInt, vBool, vStr, subL_nil, subL_cons, upIds, AV.ids, AV.ids.idsL, AObj.ids, drops, Hp.get_cons, get_nil, retF, resL, one, fz, fz.fzL, List.map_cons, List.map_nil, List.nil_append, List.append_nil, List.cons_append, List.all_cons, List.all_nil, List.length_cons, List.length_nil, List.getElem?_cons_zero, List.getElem?_cons_succ, List.getD_cons_zero, List.getD_cons_succ, List.take_succ_cons, List.take_zero, List.drop_succ_cons, List.drop_zero, List.take_nil, List.drop_nil, List.contains_cons, List.contains_nil, Option.getD_some, Option.getD_none, Option.map_some, Option.map_none, if_true, if_false, true_and, and_true, and_self, or_self, or_false, false_or, false_and, and_false, reduceCtorEq, sel_and, sel_or, decide_eq_true_eq, Bool.and_eq_true, Bool.or_eq_true, Bool.and_true, Bool.true_and, Bool.or_false, Bool.false_or, Bool.true_or, Bool.or_true, Bool.not_true, Bool.not_false, Bool.false_eq_true, implies_true, not_false_eq_true, Nat.reduceLT, Nat.reduceEqDiff, Nat.reduceAdd, Nat.reduceMul, Nat.reduceMod, Nat.reduceLeDiff, Nat.reduceBEq, Nat.zero_add, Nat.add_zero, reduceIte, ↓reduceIte, List.not_mem_nil]
  refine ⟨by omega, ?_⟩
  have hpr := alls_range s.size (sB s) (sB_bytes s)
  have hpl := alls_len s.size (sB s)
  unfold restL
  rw [hn]
  generalize alls s.size (sB s) = ps at hpr hpl ⊢
  refine wpc_loop (fun q : Nat × Bool => ⟨18, [103, 100], [(3, .ptr 103 0), (7, .d (intsD ps)), (8, vInt .i64 ps.length), (9, vInt .i64 q.1)], [(103, some (.cells 53 [bA q.2 103, .row 100 ((u8s ((ps.take q.1).flatMap oneL)).map byteRow).length])), (100, some (.row 5 1 ((u8s ((ps.take q.1).flatMap oneL)).map byteRow)))]⟩) (fun q => q.1 ≤ ps.length) (fun q => ps.length - q.1) (0, false) (Nat.zero_le _) ?_ ?_
  · refine Le.of (fun _ => 3) [100] ?_
    simp only [intsD, bA, u8s, List.take_zero, List.flatMap_nil, List.map_nil, Bool.false_eq_true, if_false, List.length_nil, List.length_map, Mt_tup, Mt_agg, Mt_fn, forall_eq, forall_eq_or_imp, ne_eq, List.all_cons, List.all_nil, pr, Nat.reduceLeDiff, slR_nil, slR_cons, hpR_nil, hpR_cells, hpR_row, idsR_nil, idsR_cons, mtE_v, mtE_sl, mtE_nil, mtE_refl, mtE_row, mtE_born, mtE_ptr, mtE_rp, mtE_agg, mtE_tup, mtE_fn, mtE_ep, MtL_nil, MtL_cons, Mt_v, Mt_sl, Mt_nil, Mt_refl, Mt_row, Mt_born, Mt_ptr, MtO_cells, MtO_row, liveIds, distinct, Dat.v.injEq, Dat.sl.injEq, Value.int.injEq, Value.bool.injEq, Value.string.injEq, lk_cons, lk_nil, subL_nil, subL_cons, upIds, AV.ids, AV.ids.idsL, AObj.ids, Hp.get_cons, get_nil, allCell, AV.cell, vInt, vBool, vStr, id, true_and, and_true, and_self, List.append_nil, List.nil_append, List.not_mem_nil, List.mem_cons, or_false, false_or, or_self, not_true_eq_false, not_false_eq_true, false_imp_iff, false_implies, List.map_nil, not_false_eq_true, List.contains_cons, List.contains_nil, Bool.or_false, Bool.false_or, Bool.true_or, Bool.or_true, Bool.and_true, Bool.true_and, implies_true, if_true, if_false, reduceCtorEq, Nat.reduceEqDiff, Nat.reduceBEq, Nat.reduceAdd, reduceIte, ↓reduceIte]
    exact ⟨rfl, rfl⟩
  · rintro ⟨j, u⟩ hj
    simp only [] at hj
    by_cases hj2 : (j : Int) < ps.length
    · obtain ⟨p, hp⟩ : ∃ p, ps[j]? = some p := ⟨_, List.getElem?_eq_getElem (by omega)⟩
      have hg : ∀ z, (ps.map (iD .i64)).getD (j : Int).toNat z = iD .i64 p := getD_map hp
      have h1 := ones_le (ps.take j)
      rw [List.length_take] at h1
      have h2 := oneL_le p
      have h3 := hpr p (List.mem_of_getElem? hp)
      have e : u8s ((ps.take (j + 1)).flatMap oneL) = u8s ((ps.take j).flatMap oneL) ++ u8s (oneL p) := by
        rw [take_at hp, ← u8s_app]; simp
      cases u
      all_goals
        simp only [intsD, hg, iD, bA, str_u8s, ba_size, G_rest_at, calmE, F_All, F_one, F_ws, F_str, AV.flat, AV.flat.flatL, List.length_map, goTG_val, goTG_new, goTG_up, goTG_none, goG_none, goG_new, goG_up, ne_eq, evK, evH, retHF, DRun_mk, runT_nil, runT_none, runT_guard, goT_val, goT_new, goT_store, goTH_true, goTH_false, evO, keys, Option.toList_some, Option.toList_none, nzL_nil, nzL_cons, nz_k, nz_sl, nz_nil, nz_agg, startL, evC, evV, goE_val, goE_new, goE_store, goH_true, goH_false, goG_val, lk_cons, lk_nil, lk_func, lk_int, lk_bool, lk_string, lk_slice, lk_agg, look_mk, St.effOf, eff, effCall, effBinC, isConst, effBin, effUn, effConv, effPick, effNil, effFold, fold1, effLoad, effStore, effFieldAddr, effField, fieldOf, sliceOf, effIndexAddr, effIndex, effLen, effExtract, effSlice, dats, bnd, effBuild, placesOf, effBuildSlice, effMakeSlice, effAppend, srcOf, fillA, chunk, seg, toD, toDs, put, eqAV, fieldsEq, leafEq, strip, unw, allB, selP_or, selP_and, tis, TyD.agg, AV.cells, AV.cell, allCell, vInt, vBool, vStr, subL_nil, subL_cons, upIds, AV.ids, AV.ids.idsL, AObj.ids, drops, Hp.get_cons, get_nil, retF, resL, one, fz, fz.fzL, List.map_cons, List.map_nil, List.nil_append, List.append_nil, List.cons_append, List.all_cons, List.all_nil, List.length_cons, List.length_nil, List.getElem?_cons_zero, List.getElem?_cons_succ, List.getD_cons_zero, List.getD_cons_succ, List.take_succ_cons, List.take_zero, List.drop_succ_cons, List.drop_zero, List.take_nil, List.drop_nil, List.contains_cons, List.contains_nil, Option.getD_some, Option.getD_none, Option.map_some, Option.map_none, if_true, if_false, true_and, and_true, and_self, or_self, or_false, false_or, false_and, and_false, reduceCtorEq, sel_and, sel_or, decide_eq_true_eq, Bool.and_eq_true, Bool.or_eq_true, Bool.and_true, Bool.true_and, Bool.or_false, Bool.false_or, Bool.true_or, Bool.or_true, Bool.not_true, Bool.not_false, Bool.false_eq_true, implies_true, not_false_eq_true, Nat.reduceLT, Nat.reduceEqDiff, Nat.reduceAdd, Nat.reduceMul, Nat.reduceMod, Nat.reduceLeDiff, Nat.reduceBEq, Nat.zero_add, Nat.add_zero, reduceIte, ↓reduceIte, List.not_mem_nil]
        rw [if_pos hj2]
        refine ⟨by omega, h3, by rw [u8s_len, u8s_len]; omega, (j + 1, true), by simp only []; omega, by simp only []; omega, Le.of (fun o => if o = 100 then 15 else o) [] ?_⟩
        simp only [intsD, bA, e, List.map_append, List.length_append, List.length_map, Mt_tup, Mt_agg, Mt_fn, forall_eq, forall_eq_or_imp, ne_eq, List.all_cons, List.all_nil, pr, Nat.reduceLeDiff, slR_nil, slR_cons, hpR_nil, hpR_cells, hpR_row, idsR_nil, idsR_cons, mtE_v, mtE_sl, mtE_nil, mtE_refl, mtE_row, mtE_born, mtE_ptr, mtE_rp, mtE_agg, mtE_tup, mtE_fn, mtE_ep, MtL_nil, MtL_cons, Mt_v, Mt_sl, Mt_nil, Mt_refl, Mt_row, Mt_born, Mt_ptr, MtO_cells, MtO_row, liveIds, distinct, Dat.v.injEq, Dat.sl.injEq, Value.int.injEq, Value.bool.injEq, Value.string.injEq, lk_cons, lk_nil, subL_nil, subL_cons, upIds, AV.ids, AV.ids.idsL, AObj.ids, Hp.get_cons, get_nil, allCell, AV.cell, vInt, vBool, vStr, id, true_and, and_true, and_self, List.append_nil, List.nil_append, List.not_mem_nil, List.mem_cons, or_false, false_or, or_self, not_true_eq_false, not_false_eq_true, false_imp_iff, false_implies, List.map_nil, not_false_eq_true, List.contains_cons, List.contains_nil, Bool.or_false, Bool.false_or, Bool.true_or, Bool.or_true, Bool.and_true, Bool.true_and, implies_true, if_true, if_false, reduceCtorEq, Nat.reduceEqDiff, Nat.reduceBEq, Nat.reduceAdd, reduceIte, ↓reduceIte]
        exact ⟨w64 (by omega) (by omega), rfl⟩
    · cases u
      all_goals
        simp only [intsD, bA, G_rest_at, calmE, F_All, F_one, F_ws, F_str, AV.flat, AV.flat.flatL, List.length_map, goTG_val, goTG_new, goTG_up, goTG_none, goG_none, goG_new, goG_up, ne_eq, evK, evH, retHF, DRun_mk, runT_nil, runT_none, runT_guard, goT_val, goT_new, goT_store, goTH_true, goTH_false, evO, keys, Option.toList_some, Option.toList_none, nzL_nil, nzL_cons, nz_k, nz_sl, nz_nil, nz_agg, startL, evC, evV, goE_val, goE_new, goE_store, goH_true, goH_false, goG_val, lk_cons, lk_nil, lk_func, lk_int, lk_bool, lk_string, lk_slice, lk_agg, look_mk, St.effOf, eff, effCall, effBinC, isConst, effBin, effUn, effConv, effPick, effNil, effFold, fold1, effLoad, effStore, effFieldAddr, effField, fieldOf, sliceOf, effIndexAddr, effIndex, effLen, effExtract, effSlice, dats, bnd, effBuild, placesOf, effBuildSlice, effMakeSlice, effAppend, srcOf, fillA, chunk, seg, toD, toDs, put, eqAV, fieldsEq, leafEq, strip, unw, allB, selP_or, selP_and, tis, TyD.agg, AV.cells, AV.cell, allCell, vInt, vBool, vStr, subL_nil, subL_cons, upIds, AV.ids, AV.ids.idsL, AObj.ids, drops, Hp.get_cons, get_nil, retF, resL, one, fz, fz.fzL, List.map_cons, List.map_nil, List.nil_append, List.append_nil, List.cons_append, List.all_cons, List.all_nil, List.length_cons, List.length_nil, List.getElem?_cons_zero, List.getElem?_cons_succ, List.getD_cons_zero, List.getD_cons_succ, List.take_succ_cons, List.take_zero, List.drop_succ_cons, List.drop_zero, List.take_nil, List.drop_nil, List.contains_cons, List.contains_nil, Option.getD_some, Option.getD_none, Option.map_some, Option.map_none, if_true, if_false, true_and, and_true, and_self, or_self, or_false, false_or, false_and, and_false, reduceCtorEq, sel_and, sel_or, decide_eq_true_eq, Bool.and_eq_true, Bool.or_eq_true, Bool.and_true, Bool.true_and, Bool.or_false, Bool.false_or, Bool.true_or, Bool.or_true, Bool.not_true, Bool.not_false, Bool.false_eq_true, implies_true, not_false_eq_true, Nat.reduceLT, Nat.reduceEqDiff, Nat.reduceAdd, Nat.reduceMul, Nat.reduceMod, Nat.reduceLeDiff, Nat.reduceBEq, Nat.zero_add, Nat.add_zero, reduceIte, ↓reduceIte, List.not_mem_nil]
        rw [if_neg hj2, List.take_of_length_le (by omega)]
        exact ⟨(byteRows_ok _).1, by rw [(byteRows_ok _).2]; exact Sub.refl _⟩
theorem rest_calm : ∀ args sc res, F_rest args = some (sc, res) → sc → Calm Tryd.prog 20 args res := by
  intro args sc res h hs
  unfold F_rest at h
  split at h <;> cases h
  exact Body.calm gok_rest (draws0 _) rfl rfl (rest_body _ hs)
end Go.Proofs.YtelgddealjbgiaaDoor.Eng
