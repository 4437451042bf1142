/- Numbers in base 64, on the small machine. -/
import Derived.Test.YthokfhifahlohaaDoorSBy
namespace Go.Proofs.YthokfhifahlohaaDoor.Eng
open Go Go.Proofs.YthokfhifahlohaaDoor.Base
set_option maxRecDepth 100000
set_option linter.unusedSimpArgs false
set_option linter.unusedVariables false
/-- The letters. -/
def letB : ByteArray := ⟨#[65, 66, 67, 68, 69, 70, 71, 72, 73, 74, 75, 76, 77, 78, 79, 80, 81, 82, 83, 84, 85, 86, 87, 88, 89, 90, 97, 98, 99, 100, 101, 102, 103, 104, 105, 106, 107, 108, 109, 110, 111, 112, 113, 114, 115, 116, 117, 118, 119, 120, 121, 122, 48, 49, 50, 51, 52, 53, 54, 55, 56, 57, 43, 47]⟩
theorem letB_size : letB.size = 64 := rfl
def dig (n : Nat) : ByteArray := letB.extract n (n + 1)
theorem dig_size {n : Nat} (h : n < 64) : (dig n).size = 1 := by
  rw [dig, ByteArray.size_extract, letB_size]; omega
theorem dig_at {y : Nat} (h : y < 64) : letB.extract (y : Int).toNat (IntKind.i64.wrap ((y : Int) + 1)).toNat = dig y := by
  rw [w64 (by omega) (by omega), Int.toNat_natCast, show ((y : Int) + 1).toNat = y + 1 by omega]; rfl
theorem wraps62 (n : Int) (h0 : 0 ≤ n) (h1 : n < 2 ^ 62) : IntKind.i64.wrap n = n := by rw [IntKind.wrap_i64]; omega
theorem and31' {x : Int} (h0 : 0 ≤ x) (h1 : x < 2 ^ 62) : bits .and .i64 x 31 = x % 32 :=
  bits_mask .i64 62 (by decide) wraps62 5 (by decide) x h0 h1
theorem app_assoc (a b c : ByteArray) : a ++ b ++ c = a ++ (b ++ c) := by
  apply ByteArray.ext
  simp [ByteArray.data_append]
/-- A number's digits. -/
def vd (x : Nat) : ByteArray := if h : x < 32 then dig x else dig (x % 32 + 32) ++ vd (x / 32)
termination_by x
decreasing_by omega
theorem vd_lo {x : Nat} (h : x < 32) : vd x = dig x := by rw [vd, dif_pos h]
theorem vd_hi {x : Nat} (h : ¬ x < 32) : vd x = dig (x % 32 + 32) ++ vd (x / 32) := by rw [vd, dif_neg h]
theorem vd_size (k : Nat) : ∀ x : Nat, x < 32 ^ (k + 1) → 1 ≤ (vd x).size ∧ (vd x).size ≤ k + 1 := by
  induction k with
  | zero => intro x h; rw [vd_lo (by simpa using h), dig_size (by simp at h; omega)]; omega
  | succ k ih =>
    intro x h
    by_cases h1 : x < 32
    · rw [vd_lo h1, dig_size (by omega)]; omega
    · have := ih (x / 32) (by rw [Nat.pow_succ] at h; exact Nat.div_lt_of_lt_mul (by rw [Nat.mul_comm]; exact h))
      rw [vd_hi h1, ByteArray.size_append, dig_size (by omega)]; omega
/-- How a number is written. -/
def vx (n : Int) : Nat := if n < 0 then (1 - 2 * n).toNat else (2 * n).toNat
def vq (n : Int) : ByteArray := if n < -1099511627776 ∨ n > 1099511627776 then ByteArray.empty else vd (vx n)
theorem vx_lt {n : Int} (h : ¬ (n < -1099511627776 ∨ n > 1099511627776)) : vx n < 32 ^ 9 := by unfold vx; split <;> omega
theorem vq_size (n : Int) : (vq n).size ≤ 9 := by
  unfold vq
  split
  · exact Nat.zero_le _
  · rename_i h; exact (vd_size 8 _ (vx_lt h)).2
theorem ba_nil (s : ByteArray) : s ++ ByteArray.empty = s := by apply ByteArray.ext; simp
theorem Put_body2 (s : ByteArray) (n : Int) (hs : s.size ≤ 9000000000000000000) : Body Tryd.prog Gam.none (DRun Tryd.prog Gam.none) 21 [.d (.v (.string s)), .d (.v (.int .i64 n))] (vStr (s ++ vq n)) := by
  refine Body.of Tryd.func21 Tryd.ntmps21 (by kernel_rfl) rfl rfl rfl ?_
  simp only [show (⟨#[65, 66, 67, 68, 69, 70, 71, 72, 73, 74, 75, 76, 77, 78, 79, 80, 81, 82, 83, 84, 85, 86, 87, 88, 89, 90, 97, 98, 99, 100, 101, 102, 103, 104, 105, 106, 107, 108, 109, 110, 111, 112, 113, 114, 115, 116, 117, 118, 119, 120, 121, 122, 48, 49, 50, 51, 52, 53, 54, 55, 56, 57, 43, 47]⟩ : ByteArray) = letB from rfl, goTG_val, goTG_new, goTG_up, goTG_none, goG_none, goG_new, goG_up, ne_eq, evK, evH, retHF, DRun_mk, runT_nil, runT_none, runT_guard, goT_val, goT_new, goT_store, goTH_true, goTH_false, evO, keys, Option.toList_some, Option.toList_none, nzL_nil, nzL_cons, nz_k, nz_sl, nz_nil, nz_agg, startL, evC, evV, goE_val, goE_new, goE_store, goH_true, goH_false, goG_val, lk_cons, lk_nil, lk_func, lk_int, lk_bool, lk_string, lk_slice, lk_agg, look_mk, St.effOf, eff, effCall, effBin, effUn, effConv, effPick, effNil, effFold, fold1, effLoad, effStore, effFieldAddr, effField, fieldOf, sliceOf, effIndexAddr, effIndex, effLen, effExtract, effSlice, bnd, effBuild, placesOf, effBuildSlice, effMakeSlice, effAppend, srcOf, fillA, chunk, seg, toD, toDs, put, eqAV, fieldsEq, leafEq, strip, unw, allB, selP_or, selP_and, tis, TyD.agg, AV.cells, AV.cell, allCell, vInt, vBool, vStr, subL_nil, subL_cons, upIds, AV.ids, AV.ids.idsL, AObj.ids, drops, Hp.get_cons, get_nil, retF, resL, one, fz, fz.fzL, List.map_cons, List.map_nil, List.nil_append, List.append_nil, List.cons_append, List.all_cons, List.all_nil, List.length_cons, List.length_nil, List.getElem?_cons_zero, List.getElem?_cons_succ, List.getD_cons_zero, List.getD_cons_succ, List.take_succ_cons, List.take_zero, List.drop_succ_cons, List.drop_zero, List.take_nil, List.drop_nil, List.contains_cons, List.contains_nil, Option.getD_some, Option.getD_none, Option.map_some, Option.map_none, if_true, if_false, true_and, and_true, and_self, or_self, or_false, false_or, false_and, and_false, reduceCtorEq, sel_and, sel_or, decide_eq_true_eq, Bool.and_eq_true, Bool.or_eq_true, Bool.and_true, Bool.true_and, Bool.or_false, Bool.false_or, Bool.true_or, Bool.or_true, Bool.not_true, Bool.not_false, Bool.false_eq_true, implies_true, not_false_eq_true, Nat.reduceLT, Nat.reduceEqDiff, Nat.reduceAdd, Nat.reduceMul, Nat.reduceMod, Nat.reduceLeDiff, Nat.reduceBEq, Nat.zero_add, Nat.add_zero, reduceIte, ↓reduceIte, List.not_mem_nil]
  unfold vq
  by_cases c : n < -1099511627776 ∨ n > 1099511627776
  · rw [if_pos c, if_pos c, ba_nil]
  rw [if_neg c, if_neg c]
  have hx := vx_lt c
  have ht := vd_size 8 _ hx
  have start : ∃ x : Nat, x = vx n ∧ (if IntKind.i64.wrap (n * 2) < 0 then IntKind.i64.wrap (1 - IntKind.i64.wrap (n * 2)) else IntKind.i64.wrap (n * 2)) = (x : Int) := by
    refine ⟨vx n, rfl, ?_⟩
    rw [w64 (n := n * 2) (by omega) (by omega)]
    unfold vx
    by_cases h : n < 0
    · rw [if_pos (by omega), if_pos h, w64 (by omega) (by omega)]; omega
    · rw [if_neg (by omega), if_neg h]; omega
  obtain ⟨x0, e0, hst⟩ := start
  rw [← e0] at hx ht ⊢
  by_cases hneg : IntKind.i64.wrap (n * 2) < 0
  all_goals
    first | (rw [if_pos hneg] at hst; rw [if_pos hneg]) | (rw [if_neg hneg] at hst; rw [if_neg hneg])
    rw [hst]
    refine wpc_loop (fun q : ByteArray × Nat => ⟨38, [], [(0, vStr q.1), (1, vInt .i64 q.2)], []⟩) (fun q => q.2 < 32 ^ 9 ∧ q.1 ++ vd q.2 = s ++ vd x0) (fun q => q.2) (s, x0) ⟨hx, rfl⟩ ?_ ?_
    · refine Le.of id [] ?_
      simp only [Mt_tup, Mt_agg, Mt_fn, forall_eq, forall_eq_or_imp, ne_eq, List.all_cons, List.all_nil, pr, Nat.reduceLeDiff, slR_nil, slR_cons, hpR_nil, hpR_cells, hpR_row, idsR_nil, idsR_cons, mtE_v, mtE_sl, mtE_nil, mtE_refl, mtE_row, mtE_born, mtE_ptr, mtE_rp, mtE_agg, mtE_tup, mtE_fn, mtE_ep, MtL_nil, MtL_cons, Mt_v, Mt_sl, Mt_nil, Mt_refl, Mt_row, Mt_born, Mt_ptr, MtO_cells, MtO_row, liveIds, distinct, Dat.v.injEq, Dat.sl.injEq, Value.int.injEq, Value.bool.injEq, Value.string.injEq, lk_cons, lk_nil, subL_nil, subL_cons, upIds, AV.ids, AV.ids.idsL, AObj.ids, Hp.get_cons, get_nil, allCell, AV.cell, vInt, vBool, vStr, id, true_and, and_true, and_self, List.append_nil, List.nil_append, List.not_mem_nil, List.mem_cons, or_false, false_or, or_self, not_true_eq_false, not_false_eq_true, false_imp_iff, false_implies, List.map_nil, not_false_eq_true, List.contains_cons, List.contains_nil, Bool.or_false, Bool.false_or, Bool.true_or, Bool.or_true, Bool.and_true, Bool.true_and, implies_true, if_true, if_false, reduceCtorEq, Nat.reduceEqDiff, Nat.reduceBEq, Nat.reduceAdd, reduceIte, ↓reduceIte]
    · rintro ⟨acc, x⟩ ⟨h1, h2⟩
      simp only [] at h1 h2
      have hsz := congrArg ByteArray.size h2
      rw [ByteArray.size_append, ByteArray.size_append] at hsz
      have hx2 := vd_size 8 _ h1
      simp only [goTG_val, goTG_new, goTG_up, goTG_none, goG_none, goG_new, goG_up, ne_eq, evK, evH, retHF, DRun_mk, runT_nil, runT_none, runT_guard, goT_val, goT_new, goT_store, goTH_true, goTH_false, evO, keys, Option.toList_some, Option.toList_none, nzL_nil, nzL_cons, nz_k, nz_sl, nz_nil, nz_agg, startL, evC, evV, goE_val, goE_new, goE_store, goH_true, goH_false, goG_val, lk_cons, lk_nil, lk_func, lk_int, lk_bool, lk_string, lk_slice, lk_agg, look_mk, St.effOf, eff, effCall, effBin, effUn, effConv, effPick, effNil, effFold, fold1, effLoad, effStore, effFieldAddr, effField, fieldOf, sliceOf, effIndexAddr, effIndex, effLen, effExtract, effSlice, bnd, effBuild, placesOf, effBuildSlice, effMakeSlice, effAppend, srcOf, fillA, chunk, seg, toD, toDs, put, eqAV, fieldsEq, leafEq, strip, unw, allB, selP_or, selP_and, tis, TyD.agg, AV.cells, AV.cell, allCell, vInt, vBool, vStr, subL_nil, subL_cons, upIds, AV.ids, AV.ids.idsL, AObj.ids, drops, Hp.get_cons, get_nil, retF, resL, one, fz, fz.fzL, List.map_cons, List.map_nil, List.nil_append, List.append_nil, List.cons_append, List.all_cons, List.all_nil, List.length_cons, List.length_nil, List.getElem?_cons_zero, List.getElem?_cons_succ, List.getD_cons_zero, List.getD_cons_succ, List.take_succ_cons, List.take_zero, List.drop_succ_cons, List.drop_zero, List.take_nil, List.drop_nil, List.contains_cons, List.contains_nil, Option.getD_some, Option.getD_none, Option.map_some, Option.map_none, if_true, if_false, true_and, and_true, and_self, or_self, or_false, false_or, false_and, and_false, reduceCtorEq, sel_and, sel_or, decide_eq_true_eq, Bool.and_eq_true, Bool.or_eq_true, Bool.and_true, Bool.true_and, Bool.or_false, Bool.false_or, Bool.true_or, Bool.or_true, Bool.not_true, Bool.not_false, Bool.false_eq_true, implies_true, not_false_eq_true, Nat.reduceLT, Nat.reduceEqDiff, Nat.reduceAdd, Nat.reduceMul, Nat.reduceMod, Nat.reduceLeDiff, Nat.reduceBEq, Nat.zero_add, Nat.add_zero, reduceIte, ↓reduceIte, List.not_mem_nil]
      by_cases h3 : (x : Int) ≥ 32
      · rw [if_pos h3]
        have em : (x : Int).tmod 32 = ((x % 32 : Nat) : Int) := by rw [Int.tmod_eq_emod_of_nonneg (by omega)]; omega
        have eo : bits .or .i64 ((x % 32 : Nat) : Int) 32 = ((x % 32 + 32 : Nat) : Int) := by
          have key : ∀ k : Fin 32, bits .or .i64 ((k.val : Nat) : Int) 32 = ((k.val + 32 : Nat) : Int) := by decide +kernel
          exact key ⟨x % 32, by omega⟩
        have ed : Int.fdiv (x : Int) (2 ^ min (Int.toNat 5) IntKind.i64.bits) = ((x / 32 : Nat) : Int) := by rw [Int.fdiv_eq_ediv_of_nonneg _ (by decide)]; rfl
        rw [em, eo, ed, dig_at (by omega), w64 (n := ((x % 32 + 32 : Nat) : Int) + 1) (by omega) (by omega), letB_size, dig_size (by omega)]
        refine ⟨by decide, by decide, by omega, by omega, by decide, (acc ++ dig (x % 32 + 32), x / 32), by simp only []; omega, ⟨by simp only []; omega, by rw [app_assoc, ← vd_hi (by omega)]; exact h2⟩, Le.of id [] ?_⟩
        simp only [Mt_tup, Mt_agg, Mt_fn, forall_eq, forall_eq_or_imp, ne_eq, List.all_cons, List.all_nil, pr, Nat.reduceLeDiff, slR_nil, slR_cons, hpR_nil, hpR_cells, hpR_row, idsR_nil, idsR_cons, mtE_v, mtE_sl, mtE_nil, mtE_refl, mtE_row, mtE_born, mtE_ptr, mtE_rp, mtE_agg, mtE_tup, mtE_fn, mtE_ep, MtL_nil, MtL_cons, Mt_v, Mt_sl, Mt_nil, Mt_refl, Mt_row, Mt_born, Mt_ptr, MtO_cells, MtO_row, liveIds, distinct, Dat.v.injEq, Dat.sl.injEq, Value.int.injEq, Value.bool.injEq, Value.string.injEq, lk_cons, lk_nil, subL_nil, subL_cons, upIds, AV.ids, AV.ids.idsL, AObj.ids, Hp.get_cons, get_nil, allCell, AV.cell, vInt, vBool, vStr, id, true_and, and_true, and_self, List.append_nil, List.nil_append, List.not_mem_nil, List.mem_cons, or_false, false_or, or_self, not_true_eq_false, not_false_eq_true, false_imp_iff, false_implies, List.map_nil, not_false_eq_true, List.contains_cons, List.contains_nil, Bool.or_false, Bool.false_or, Bool.true_or, Bool.or_true, Bool.and_true, Bool.true_and, implies_true, if_true, if_false, reduceCtorEq, Nat.reduceEqDiff, Nat.reduceBEq, Nat.reduceAdd, reduceIte, ↓reduceIte]
      · rw [if_neg h3, dig_at (by omega), w64 (n := (x : Int) + 1) (by omega) (by omega), letB_size, dig_size (by omega), ← vd_lo (by omega), h2]
        exact ⟨by omega, by omega, Sub.refl _⟩
def F_let : List AV → Option (Prop × AV)
  | [] => some (True, vStr letB)
  | _ => none
theorem let_body : Body Tryd.prog Gam.none (DRun Tryd.prog Gam.none) 15 [] (vStr letB) := by
  refine Body.of Tryd.func15 Tryd.ntmps15 (by kernel_rfl) rfl rfl rfl ?_
  simp only [goTG_val, goTG_new, goTG_up, goTG_none, goG_none, goG_new, goG_up, ne_eq, evK, evH, retHF, DRun_mk, runT_nil, runT_none, runT_guard, goT_val, goT_new, goT_store, goTH_true, goTH_false, evO, keys, Option.toList_some, Option.toList_none, nzL_nil, nzL_cons, nz_k, nz_sl, nz_nil, nz_agg, startL, evC, evV, goE_val, goE_new, goE_store, goH_true, goH_false, goG_val, lk_cons, lk_nil, lk_func, lk_int, lk_bool, lk_string, lk_slice, lk_agg, look_mk, St.effOf, eff, effCall, effBin, effUn, effConv, effPick, effNil, effFold, fold1, effLoad, effStore, effFieldAddr, effField, fieldOf, sliceOf, effIndexAddr, effIndex, effLen, effExtract, effSlice, bnd, effBuild, placesOf, effBuildSlice, effMakeSlice, effAppend, srcOf, fillA, chunk, seg, toD, toDs, put, eqAV, fieldsEq, leafEq, strip, unw, allB, selP_or, selP_and, tis, TyD.agg, AV.cells, AV.cell, allCell, vInt, vBool, vStr, subL_nil, subL_cons, upIds, AV.ids, AV.ids.idsL, AObj.ids, drops, Hp.get_cons, get_nil, retF, resL, one, fz, fz.fzL, List.map_cons, List.map_nil, List.nil_append, List.append_nil, List.cons_append, List.all_cons, List.all_nil, List.length_cons, List.length_nil, List.getElem?_cons_zero, List.getElem?_cons_succ, List.getD_cons_zero, List.getD_cons_succ, List.take_succ_cons, List.take_zero, List.drop_succ_cons, List.drop_zero, List.take_nil, List.drop_nil, List.contains_cons, List.contains_nil, Option.getD_some, Option.getD_none, Option.map_some, Option.map_none, if_true, if_false, true_and, and_true, and_self, or_self, or_false, false_or, false_and, and_false, reduceCtorEq, sel_and, sel_or, decide_eq_true_eq, Bool.and_eq_true, Bool.or_eq_true, Bool.and_true, Bool.true_and, Bool.or_false, Bool.false_or, Bool.true_or, Bool.or_true, Bool.not_true, Bool.not_false, Bool.false_eq_true, implies_true, not_false_eq_true, Nat.reduceLT, Nat.reduceEqDiff, Nat.reduceAdd, Nat.reduceMul, Nat.reduceMod, Nat.reduceLeDiff, Nat.reduceBEq, Nat.zero_add, Nat.add_zero, reduceIte, ↓reduceIte, List.not_mem_nil]
  exact Sub.refl _
theorem let_calm : ∀ args sc res, F_let args = some (sc, res) → sc → Calm Tryd.prog 15 args res := by
  intro args sc res h _
  unfold F_let at h
  split at h <;> cases h
  exact (Known.none _).calm mixed rfl rfl let_body
noncomputable def G_let : Gam := Gam.none.add 15 fun a => F_let (NT.nz.nzL [] a)
theorem G_let_at (h : Nat → Option AObj) (d : Nat) (a : List AV) : G_let 15 h d a = calmE (fun a => F_let (NT.nz.nzL [] a)) h a := rfl
theorem known_let : Known Tryd.prog G_let := (Known.none _).addC _ let_calm
theorem RPut_body2 (s : ByteArray) (n : Int) (hs : s.size ≤ 9000000000000000000) : Body Tryd.prog G_let (DRun Tryd.prog G_let) 11 [.d (.v (.string s)), .d (.v (.int .i64 n))] (vStr (s ++ vq n)) := by
  refine Body.of Tryd.func11 Tryd.ntmps11 (by kernel_rfl) rfl rfl rfl ?_
  simp only [G_let_at, calmE, F_let, AV.flat, AV.flat.flatL, goTG_val, goTG_new, goTG_up, goTG_none, goG_none, goG_new, goG_up, ne_eq, evK, evH, retHF, DRun_mk, runT_nil, runT_none, runT_guard, goT_val, goT_new, goT_store, goTH_true, goTH_false, evO, keys, Option.toList_some, Option.toList_none, nzL_nil, nzL_cons, nz_k, nz_sl, nz_nil, nz_agg, startL, evC, evV, goE_val, goE_new, goE_store, goH_true, goH_false, goG_val, lk_cons, lk_nil, lk_func, lk_int, lk_bool, lk_string, lk_slice, lk_agg, look_mk, St.effOf, eff, effCall, effBin, effUn, effConv, effPick, effNil, effFold, fold1, effLoad, effStore, effFieldAddr, effField, fieldOf, sliceOf, effIndexAddr, effIndex, effLen, effExtract, effSlice, bnd, effBuild, placesOf, effBuildSlice, effMakeSlice, effAppend, srcOf, fillA, chunk, seg, toD, toDs, put, eqAV, fieldsEq, leafEq, strip, unw, allB, selP_or, selP_and, tis, TyD.agg, AV.cells, AV.cell, allCell, vInt, vBool, vStr, subL_nil, subL_cons, upIds, AV.ids, AV.ids.idsL, AObj.ids, drops, Hp.get_cons, get_nil, retF, resL, one, fz, fz.fzL, List.map_cons, List.map_nil, List.nil_append, List.append_nil, List.cons_append, List.all_cons, List.all_nil, List.length_cons, List.length_nil, List.getElem?_cons_zero, List.getElem?_cons_succ, List.getD_cons_zero, List.getD_cons_succ, List.take_succ_cons, List.take_zero, List.drop_succ_cons, List.drop_zero, List.take_nil, List.drop_nil, List.contains_cons, List.contains_nil, Option.getD_some, Option.getD_none, Option.map_some, Option.map_none, if_true, if_false, true_and, and_true, and_self, or_self, or_false, false_or, false_and, and_false, reduceCtorEq, sel_and, sel_or, decide_eq_true_eq, Bool.and_eq_true, Bool.or_eq_true, Bool.and_true, Bool.true_and, Bool.or_false, Bool.false_or, Bool.true_or, Bool.or_true, Bool.not_true, Bool.not_false, Bool.false_eq_true, implies_true, not_false_eq_true, Nat.reduceLT, Nat.reduceEqDiff, Nat.reduceAdd, Nat.reduceMul, Nat.reduceMod, Nat.reduceLeDiff, Nat.reduceBEq, Nat.zero_add, Nat.add_zero, reduceIte, ↓reduceIte, List.not_mem_nil]
  unfold vq
  by_cases c : n < -1099511627776 ∨ n > 1099511627776
  · rw [if_pos c, if_pos c, ba_nil]
  rw [if_neg c, if_neg c]
  have hx := vx_lt c
  have ht := vd_size 8 _ hx
  have start : ∃ x : Nat, x = vx n ∧ (if n < 0 then IntKind.i64.wrap (IntKind.i64.wrap (-2 * n) + 1) else IntKind.i64.wrap (2 * n)) = (x : Int) := by
    refine ⟨vx n, rfl, ?_⟩
    unfold vx
    by_cases h : n < 0
    · rw [if_pos h, if_pos h, w64 (n := -2 * n) (by omega) (by omega), w64 (by omega) (by omega)]; omega
    · rw [if_neg h, if_neg h, w64 (by omega) (by omega)]; omega
  obtain ⟨x0, e0, hst⟩ := start
  rw [← e0] at hx ht ⊢
  by_cases hneg : n < 0
  all_goals
    first | (rw [if_pos hneg] at hst; rw [if_pos hneg]) | (rw [if_neg hneg] at hst; rw [if_neg hneg])
    rw [hst]
    refine wpc_loop (fun q : ByteArray × Nat => ⟨39, [], [(0, vStr q.1), (5, vInt .i64 q.2)], []⟩) (fun q => q.2 < 32 ^ 9 ∧ q.1 ++ vd q.2 = s ++ vd x0) (fun q => q.2) (s, x0) ⟨hx, rfl⟩ ?_ ?_
    · refine Le.of id [] ?_
      simp only [Mt_tup, Mt_agg, Mt_fn, forall_eq, forall_eq_or_imp, ne_eq, List.all_cons, List.all_nil, pr, Nat.reduceLeDiff, slR_nil, slR_cons, hpR_nil, hpR_cells, hpR_row, idsR_nil, idsR_cons, mtE_v, mtE_sl, mtE_nil, mtE_refl, mtE_row, mtE_born, mtE_ptr, mtE_rp, mtE_agg, mtE_tup, mtE_fn, mtE_ep, MtL_nil, MtL_cons, Mt_v, Mt_sl, Mt_nil, Mt_refl, Mt_row, Mt_born, Mt_ptr, MtO_cells, MtO_row, liveIds, distinct, Dat.v.injEq, Dat.sl.injEq, Value.int.injEq, Value.bool.injEq, Value.string.injEq, lk_cons, lk_nil, subL_nil, subL_cons, upIds, AV.ids, AV.ids.idsL, AObj.ids, Hp.get_cons, get_nil, allCell, AV.cell, vInt, vBool, vStr, id, true_and, and_true, and_self, List.append_nil, List.nil_append, List.not_mem_nil, List.mem_cons, or_false, false_or, or_self, not_true_eq_false, not_false_eq_true, false_imp_iff, false_implies, List.map_nil, not_false_eq_true, List.contains_cons, List.contains_nil, Bool.or_false, Bool.false_or, Bool.true_or, Bool.or_true, Bool.and_true, Bool.true_and, implies_true, if_true, if_false, reduceCtorEq, Nat.reduceEqDiff, Nat.reduceBEq, Nat.reduceAdd, reduceIte, ↓reduceIte]
    · rintro ⟨acc, x⟩ ⟨h1, h2⟩
      simp only [] at h1 h2
      have hsz := congrArg ByteArray.size h2
      rw [ByteArray.size_append, ByteArray.size_append] at hsz
      have hx2 := vd_size 8 _ h1
      simp only [G_let_at, calmE, F_let, AV.flat, AV.flat.flatL, goTG_val, goTG_new, goTG_up, goTG_none, goG_none, goG_new, goG_up, ne_eq, evK, evH, retHF, DRun_mk, runT_nil, runT_none, runT_guard, goT_val, goT_new, goT_store, goTH_true, goTH_false, evO, keys, Option.toList_some, Option.toList_none, nzL_nil, nzL_cons, nz_k, nz_sl, nz_nil, nz_agg, startL, evC, evV, goE_val, goE_new, goE_store, goH_true, goH_false, goG_val, lk_cons, lk_nil, lk_func, lk_int, lk_bool, lk_string, lk_slice, lk_agg, look_mk, St.effOf, eff, effCall, effBin, effUn, effConv, effPick, effNil, effFold, fold1, effLoad, effStore, effFieldAddr, effField, fieldOf, sliceOf, effIndexAddr, effIndex, effLen, effExtract, effSlice, bnd, effBuild, placesOf, effBuildSlice, effMakeSlice, effAppend, srcOf, fillA, chunk, seg, toD, toDs, put, eqAV, fieldsEq, leafEq, strip, unw, allB, selP_or, selP_and, tis, TyD.agg, AV.cells, AV.cell, allCell, vInt, vBool, vStr, subL_nil, subL_cons, upIds, AV.ids, AV.ids.idsL, AObj.ids, drops, Hp.get_cons, get_nil, retF, resL, one, fz, fz.fzL, List.map_cons, List.map_nil, List.nil_append, List.append_nil, List.cons_append, List.all_cons, List.all_nil, List.length_cons, List.length_nil, List.getElem?_cons_zero, List.getElem?_cons_succ, List.getD_cons_zero, List.getD_cons_succ, List.take_succ_cons, List.take_zero, List.drop_succ_cons, List.drop_zero, List.take_nil, List.drop_nil, List.contains_cons, List.contains_nil, Option.getD_some, Option.getD_none, Option.map_some, Option.map_none, if_true, if_false, true_and, and_true, and_self, or_self, or_false, false_or, false_and, and_false, reduceCtorEq, sel_and, sel_or, decide_eq_true_eq, Bool.and_eq_true, Bool.or_eq_true, Bool.and_true, Bool.true_and, Bool.or_false, Bool.false_or, Bool.true_or, Bool.or_true, Bool.not_true, Bool.not_false, Bool.false_eq_true, implies_true, not_false_eq_true, Nat.reduceLT, Nat.reduceEqDiff, Nat.reduceAdd, Nat.reduceMul, Nat.reduceMod, Nat.reduceLeDiff, Nat.reduceBEq, Nat.zero_add, Nat.add_zero, reduceIte, ↓reduceIte, List.not_mem_nil]
      have em : bits .and .i64 (x : Int) 31 = ((x % 32 : Nat) : Int) := by rw [and31' (by omega) (by omega)]; omega
      have ed : Int.fdiv (x : Int) (2 ^ min (Int.toNat 5) IntKind.i64.bits) = ((x / 32 : Nat) : Int) := by rw [Int.fdiv_eq_ediv_of_nonneg _ (by decide)]; rfl
      rw [em, ed]
      by_cases h3 : ((x / 32 : Nat) : Int) > 0
      · rw [if_pos h3]
        rw [w64 (n := ((x % 32 : Nat) : Int) + 32) (by omega) (by omega), show ((x % 32 : Nat) : Int) + 32 = ((x % 32 + 32 : Nat) : Int) by omega, dig_at (by omega), w64 (n := ((x % 32 + 32 : Nat) : Int) + 1) (by omega) (by omega), letB_size, dig_size (by omega)]
        rw [if_neg (by simp; omega)]
        refine ⟨by decide, by omega, by omega, (acc ++ dig (x % 32 + 32), x / 32), by simp only []; omega, ⟨by simp only []; omega, by rw [app_assoc, ← vd_hi (by omega)]; exact h2⟩, Le.of id [] ?_⟩
        simp only [Mt_tup, Mt_agg, Mt_fn, forall_eq, forall_eq_or_imp, ne_eq, List.all_cons, List.all_nil, pr, Nat.reduceLeDiff, slR_nil, slR_cons, hpR_nil, hpR_cells, hpR_row, idsR_nil, idsR_cons, mtE_v, mtE_sl, mtE_nil, mtE_refl, mtE_row, mtE_born, mtE_ptr, mtE_rp, mtE_agg, mtE_tup, mtE_fn, mtE_ep, MtL_nil, MtL_cons, Mt_v, Mt_sl, Mt_nil, Mt_refl, Mt_row, Mt_born, Mt_ptr, MtO_cells, MtO_row, liveIds, distinct, Dat.v.injEq, Dat.sl.injEq, Value.int.injEq, Value.bool.injEq, Value.string.injEq, lk_cons, lk_nil, subL_nil, subL_cons, upIds, AV.ids, AV.ids.idsL, AObj.ids, Hp.get_cons, get_nil, allCell, AV.cell, vInt, vBool, vStr, id, true_and, and_true, and_self, List.append_nil, List.nil_append, List.not_mem_nil, List.mem_cons, or_false, false_or, or_self, not_true_eq_false, not_false_eq_true, false_imp_iff, false_implies, List.map_nil, not_false_eq_true, List.contains_cons, List.contains_nil, Bool.or_false, Bool.false_or, Bool.true_or, Bool.or_true, Bool.and_true, Bool.true_and, implies_true, if_true, if_false, reduceCtorEq, Nat.reduceEqDiff, Nat.reduceBEq, Nat.reduceAdd, reduceIte, ↓reduceIte]
      · rw [if_neg h3, dig_at (by omega), w64 (n := ((x % 32 : Nat) : Int) + 1) (by omega) (by omega), letB_size, dig_size (by omega)]
        have hxx : x % 32 = x := by omega
        rw [if_pos (by simp; omega), hxx, ← vd_lo (by omega), h2]
        exact ⟨by decide, by omega, by omega, Sub.refl _⟩
def F_vput : List AV → Option (Prop × AV)
  | [.d (.v (.string s)), .d (.v (.int .i64 n))] => some (s.size ≤ 9000000000000000000, vStr (s ++ vq n))
  | _ => none
theorem vput_calm : ∀ args sc res, F_vput args = some (sc, res) → sc → Calm Tryd.prog 21 args res := by
  intro args sc res h hs
  unfold F_vput at h
  split at h <;> cases h
  exact (Known.none _).calm mixed rfl rfl (Put_body2 _ _ hs)
theorem rvput_calm : ∀ args sc res, F_vput args = some (sc, res) → sc → Calm Tryd.prog 11 args res := by
  intro args sc res h hs
  unfold F_vput at h
  split at h <;> cases h
  exact known_let.calm mixed rfl rfl (RPut_body2 _ _ hs)
end Go.Proofs.YthokfhifahlohaaDoor.Eng
