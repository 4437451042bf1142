/- Mappings, read, on the small machine. -/
import Derived.Test.YthokfhifahlohaaDoorSSgm
import Derived.Test.YthokfhifahlohaaDoorSFew
namespace Go.Proofs.YthokfhifahlohaaDoor.Eng
open Go Go.Proofs.YthokfhifahlohaaDoor.Base
set_option maxRecDepth 100000
set_option linter.unusedSimpArgs false
set_option linter.unusedVariables false
/-- What is read of a text. -/
noncomputable def readT (s : ByteArray) : List Sg × Bool :=
  match readP s with
  | some l => if okS l l.length ∧ mapT l = s then (l, true) else ([], false)
  | none => ([], false)
noncomputable def readA (s : ByteArray) : AV := .tup [.d (sgsD (readT s).1), vBool (readT s).2]
noncomputable def G_mp : Gam := ((Gam.none.add 12 fun a => F_split (NT.nz.nzL [] a)).add 13 fun a => F_segm (NT.nz.nzL [] a)).add 14 fun a => F_map (NT.nz.nzL [.s 4] a)
theorem known_mp : Known Tryd.prog G_mp := (((Known.none _).addC _ split_calm).addC _ segm_calm).addC _ map_calm
theorem G_mp_at : (∀ h d a, G_mp 12 h d a = calmE (fun a => F_split (NT.nz.nzL [] a)) h a) ∧ (∀ h d a, G_mp 13 h d a = calmE (fun a => F_segm (NT.nz.nzL [] a)) h a) ∧ (∀ h d a, G_mp 14 h d a = calmE (fun a => F_map (NT.nz.nzL [.s 4] a)) h a) := ⟨fun _ _ _ => rfl, fun _ _ _ => rfl, fun _ _ _ => rfl⟩
def T_mp (s : ByteArray) (R : List (List UInt8)) (i : Nat) (p : Sg) (out : List Sg) : St := ⟨62, [105, 100], [(0, vStr s), (4, .row 100 out.length), (5, .ptr 105 0), (15, .d (.sl 1 (R.map strD))), (16, vInt .i64 R.length), (17, vInt .i64 i)], [(105, some (.cells 35 ((sgD p).map .d))), (100, some (.row 35 4 (out.map sgD)))]⟩
structure I_mp (s : ByteArray) (R : List (List UInt8)) (q : Nat × Sg × List Sg) : Prop where
  i : q.1 ≤ R.length
  c : mostN q.2.1.c
  d : mostN q.2.1.d
  n : q.2.2.length + sumS (R.drop q.1) ≤ s.size + 1
  e : allP q.1 (R.drop q.1) q.2.1 q.2.2 = allP 0 R ⟨0, 0, 0, 0⟩ []
def T_mi (s : ByteArray) (R X : List (List UInt8)) (i j : Nat) (p : Sg) (out : List Sg) : St := ⟨62, [105, 100], [(0, vStr s), (4, .row 100 out.length), (5, .ptr 105 0), (15, .d (.sl 1 (R.map strD))), (16, vInt .i64 R.length), (17, vInt .i64 i), (28, .d (.sl 1 (X.map strD))), (29, vInt .i64 X.length), (30, vInt .i64 j)], [(105, some (.cells 35 ((sgD p).map .d))), (100, some (.row 35 4 (out.map sgD)))]⟩
structure I_mi (s : ByteArray) (R X : List (List UInt8)) (i : Nat) (q : Nat × Sg × List Sg) (N : Option (Sg × List Sg)) : Prop where
  j : q.1 ≤ X.length
  b : mostN q.2.1.b
  c : mostN q.2.1.c
  d : mostN q.2.1.d
  n : q.2.2.length + (X.length - q.1) + sumS (R.drop (i + 1)) ≤ s.size + 1
  e : rowP (X.drop q.1) q.2.1 q.2.2 = N
theorem subN : Sub (AV.tup [AV.d (Dat.v (Value.slice none 0 0)), AV.d (Dat.v (Value.bool false))]) (AV.tup [AV.d (sgsD []), vBool false]) := Sub.tup ⟨.inr ⟨rfl, 4, rfl⟩, .inl rfl, trivial⟩
set_option maxHeartbeats 1000000 in
theorem Maps_body (s : ByteArray) (hs : s.size ≤ 900000) : Body Tryd.prog G_mp (DRun Tryd.prog G_mp) 8 [vStr s] (readA s) := by
  refine Body.of Tryd.func8 Tryd.ntmps8 (by kernel_rfl) rfl rfl rfl ?_
  have h59 : (⟨#[59]⟩ : ByteArray).data.toList.headD 0 = 59 := rfl
  have h44 : (⟨#[44]⟩ : ByteArray).data.toList.headD 0 = 44 := rfl
  simp only [h59, h44, G_mp_at, calmE, F_split, F_segm, F_map, AV.flat, AV.flat.flatL, List.length_map, List.map_cons, List.map_nil, goTG_val, goTG_new, goTG_up, goTG_none, goG_none, goG_new, goG_up, ne_eq, evK, evH, retHF, DRun_mk, runT_nil, runT_none, runT_guard, goT_val, goT_new, goT_store, goTH_true, goTH_false, evO, keys, Option.toList_some, Option.toList_none, nzL_nil, nzL_cons, nz_k, nz_sl, nz_nil, nz_agg, startL, evC, evV, goE_val, goE_new, goE_store, goH_true, goH_false, goG_val, lk_cons, lk_nil, lk_func, lk_int, lk_bool, lk_string, lk_slice, lk_agg, look_mk, St.effOf, eff, effCall, effBin, effUn, effConv, effPick, effNil, effFold, fold1, effLoad, effStore, effFieldAddr, effField, fieldOf, sliceOf, effIndexAddr, effIndex, effLen, effExtract, effSlice, bnd, effBuild, placesOf, effBuildSlice, effMakeSlice, effAppend, srcOf, fillA, chunk, seg, toD, toDs, put, eqAV, fieldsEq, leafEq, strip, unw, allB, selP_or, selP_and, tis, TyD.agg, AV.cells, AV.cell, allCell, vInt, vBool, vStr, subL_nil, subL_cons, upIds, AV.ids, AV.ids.idsL, AObj.ids, drops, Hp.get_cons, get_nil, retF, resL, one, fz, fz.fzL, List.map_cons, List.map_nil, List.nil_append, List.append_nil, List.cons_append, List.all_cons, List.all_nil, List.length_cons, List.length_nil, List.getElem?_cons_zero, List.getElem?_cons_succ, List.getD_cons_zero, List.getD_cons_succ, List.take_succ_cons, List.take_zero, List.drop_succ_cons, List.drop_zero, List.take_nil, List.drop_nil, List.contains_cons, List.contains_nil, Option.getD_some, Option.getD_none, Option.map_some, Option.map_none, if_true, if_false, true_and, and_true, and_self, or_self, or_false, false_or, false_and, and_false, reduceCtorEq, sel_and, sel_or, decide_eq_true_eq, Bool.and_eq_true, Bool.or_eq_true, Bool.and_true, Bool.true_and, Bool.or_false, Bool.false_or, Bool.true_or, Bool.or_true, Bool.not_true, Bool.not_false, Bool.false_eq_true, implies_true, not_false_eq_true, Nat.reduceLT, Nat.reduceEqDiff, Nat.reduceAdd, Nat.reduceMul, Nat.reduceMod, Nat.reduceLeDiff, Nat.reduceBEq, Nat.zero_add, Nat.add_zero, reduceIte, ↓reduceIte, List.not_mem_nil]
  have hsum := splitU_sum 59 s.data.toList
  rw [size_toList] at hsum
  have hrp : readP s = (allP 0 (splitU 59 s.data.toList) ⟨0, 0, 0, 0⟩ []).map (·.2) := rfl
  refine ⟨⟨rfl, by omega⟩, ?_⟩
  generalize splitU 59 s.data.toList = R at hsum hrp ⊢
  have hRl := sumS_len R
  have hempty : readP s = none → Sub (AV.tup [AV.d (Dat.v (Value.slice none 0 0)), AV.d (Dat.v (Value.bool false))]) (readA s) := fun h => by
    have e : readT s = ([], false) := by rw [readT, h]
    rw [readA, e]
    exact subN
  refine wpc_loop (fun q : Nat × Sg × List Sg => T_mp s R q.1 q.2.1 q.2.2) (I_mp s R) (fun q => R.length - q.1) (0, ⟨0, 0, 0, 0⟩, []) ⟨Nat.zero_le _, ⟨by decide, by decide⟩, ⟨by decide, by decide⟩, by simp only [List.length_nil, List.drop_zero]; omega, rfl⟩ ?_ ?_
  · refine Le.of (fun o => if o = 105 then 5 else o) [100] ?_
    simp only [T_mp, sgD, List.map_cons, List.map_nil, List.length_nil, List.length_map, Mt_tup, Mt_agg, Mt_fn, forall_eq, forall_eq_or_imp, ne_eq, List.all_cons, List.all_nil, pr, Nat.reduceLeDiff, slR_nil, slR_cons, hpR_nil, hpR_cells, hpR_row, idsR_nil, idsR_cons, mtE_v, mtE_sl, mtE_nil, mtE_refl, mtE_row, mtE_born, mtE_ptr, mtE_rp, mtE_agg, mtE_tup, mtE_fn, mtE_ep, MtL_nil, MtL_cons, Mt_v, Mt_sl, Mt_nil, Mt_refl, Mt_row, Mt_born, Mt_ptr, MtO_cells, MtO_row, liveIds, distinct, Dat.v.injEq, Dat.sl.injEq, Value.int.injEq, Value.bool.injEq, Value.string.injEq, lk_cons, lk_nil, subL_nil, subL_cons, upIds, AV.ids, AV.ids.idsL, AObj.ids, Hp.get_cons, get_nil, allCell, AV.cell, vInt, vBool, vStr, id, true_and, and_true, and_self, List.append_nil, List.nil_append, List.not_mem_nil, List.mem_cons, or_false, false_or, or_self, not_true_eq_false, not_false_eq_true, false_imp_iff, false_implies, List.map_nil, not_false_eq_true, List.contains_cons, List.contains_nil, Bool.or_false, Bool.false_or, Bool.true_or, Bool.or_true, Bool.and_true, Bool.true_and, implies_true, if_true, if_false, reduceCtorEq, Nat.reduceEqDiff, Nat.reduceBEq, Nat.reduceAdd, reduceIte, ↓reduceIte]
    exact ⟨rfl, rfl⟩
  · rintro ⟨i, p, out⟩ ⟨hi, hc, hd, hn, he⟩
    simp only [] at hi hc hd hn he
    simp only [T_mp, h59, h44, sgD, G_mp_at, calmE, F_split, F_segm, F_map, AV.flat, AV.flat.flatL, List.length_map, List.map_cons, List.map_nil, goTG_val, goTG_new, goTG_up, goTG_none, goG_none, goG_new, goG_up, ne_eq, evK, evH, retHF, DRun_mk, runT_nil, runT_none, runT_guard, goT_val, goT_new, goT_store, goTH_true, goTH_false, evO, keys, Option.toList_some, Option.toList_none, nzL_nil, nzL_cons, nz_k, nz_sl, nz_nil, nz_agg, startL, evC, evV, goE_val, goE_new, goE_store, goH_true, goH_false, goG_val, lk_cons, lk_nil, lk_func, lk_int, lk_bool, lk_string, lk_slice, lk_agg, look_mk, St.effOf, eff, effCall, effBin, effUn, effConv, effPick, effNil, effFold, fold1, effLoad, effStore, effFieldAddr, effField, fieldOf, sliceOf, effIndexAddr, effIndex, effLen, effExtract, effSlice, bnd, effBuild, placesOf, effBuildSlice, effMakeSlice, effAppend, srcOf, fillA, chunk, seg, toD, toDs, put, eqAV, fieldsEq, leafEq, strip, unw, allB, selP_or, selP_and, tis, TyD.agg, AV.cells, AV.cell, allCell, vInt, vBool, vStr, subL_nil, subL_cons, upIds, AV.ids, AV.ids.idsL, AObj.ids, drops, Hp.get_cons, get_nil, retF, resL, one, fz, fz.fzL, List.map_cons, List.map_nil, List.nil_append, List.append_nil, List.cons_append, List.all_cons, List.all_nil, List.length_cons, List.length_nil, List.getElem?_cons_zero, List.getElem?_cons_succ, List.getD_cons_zero, List.getD_cons_succ, List.take_succ_cons, List.take_zero, List.drop_succ_cons, List.drop_zero, List.take_nil, List.drop_nil, List.contains_cons, List.contains_nil, Option.getD_some, Option.getD_none, Option.map_some, Option.map_none, if_true, if_false, true_and, and_true, and_self, or_self, or_false, false_or, false_and, and_false, reduceCtorEq, sel_and, sel_or, decide_eq_true_eq, Bool.and_eq_true, Bool.or_eq_true, Bool.and_true, Bool.true_and, Bool.or_false, Bool.false_or, Bool.true_or, Bool.or_true, Bool.not_true, Bool.not_false, Bool.false_eq_true, implies_true, not_false_eq_true, Nat.reduceLT, Nat.reduceEqDiff, Nat.reduceAdd, Nat.reduceMul, Nat.reduceMod, Nat.reduceLeDiff, Nat.reduceBEq, Nat.zero_add, Nat.add_zero, reduceIte, ↓reduceIte, List.not_mem_nil]
    by_cases hi2 : (i : Int) < R.length
    · rw [if_pos hi2]
      obtain ⟨r, hr⟩ : ∃ r, R[i]? = some r := ⟨_, List.getElem?_eq_getElem (by omega)⟩
      have hg : ∀ z, (R.map strD).getD (i : Int).toNat z = strD r := getD_map hr
      rw [drop_at hr, sumS] at hn
      rw [drop_at hr, allP] at he
      simp only [hg, strD, h59, h44, sgD, G_mp_at, calmE, F_split, F_segm, F_map, AV.flat, AV.flat.flatL, List.length_map, List.map_cons, List.map_nil, goTG_val, goTG_new, goTG_up, goTG_none, goG_none, goG_new, goG_up, ne_eq, evK, evH, retHF, DRun_mk, runT_nil, runT_none, runT_guard, goT_val, goT_new, goT_store, goTH_true, goTH_false, evO, keys, Option.toList_some, Option.toList_none, nzL_nil, nzL_cons, nz_k, nz_sl, nz_nil, nz_agg, startL, evC, evV, goE_val, goE_new, goE_store, goH_true, goH_false, goG_val, lk_cons, lk_nil, lk_func, lk_int, lk_bool, lk_string, lk_slice, lk_agg, look_mk, St.effOf, eff, effCall, effBin, effUn, effConv, effPick, effNil, effFold, fold1, effLoad, effStore, effFieldAddr, effField, fieldOf, sliceOf, effIndexAddr, effIndex, effLen, effExtract, effSlice, bnd, effBuild, placesOf, effBuildSlice, effMakeSlice, effAppend, srcOf, fillA, chunk, seg, toD, toDs, put, eqAV, fieldsEq, leafEq, strip, unw, allB, selP_or, selP_and, tis, TyD.agg, AV.cells, AV.cell, allCell, vInt, vBool, vStr, subL_nil, subL_cons, upIds, AV.ids, AV.ids.idsL, AObj.ids, drops, Hp.get_cons, get_nil, retF, resL, one, fz, fz.fzL, List.map_cons, List.map_nil, List.nil_append, List.append_nil, List.cons_append, List.all_cons, List.all_nil, List.length_cons, List.length_nil, List.getElem?_cons_zero, List.getElem?_cons_succ, List.getD_cons_zero, List.getD_cons_succ, List.take_succ_cons, List.take_zero, List.drop_succ_cons, List.drop_zero, List.take_nil, List.drop_nil, List.contains_cons, List.contains_nil, Option.getD_some, Option.getD_none, Option.map_some, Option.map_none, if_true, if_false, true_and, and_true, and_self, or_self, or_false, false_or, false_and, and_false, reduceCtorEq, sel_and, sel_or, decide_eq_true_eq, Bool.and_eq_true, Bool.or_eq_true, Bool.and_true, Bool.true_and, Bool.or_false, Bool.false_or, Bool.true_or, Bool.or_true, Bool.not_true, Bool.not_false, Bool.false_eq_true, implies_true, not_false_eq_true, Nat.reduceLT, Nat.reduceEqDiff, Nat.reduceAdd, Nat.reduceMul, Nat.reduceMod, Nat.reduceLeDiff, Nat.reduceBEq, Nat.zero_add, Nat.add_zero, reduceIte, ↓reduceIte, List.not_mem_nil]
      refine ⟨by omega, ?_⟩
      have hra : (⟨r.toArray⟩ : ByteArray).toList = r := by rw [ByteArray.toList_eq]
      have hra0 : (⟨#[]⟩ : ByteArray).toList = [] := by rw [ByteArray.toList_eq]
      rw [hra, hra0]
      by_cases hr0 : r = []
      · rw [if_pos (by rw [hr0]; rfl)]
        rw [if_pos hr0] at he
        refine ⟨(i + 1, ⟨i, 0, p.c, p.d⟩, out), by simp only []; omega, ⟨by simp only []; omega, hc, hd, by simp only []; omega, he⟩, Le.of id [] ?_⟩
        simp only [T_mp, sgD, List.map_cons, List.map_nil, List.length_map, Mt_tup, Mt_agg, Mt_fn, forall_eq, forall_eq_or_imp, ne_eq, List.all_cons, List.all_nil, pr, Nat.reduceLeDiff, slR_nil, slR_cons, hpR_nil, hpR_cells, hpR_row, idsR_nil, idsR_cons, mtE_v, mtE_sl, mtE_nil, mtE_refl, mtE_row, mtE_born, mtE_ptr, mtE_rp, mtE_agg, mtE_tup, mtE_fn, mtE_ep, MtL_nil, MtL_cons, Mt_v, Mt_sl, Mt_nil, Mt_refl, Mt_row, Mt_born, Mt_ptr, MtO_cells, MtO_row, liveIds, distinct, Dat.v.injEq, Dat.sl.injEq, Value.int.injEq, Value.bool.injEq, Value.string.injEq, lk_cons, lk_nil, subL_nil, subL_cons, upIds, AV.ids, AV.ids.idsL, AObj.ids, Hp.get_cons, get_nil, allCell, AV.cell, vInt, vBool, vStr, id, true_and, and_true, and_self, List.append_nil, List.nil_append, List.not_mem_nil, List.mem_cons, or_false, false_or, or_self, not_true_eq_false, not_false_eq_true, false_imp_iff, false_implies, List.map_nil, not_false_eq_true, List.contains_cons, List.contains_nil, Bool.or_false, Bool.false_or, Bool.true_or, Bool.or_true, Bool.and_true, Bool.true_and, implies_true, if_true, if_false, reduceCtorEq, Nat.reduceEqDiff, Nat.reduceBEq, Nat.reduceAdd, reduceIte, ↓reduceIte]
        exact ⟨w64 (by omega) (by omega), rfl⟩
      · rw [if_neg (fun h => hr0 (beq_iff_eq.1 h))]
        rw [if_neg hr0] at he
        refine ⟨⟨rfl, by rw [ba_size]; omega⟩, ?_⟩
        have hXn := splitU_sum 44 r
        have hXl := sumS_len (splitU 44 r)
        have hXs : ∀ x ∈ splitU 44 r, x.length ≤ r.length := by
          have : ∀ (l : List (List UInt8)) (x : List UInt8), x ∈ l → x.length + 1 ≤ sumS l := by
            intro l
            induction l with
            | nil => intro x h; cases h
            | cons y l ih =>
              intro x h
              rcases List.mem_cons.mp h with rfl | h
              · simp only [sumS]; omega
              · have := ih x h; simp only [sumS]; omega
          intro x hx
          have := this _ x hx
          omega
        generalize splitU 44 r = X at he hXn hXl hXs ⊢
        generalize hN : rowP X ⟨i, 0, p.c, p.d⟩ out = N at he
        refine wpc_loop (fun q : Nat × Sg × List Sg => T_mi s R X i q.1 q.2.1 q.2.2) (fun q => I_mi s R X i q N) (fun q => X.length - q.1) (0, ⟨i, 0, p.c, p.d⟩, out) ⟨Nat.zero_le _, ⟨Int.le_refl _, by show (0 : Int) ≤ 1073741824; decide⟩, hc, hd, by simp only []; omega, hN⟩ ?_ ?_
        · refine Le.of id [] ?_
          simp only [T_mi, sgD, List.map_cons, List.map_nil, List.length_map, Mt_tup, Mt_agg, Mt_fn, forall_eq, forall_eq_or_imp, ne_eq, List.all_cons, List.all_nil, pr, Nat.reduceLeDiff, slR_nil, slR_cons, hpR_nil, hpR_cells, hpR_row, idsR_nil, idsR_cons, mtE_v, mtE_sl, mtE_nil, mtE_refl, mtE_row, mtE_born, mtE_ptr, mtE_rp, mtE_agg, mtE_tup, mtE_fn, mtE_ep, MtL_nil, MtL_cons, Mt_v, Mt_sl, Mt_nil, Mt_refl, Mt_row, Mt_born, Mt_ptr, MtO_cells, MtO_row, liveIds, distinct, Dat.v.injEq, Dat.sl.injEq, Value.int.injEq, Value.bool.injEq, Value.string.injEq, lk_cons, lk_nil, subL_nil, subL_cons, upIds, AV.ids, AV.ids.idsL, AObj.ids, Hp.get_cons, get_nil, allCell, AV.cell, vInt, vBool, vStr, id, true_and, and_true, and_self, List.append_nil, List.nil_append, List.not_mem_nil, List.mem_cons, or_false, false_or, or_self, not_true_eq_false, not_false_eq_true, false_imp_iff, false_implies, List.map_nil, not_false_eq_true, List.contains_cons, List.contains_nil, Bool.or_false, Bool.false_or, Bool.true_or, Bool.or_true, Bool.and_true, Bool.true_and, implies_true, if_true, if_false, reduceCtorEq, Nat.reduceEqDiff, Nat.reduceBEq, Nat.reduceAdd, reduceIte, ↓reduceIte]
          exact ⟨rfl, rfl⟩
        · rintro ⟨j, p, out⟩ ⟨jj, jb, jc, jd, jn, je⟩
          simp only [] at jj jb jc jd jn je
          simp only [T_mi, h59, h44, sgD, G_mp_at, calmE, F_split, F_segm, F_map, AV.flat, AV.flat.flatL, List.length_map, List.map_cons, List.map_nil, goTG_val, goTG_new, goTG_up, goTG_none, goG_none, goG_new, goG_up, ne_eq, evK, evH, retHF, DRun_mk, runT_nil, runT_none, runT_guard, goT_val, goT_new, goT_store, goTH_true, goTH_false, evO, keys, Option.toList_some, Option.toList_none, nzL_nil, nzL_cons, nz_k, nz_sl, nz_nil, nz_agg, startL, evC, evV, goE_val, goE_new, goE_store, goH_true, goH_false, goG_val, lk_cons, lk_nil, lk_func, lk_int, lk_bool, lk_string, lk_slice, lk_agg, look_mk, St.effOf, eff, effCall, effBin, effUn, effConv, effPick, effNil, effFold, fold1, effLoad, effStore, effFieldAddr, effField, fieldOf, sliceOf, effIndexAddr, effIndex, effLen, effExtract, effSlice, bnd, effBuild, placesOf, effBuildSlice, effMakeSlice, effAppend, srcOf, fillA, chunk, seg, toD, toDs, put, eqAV, fieldsEq, leafEq, strip, unw, allB, selP_or, selP_and, tis, TyD.agg, AV.cells, AV.cell, allCell, vInt, vBool, vStr, subL_nil, subL_cons, upIds, AV.ids, AV.ids.idsL, AObj.ids, drops, Hp.get_cons, get_nil, retF, resL, one, fz, fz.fzL, List.map_cons, List.map_nil, List.nil_append, List.append_nil, List.cons_append, List.all_cons, List.all_nil, List.length_cons, List.length_nil, List.getElem?_cons_zero, List.getElem?_cons_succ, List.getD_cons_zero, List.getD_cons_succ, List.take_succ_cons, List.take_zero, List.drop_succ_cons, List.drop_zero, List.take_nil, List.drop_nil, List.contains_cons, List.contains_nil, Option.getD_some, Option.getD_none, Option.map_some, Option.map_none, if_true, if_false, true_and, and_true, and_self, or_self, or_false, false_or, false_and, and_false, reduceCtorEq, sel_and, sel_or, decide_eq_true_eq, Bool.and_eq_true, Bool.or_eq_true, Bool.and_true, Bool.true_and, Bool.or_false, Bool.false_or, Bool.true_or, Bool.or_true, Bool.not_true, Bool.not_false, Bool.false_eq_true, implies_true, not_false_eq_true, Nat.reduceLT, Nat.reduceEqDiff, Nat.reduceAdd, Nat.reduceMul, Nat.reduceMod, Nat.reduceLeDiff, Nat.reduceBEq, Nat.zero_add, Nat.add_zero, reduceIte, ↓reduceIte, List.not_mem_nil]
          by_cases hj2 : (j : Int) < X.length
          · rw [if_pos hj2]
            obtain ⟨x, hx⟩ : ∃ x, X[j]? = some x := ⟨_, List.getElem?_eq_getElem (by omega)⟩
            have hgx : ∀ z, (X.map strD).getD (j : Int).toNat z = strD x := getD_map hx
            have hxl := hXs x (List.mem_of_getElem? hx)
            rw [drop_at hx, rowP] at je
            have hsm := segV_most (s := ⟨x.toArray⟩) (p := p)
            have hsz : (⟨x.toArray⟩ : ByteArray).size ≤ 1000000000 := by rw [ba_size]; omega
            simp only [hgx, strD, h59, h44, sgD, G_mp_at, calmE, F_split, F_segm, F_map, AV.flat, AV.flat.flatL, List.length_map, List.map_cons, List.map_nil, goTG_val, goTG_new, goTG_up, goTG_none, goG_none, goG_new, goG_up, ne_eq, evK, evH, retHF, DRun_mk, runT_nil, runT_none, runT_guard, goT_val, goT_new, goT_store, goTH_true, goTH_false, evO, keys, Option.toList_some, Option.toList_none, nzL_nil, nzL_cons, nz_k, nz_sl, nz_nil, nz_agg, startL, evC, evV, goE_val, goE_new, goE_store, goH_true, goH_false, goG_val, lk_cons, lk_nil, lk_func, lk_int, lk_bool, lk_string, lk_slice, lk_agg, look_mk, St.effOf, eff, effCall, effBin, effUn, effConv, effPick, effNil, effFold, fold1, effLoad, effStore, effFieldAddr, effField, fieldOf, sliceOf, effIndexAddr, effIndex, effLen, effExtract, effSlice, bnd, effBuild, placesOf, effBuildSlice, effMakeSlice, effAppend, srcOf, fillA, chunk, seg, toD, toDs, put, eqAV, fieldsEq, leafEq, strip, unw, allB, selP_or, selP_and, tis, TyD.agg, AV.cells, AV.cell, allCell, vInt, vBool, vStr, subL_nil, subL_cons, upIds, AV.ids, AV.ids.idsL, AObj.ids, drops, Hp.get_cons, get_nil, retF, resL, one, fz, fz.fzL, List.map_cons, List.map_nil, List.nil_append, List.append_nil, List.cons_append, List.all_cons, List.all_nil, List.length_cons, List.length_nil, List.getElem?_cons_zero, List.getElem?_cons_succ, List.getD_cons_zero, List.getD_cons_succ, List.take_succ_cons, List.take_zero, List.drop_succ_cons, List.drop_zero, List.take_nil, List.drop_nil, List.contains_cons, List.contains_nil, Option.getD_some, Option.getD_none, Option.map_some, Option.map_none, if_true, if_false, true_and, and_true, and_self, or_self, or_false, false_or, false_and, and_false, reduceCtorEq, sel_and, sel_or, decide_eq_true_eq, Bool.and_eq_true, Bool.or_eq_true, Bool.and_true, Bool.true_and, Bool.or_false, Bool.false_or, Bool.true_or, Bool.or_true, Bool.not_true, Bool.not_false, Bool.false_eq_true, implies_true, not_false_eq_true, Nat.reduceLT, Nat.reduceEqDiff, Nat.reduceAdd, Nat.reduceMul, Nat.reduceMod, Nat.reduceLeDiff, Nat.reduceBEq, Nat.zero_add, Nat.add_zero, reduceIte, ↓reduceIte, List.not_mem_nil]
            have hpe : (⟨p.a, p.b, p.c, p.d⟩ : Sg) = p := rfl
            rw [hpe]
            refine ⟨by omega, ⟨hsz, jb, jc, jd⟩, ?_⟩
            cases hok : (segV ⟨x.toArray⟩ p).2 with
            | false =>
              rw [if_pos (by rfl)]
              rw [hok, if_neg (by decide)] at je
              subst je
              refine hempty ?_
              rw [hrp, ← he]; rfl
            | true =>
              rw [if_neg (by decide)]
              rw [hok, if_pos rfl] at je
              obtain ⟨m1, m2, m3, m4⟩ := hsm hok
              refine ⟨by omega, (j + 1, (segV ⟨x.toArray⟩ p).1, out ++ [(segV ⟨x.toArray⟩ p).1]), by simp only []; omega, ⟨by simp only []; omega, m1, m2, m3, by simp only [List.length_append, List.length_cons, List.length_nil]; omega, je⟩, Le.of (fun o => if o = 100 then 46 else o) [] ?_⟩
              simp only [T_mi, sgD, List.map_append, List.map_cons, List.map_nil, List.length_append, List.length_map, List.length_cons, List.length_nil, Mt_tup, Mt_agg, Mt_fn, forall_eq, forall_eq_or_imp, ne_eq, List.all_cons, List.all_nil, pr, Nat.reduceLeDiff, slR_nil, slR_cons, hpR_nil, hpR_cells, hpR_row, idsR_nil, idsR_cons, mtE_v, mtE_sl, mtE_nil, mtE_refl, mtE_row, mtE_born, mtE_ptr, mtE_rp, mtE_agg, mtE_tup, mtE_fn, mtE_ep, MtL_nil, MtL_cons, Mt_v, Mt_sl, Mt_nil, Mt_refl, Mt_row, Mt_born, Mt_ptr, MtO_cells, MtO_row, liveIds, distinct, Dat.v.injEq, Dat.sl.injEq, Value.int.injEq, Value.bool.injEq, Value.string.injEq, lk_cons, lk_nil, subL_nil, subL_cons, upIds, AV.ids, AV.ids.idsL, AObj.ids, Hp.get_cons, get_nil, allCell, AV.cell, vInt, vBool, vStr, id, true_and, and_true, and_self, List.append_nil, List.nil_append, List.not_mem_nil, List.mem_cons, or_false, false_or, or_self, not_true_eq_false, not_false_eq_true, false_imp_iff, false_implies, List.map_nil, not_false_eq_true, List.contains_cons, List.contains_nil, Bool.or_false, Bool.false_or, Bool.true_or, Bool.or_true, Bool.and_true, Bool.true_and, implies_true, if_true, if_false, reduceCtorEq, Nat.reduceEqDiff, Nat.reduceBEq, Nat.reduceAdd, reduceIte, ↓reduceIte]
              exact ⟨w64 (by omega) (by omega), rfl⟩
          · rw [if_neg hj2]
            have hjX : j = X.length := by omega
            rw [List.drop_eq_nil_of_le (by omega), rowP] at je
            subst je
            simp only [] at he
            refine ⟨(i + 1, p, out), by simp only []; omega, ⟨by simp only []; omega, jc, jd, by simp only []; omega, he⟩, Le.of id [] ?_⟩
            simp only [T_mp, sgD, List.map_cons, List.map_nil, List.length_map, Mt_tup, Mt_agg, Mt_fn, forall_eq, forall_eq_or_imp, ne_eq, List.all_cons, List.all_nil, pr, Nat.reduceLeDiff, slR_nil, slR_cons, hpR_nil, hpR_cells, hpR_row, idsR_nil, idsR_cons, mtE_v, mtE_sl, mtE_nil, mtE_refl, mtE_row, mtE_born, mtE_ptr, mtE_rp, mtE_agg, mtE_tup, mtE_fn, mtE_ep, MtL_nil, MtL_cons, Mt_v, Mt_sl, Mt_nil, Mt_refl, Mt_row, Mt_born, Mt_ptr, MtO_cells, MtO_row, liveIds, distinct, Dat.v.injEq, Dat.sl.injEq, Value.int.injEq, Value.bool.injEq, Value.string.injEq, lk_cons, lk_nil, subL_nil, subL_cons, upIds, AV.ids, AV.ids.idsL, AObj.ids, Hp.get_cons, get_nil, allCell, AV.cell, vInt, vBool, vStr, id, true_and, and_true, and_self, List.append_nil, List.nil_append, List.not_mem_nil, List.mem_cons, or_false, false_or, or_self, not_true_eq_false, not_false_eq_true, false_imp_iff, false_implies, List.map_nil, not_false_eq_true, List.contains_cons, List.contains_nil, Bool.or_false, Bool.false_or, Bool.true_or, Bool.or_true, Bool.and_true, Bool.true_and, implies_true, if_true, if_false, reduceCtorEq, Nat.reduceEqDiff, Nat.reduceBEq, Nat.reduceAdd, reduceIte, ↓reduceIte]
            exact ⟨w64 (by omega) (by omega), rfl⟩
    · rw [if_neg hi2]
      rw [List.drop_eq_nil_of_le (by omega), allP] at he
      have hrr : readP s = some out := by rw [hrp, ← he]; rfl
      have hso : (out.map sgD).map sgOf = out := sgOf_map out
      by_cases hok : okS out out.length
      · have hm := mapS_yes hok
        simp only [hso, hm, T_mp, h59, h44, sgD, G_mp_at, calmE, F_split, F_segm, F_map, AV.flat, AV.flat.flatL, List.length_map, List.map_cons, List.map_nil, goTG_val, goTG_new, goTG_up, goTG_none, goG_none, goG_new, goG_up, ne_eq, evK, evH, retHF, DRun_mk, runT_nil, runT_none, runT_guard, goT_val, goT_new, goT_store, goTH_true, goTH_false, evO, keys, Option.toList_some, Option.toList_none, nzL_nil, nzL_cons, nz_k, nz_sl, nz_nil, nz_agg, startL, evC, evV, goE_val, goE_new, goE_store, goH_true, goH_false, goG_val, lk_cons, lk_nil, lk_func, lk_int, lk_bool, lk_string, lk_slice, lk_agg, look_mk, St.effOf, eff, effCall, effBin, effUn, effConv, effPick, effNil, effFold, fold1, effLoad, effStore, effFieldAddr, effField, fieldOf, sliceOf, effIndexAddr, effIndex, effLen, effExtract, effSlice, bnd, effBuild, placesOf, effBuildSlice, effMakeSlice, effAppend, srcOf, fillA, chunk, seg, toD, toDs, put, eqAV, fieldsEq, leafEq, strip, unw, allB, selP_or, selP_and, tis, TyD.agg, AV.cells, AV.cell, allCell, vInt, vBool, vStr, subL_nil, subL_cons, upIds, AV.ids, AV.ids.idsL, AObj.ids, drops, Hp.get_cons, get_nil, retF, resL, one, fz, fz.fzL, List.map_cons, List.map_nil, List.nil_append, List.append_nil, List.cons_append, List.all_cons, List.all_nil, List.length_cons, List.length_nil, List.getElem?_cons_zero, List.getElem?_cons_succ, List.getD_cons_zero, List.getD_cons_succ, List.take_succ_cons, List.take_zero, List.drop_succ_cons, List.drop_zero, List.take_nil, List.drop_nil, List.contains_cons, List.contains_nil, Option.getD_some, Option.getD_none, Option.map_some, Option.map_none, if_true, if_false, true_and, and_true, and_self, or_self, or_false, false_or, false_and, and_false, reduceCtorEq, sel_and, sel_or, decide_eq_true_eq, Bool.and_eq_true, Bool.or_eq_true, Bool.and_true, Bool.true_and, Bool.or_false, Bool.false_or, Bool.true_or, Bool.or_true, Bool.not_true, Bool.not_false, Bool.false_eq_true, implies_true, not_false_eq_true, Nat.reduceLT, Nat.reduceEqDiff, Nat.reduceAdd, Nat.reduceMul, Nat.reduceMod, Nat.reduceLeDiff, Nat.reduceBEq, Nat.zero_add, Nat.add_zero, reduceIte, ↓reduceIte, List.not_mem_nil]
        refine ⟨by omega, ?_⟩
        by_cases hq : mapT out = s
        · have e : readT s = (out, true) := by rw [readT, hrr]; exact if_pos ⟨hok, hq⟩
          rw [if_neg (by rw [hq]; simp), readA, e]
          exact Sub.refl _
        · have e : readT s = ([], false) := by rw [readT, hrr]; exact if_neg (fun h => hq h.2)
          rw [if_pos (by rw [Bool.not_eq_true']; exact Bool.eq_false_iff.2 (fun h => hq ((bs_iff _ _).1 h))), readA, e]
          exact subN
      · have hm := mapS_no hok
        simp only [hso, hm, T_mp, h59, h44, sgD, G_mp_at, calmE, F_split, F_segm, F_map, AV.flat, AV.flat.flatL, List.length_map, List.map_cons, List.map_nil, goTG_val, goTG_new, goTG_up, goTG_none, goG_none, goG_new, goG_up, ne_eq, evK, evH, retHF, DRun_mk, runT_nil, runT_none, runT_guard, goT_val, goT_new, goT_store, goTH_true, goTH_false, evO, keys, Option.toList_some, Option.toList_none, nzL_nil, nzL_cons, nz_k, nz_sl, nz_nil, nz_agg, startL, evC, evV, goE_val, goE_new, goE_store, goH_true, goH_false, goG_val, lk_cons, lk_nil, lk_func, lk_int, lk_bool, lk_string, lk_slice, lk_agg, look_mk, St.effOf, eff, effCall, effBin, effUn, effConv, effPick, effNil, effFold, fold1, effLoad, effStore, effFieldAddr, effField, fieldOf, sliceOf, effIndexAddr, effIndex, effLen, effExtract, effSlice, bnd, effBuild, placesOf, effBuildSlice, effMakeSlice, effAppend, srcOf, fillA, chunk, seg, toD, toDs, put, eqAV, fieldsEq, leafEq, strip, unw, allB, selP_or, selP_and, tis, TyD.agg, AV.cells, AV.cell, allCell, vInt, vBool, vStr, subL_nil, subL_cons, upIds, AV.ids, AV.ids.idsL, AObj.ids, drops, Hp.get_cons, get_nil, retF, resL, one, fz, fz.fzL, List.map_cons, List.map_nil, List.nil_append, List.append_nil, List.cons_append, List.all_cons, List.all_nil, List.length_cons, List.length_nil, List.getElem?_cons_zero, List.getElem?_cons_succ, List.getD_cons_zero, List.getD_cons_succ, List.take_succ_cons, List.take_zero, List.drop_succ_cons, List.drop_zero, List.take_nil, List.drop_nil, List.contains_cons, List.contains_nil, Option.getD_some, Option.getD_none, Option.map_some, Option.map_none, if_true, if_false, true_and, and_true, and_self, or_self, or_false, false_or, false_and, and_false, reduceCtorEq, sel_and, sel_or, decide_eq_true_eq, Bool.and_eq_true, Bool.or_eq_true, Bool.and_true, Bool.true_and, Bool.or_false, Bool.false_or, Bool.true_or, Bool.or_true, Bool.not_true, Bool.not_false, Bool.false_eq_true, implies_true, not_false_eq_true, Nat.reduceLT, Nat.reduceEqDiff, Nat.reduceAdd, Nat.reduceMul, Nat.reduceMod, Nat.reduceLeDiff, Nat.reduceBEq, Nat.zero_add, Nat.add_zero, reduceIte, ↓reduceIte, List.not_mem_nil]
        refine ⟨by omega, ?_⟩
        have e : readT s = ([], false) := by rw [readT, hrr]; exact if_neg (fun h => hok h.1)
        rw [readA, e]
        exact subN
noncomputable def F_maps : List AV → Option (Prop × AV)
  | [.d (.v (.string s))] => some (s.size ≤ 900000, readA s)
  | _ => none
theorem maps_calm : ∀ args sc res, F_maps args = some (sc, res) → sc → Calm Tryd.prog 8 args res := by
  intro args sc res h hs
  unfold F_maps at h
  split at h <;> cases h
  exact known_mp.calm mixed rfl rfl (Maps_body _ hs)
end Go.Proofs.YthokfhifahlohaaDoor.Eng
