/- CnameEscapes, on the small machine. -/
import Derived.Test.YtelgddealjbgiaaDoorSCn23
namespace Go.Proofs.YtelgddealjbgiaaDoor.Eng
open Go Go.Proofs.YtelgddealjbgiaaDoor.Base Go.Proofs.YtelgddealjbgiaaDoor.Cinput
set_option maxRecDepth 100000
set_option linter.unusedSimpArgs false
set_option linter.unusedVariables false
theorem and15e {x : Nat} (h : x < 2147483648) : bits BinOp.and IntKind.i64 (x : Int) 15 = ((x % 16 : Nat) : Int) := by
  have := bits_mask .i64 31 (by decide) wraps_i64 4 (by decide) (x : Int) (by omega) (by omega)
  have e : bits BinOp.and IntKind.i64 (x : Int) 15 = (x : Int) % 16 := this
  rw [e]
  omega
theorem encAll_lowE : ∀ l : List Int, (∀ x ∈ l, x < 128) → Utf.encAll l = l
  | [], _ => rfl
  | x :: l, h => by rw [Utf.encAll_cons, Utf.enc, if_pos (h x (List.mem_cons_self ..)), encAll_lowE l fun y hy => h y (List.mem_cons_of_mem _ hy)]; rfl
/-- All that is in such a text. -/
theorem textE {u E : List Int} {r : Int} (hu : ∀ d ∈ u, hexP d) (h1 : 1 ≤ u.length) (h6 : u.length ≤ 6) (hv : valL u = r) (hr : Utf.isCp r ∧ r ≠ 0) (hE : E = [] ∨ ∃ e, E = [e] ∧ blankC e) :
    let T := 92 :: (u ++ (E ++ [40]))
    let R := runes T.length T 0
    Bytes T ∧ R.map Prod.fst = T ∧ okR R ∧ R.length = u.length + E.length + 2 ∧ T.length = u.length + E.length + 2 ∧ takeV R 0 = ([r], ((1 + u.length + E.length : Nat) : Int)) ∧ begP R 0 := by
  intro T R
  have hall : ∀ x ∈ T, 9 ≤ x ∧ x < 128 ∧ x ≠ 12 ∧ x ≠ 13 := fun x hx => by
    rcases List.mem_cons.mp hx with rfl | hx
    · decide
    rcases List.mem_append.mp hx with hx | hx
    · have := hexP_range (hu x hx); omega
    rcases List.mem_append.mp hx with hx | hx
    · rcases hE with rfl | ⟨e, rfl, he⟩
      · cases hx
      · rcases List.mem_singleton.mp hx with rfl
        unfold blankC at he; omega
    · rcases List.mem_singleton.mp hx with rfl; decide
  have hT : Utf.encAll T = T := encAll_lowE T fun x hx => (hall x hx).2.1
  have hm : R.map Prod.fst = T := by
    have := runes_enc T T.length 0 (fun x hx => by have := hall x hx; unfold Utf.isCp; omega) (by rw [hT]; exact Nat.le_refl _)
    rw [hT] at this
    exact this
  obtain ⟨t1, t2, t3⟩ := esc_take hm hu h1 h6 hv hr hE
  refine ⟨fun x hx => by have := hall x hx; omega, hm, fun x hx => ?_, t3, ?_, t1, t2⟩
  · have hx2 : x.1 ∈ T := by rw [← hm]; exact List.mem_map.mpr ⟨x, hx, rfl⟩
    have := hall _ hx2; omega
  · show (92 :: (u ++ (E ++ [40]))).length = _
    simp only [List.length_cons, List.length_append, List.length_nil]; omega
def I1 (r : Int) (q : Nat × List Int) : Prop := (∀ d ∈ q.2, hexP d) ∧ q.2.length ≤ 6 ∧ q.1 < 16 ^ (6 - q.2.length) ∧ valL q.2 + q.1 * 16 ^ q.2.length = r
theorem I1_start {r : Int} {k : Nat} (h : r = k) (hb : r ≤ 1114111) : I1 r (k, []) :=
  ⟨fun d h => (by cases h), Nat.zero_le _, by show k < 16777216; omega, by show valL [] + (k : Int) * 1 = r; simp [valL, h]⟩
theorem I1_next {r : Int} {g : Bool} {x : Nat} {s : List Int} (h : I1 r (x, s)) (hx : x ≠ 0) : s.length < 6 ∧ I1 r (x / 16, dgG g (x % 16) :: s) := by
  obtain ⟨h1, h2, h3, h4⟩ := h
  simp only [] at h1 h2 h3 h4
  have hl : s.length < 6 := by
    refine Nat.lt_of_le_of_ne h2 fun e => ?_
    rw [e] at h3
    simp only [Nat.sub_self, Nat.pow_zero] at h3
    omega
  have hm : x % 16 < 16 := Nat.mod_lt _ (by decide)
  obtain ⟨d1, d2⟩ := dgG_hex g ⟨x % 16, hm⟩
  simp only [] at d1 d2
  refine ⟨hl, fun d hd => ?_, by simp only [List.length_cons]; omega, ?_, ?_⟩
  · rcases List.mem_cons.mp hd with rfl | hd
    · exact d1
    · exact h1 d hd
  · simp only [List.length_cons]
    rw [show 6 - s.length = (6 - (s.length + 1)) + 1 by omega, Nat.pow_succ] at h3
    omega
  · simp only [valL, List.length_cons, d2, Int.pow_succ]
    rw [← h4]
    have e : ((x / 16 : Nat) : Int) * (16 ^ s.length * 16) = (((x / 16 : Nat) : Int) * 16) * 16 ^ s.length := by rw [Int.mul_comm (16 ^ s.length) 16, Int.mul_assoc]
    have e2 : (x : Int) = ((x % 16 : Nat) : Int) + ((x / 16 : Nat) : Int) * 16 := by omega
    have e3 : (x : Int) * 16 ^ s.length = ((x % 16 : Nat) : Int) * 16 ^ s.length + ((x / 16 : Nat) : Int) * 16 * 16 ^ s.length := by rw [← Int.add_mul, ← e2]
    rw [e, e3]
    omega
theorem esc14_body (r z : Int) (g : Bool) (bl : Int) (_ : (Lit.int .i64 r).wf = true) (_ : (Lit.int .i64 z).wf = true) (_ : True) (_ : (Lit.int .i64 bl).wf = true) : Body Tryd.prog G14e (DRun Tryd.prog G14e) 5 [.d (.v (.int .i64 r)), .d (.v (.int .i64 z)), .d (.v (.bool g)), .d (.v (.int .i64 bl))] (vBool true) := by
  refine Body.of Tryd.func5 Tryd.ntmps5 (by kernel_rfl) rfl rfl rfl ?_
  have nz2 : ∀ xs, (NT.s 2).nz (.d (.sl 2 xs)) = .d (.sl 2 xs) := fun xs => rfl
  simp only [G14e_at, calmE, F_alive14, F_pts, F_Runes, F_take, F_beg, AV.flat, AV.flat.flatL, List.length_map, Int.reduceLE, Int.reduceLT, Int.reduceGT, Int.reduceGE, Int.reduceBEq, Int.reduceBNe, Int.reduceEq, Int.reduceToNat, Int.reduceSub, Int.reduceAdd, Int.reduceMul, Int.reducePow, Int.reduceNeg, goTG_val, goTG_new, goTG_up, goTG_none, goG_none, goG_new, goG_up, ne_eq, evK, evH, retHF, DRun_mk, runT_nil, runT_none, runT_guard, goT_val, goT_new, goT_store, goTH_true, goTH_false, evO, keys, Option.toList_some, Option.toList_none, nzL_nil, nzL_cons, nz_k, nz_sl, nz_nil, nz_agg, startL, evC, evV, goE_val, goE_new, goE_store, goH_true, goH_false, goG_val, lk_cons, lk_nil, lk_func, lk_int, lk_bool, lk_string, lk_slice, lk_agg, look_mk, St.effOf, eff, effCall, effBinC, isConst, effBin, effUn, effConv, effPick, effNil, effFold, fold1, effLoad, effStore, effFieldAddr, effField, fieldOf, sliceOf, effIndexAddr, effIndex, effLen, effExtract, effSlice, dats, bnd, effBuild, placesOf, effBuildSlice, effMakeSlice, effAppend, srcOf, fillA, chunk, seg, toD, toDs, put, eqAV, fieldsEq, leafEq, strip, unw, allB, selP_or, selP_and, tis, TyD.agg, AV.cells, AV.cell, allCell, vInt, vBool, vStr, subL_nil, subL_cons, upIds, AV.ids, AV.ids.idsL, AObj.ids, drops, Hp.get_cons, get_nil, retF, resL, one, fz, fz.fzL, List.map_cons, List.map_nil, List.nil_append, List.append_nil, List.cons_append, List.all_cons, List.all_nil, List.length_cons, List.length_nil, List.getElem?_cons_zero, List.getElem?_cons_succ, List.getD_cons_zero, List.getD_cons_succ, List.take_succ_cons, List.take_zero, List.drop_succ_cons, List.drop_zero, List.take_nil, List.drop_nil, List.contains_cons, List.contains_nil, Option.getD_some, Option.getD_none, Option.map_some, Option.map_none, if_true, if_false, true_and, and_true, and_self, or_self, or_false, false_or, false_and, and_false, reduceCtorEq, sel_and, sel_or, decide_eq_true_eq, Bool.and_eq_true, Bool.or_eq_true, Bool.and_true, Bool.true_and, Bool.or_false, Bool.false_or, Bool.true_or, Bool.or_true, Bool.not_true, Bool.not_false, Bool.false_eq_true, implies_true, not_false_eq_true, Nat.reduceLT, Nat.reduceEqDiff, Nat.reduceAdd, Nat.reduceMul, Nat.reduceMod, Nat.reduceLeDiff, Nat.reduceBEq, Nat.zero_add, Nat.add_zero, reduceIte, ↓reduceIte, List.not_mem_nil]
  by_cases c : (((r < 1 ∨ r > 1114111) ∨ r ≥ 55296 ∧ r < 57344) ∨ z < 0) ∨ z > 5
  · rw [if_pos c]
  rw [if_neg c]
  obtain ⟨k0, hk0⟩ := Int.eq_ofNat_of_zero_le (show 0 ≤ r by omega)
  obtain ⟨ga, hga⟩ : ∃ ga, (⟨#[48, 49, 50, 51, 52, 53, 54, 55, 56, 57, 65, 66, 67, 68, 69, 70]⟩ : ByteArray) = hexY ga := ⟨true, rfl⟩
  obtain ⟨gb, hgb⟩ : ∃ gb, (⟨#[48, 49, 50, 51, 52, 53, 54, 55, 56, 57, 97, 98, 99, 100, 101, 102]⟩ : ByteArray) = hexY gb := ⟨false, rfl⟩
  simp only [hga, hgb]
  obtain ⟨kb, hkb, hkk⟩ : ∃ k : Nat, k < 4 ∧ bits .and .i64 bl 3 = (k : Int) := by
    have := and3 bl
    exact ⟨(bits .and .i64 bl 3).toNat, by omega, by omega⟩
  have hE := tabB_at hkb
  have hEi := tabB_is ⟨kb, hkb⟩
  simp only [] at hEi
  generalize tabB.getD kb [] = E at hE hEi
  have hr : Utf.isCp r ∧ r ≠ 0 := by unfold Utf.isCp; omega
  by_cases cg : g = true
  · rw [if_pos cg]
    refine wpc_loop (fun q : Nat × List Int => ⟨116, [], [(0, vInt .i64 r), (1, vInt .i64 z), (3, vInt .i64 bl), (10, vStr (hexY ga)), (11, vStr (strOfNums q.2)), (12, vInt .i64 (q.1 : Int))], []⟩) (I1 r) (fun q => 6 - q.2.length) (k0, []) (I1_start hk0 (by omega)) ?_ ?_
    · refine Le.of id [] ?_
      simp only [Mt_tup, Mt_agg, Mt_fn, forall_eq, forall_eq_or_imp, ne_eq, List.all_cons, List.all_nil, pr, Nat.reduceLeDiff, slR_nil, slR_cons, hpR_nil, hpR_cells, hpR_row, idsR_nil, idsR_cons, mtE_v, mtE_sl, mtE_nil, mtE_refl, mtE_row, mtE_born, mtE_ptr, mtE_rp, mtE_agg, mtE_tup, mtE_fn, mtE_ep, MtL_nil, MtL_cons, Mt_v, Mt_sl, Mt_nil, Mt_refl, Mt_row, Mt_born, Mt_ptr, MtO_cells, MtO_row, liveIds, distinct, Dat.v.injEq, Dat.sl.injEq, Value.int.injEq, Value.bool.injEq, Value.string.injEq, lk_cons, lk_nil, subL_nil, subL_cons, upIds, AV.ids, AV.ids.idsL, AObj.ids, Hp.get_cons, get_nil, allCell, AV.cell, vInt, vBool, vStr, id, true_and, and_true, and_self, List.append_nil, List.nil_append, List.not_mem_nil, List.mem_cons, or_false, false_or, or_self, not_true_eq_false, not_false_eq_true, false_imp_iff, false_implies, List.map_nil, not_false_eq_true, List.contains_cons, List.contains_nil, Bool.or_false, Bool.false_or, Bool.true_or, Bool.or_true, Bool.and_true, Bool.true_and, implies_true, if_true, if_false, reduceCtorEq, Nat.reduceEqDiff, Nat.reduceBEq, Nat.reduceAdd, reduceIte, ↓reduceIte]
      exact ⟨rfl, hk0⟩
    · rintro ⟨x, s⟩ hI
      have hsl := hI.2.1
      have hx6 : x < 16777216 := Nat.lt_of_lt_of_le hI.2.2.1 (by have : 16 ^ (6 - s.length) ≤ 16 ^ 6 := Nat.pow_le_pow_right (by decide) (by omega); simpa using this)
      simp only [] at hsl
      by_cases cx : (x : Int) > 0
      · obtain ⟨hlt, hI2⟩ := I1_next (g := ga) hI (by omega)
        have ha' := and15e (x := x) (by omega)
        have hm : x % 16 < 16 := Nat.mod_lt _ (by decide)
        have w1 : IntKind.i64.wrap (((x % 16 : Nat) : Int) + 1) = ((x % 16 + 1 : Nat) : Int) := by rw [w64 (by omega) (by omega)]; omega
        have hx2 := ext_hexY ga ⟨x % 16, hm⟩
        have hxs : (x : Int).fdiv (2 ^ min 4 IntKind.i64.bits) = ((x / 16 : Nat) : Int) := by
          show (x : Int).fdiv 16 = _
          rw [Int.fdiv_eq_ediv_of_nonneg _ (by omega)]; omega
        simp only [size_hexY, ha', w1, hx2, hxs, Int.toNat_natCast, str_size, ← str_append, G14e_at, calmE, F_alive14, F_pts, F_Runes, F_take, F_beg, AV.flat, AV.flat.flatL, List.length_map, Int.reduceLE, Int.reduceLT, Int.reduceGT, Int.reduceGE, Int.reduceBEq, Int.reduceBNe, Int.reduceEq, Int.reduceToNat, Int.reduceSub, Int.reduceAdd, Int.reduceMul, Int.reducePow, Int.reduceNeg, goTG_val, goTG_new, goTG_up, goTG_none, goG_none, goG_new, goG_up, ne_eq, evK, evH, retHF, DRun_mk, runT_nil, runT_none, runT_guard, goT_val, goT_new, goT_store, goTH_true, goTH_false, evO, keys, Option.toList_some, Option.toList_none, nzL_nil, nzL_cons, nz_k, nz_sl, nz_nil, nz_agg, startL, evC, evV, goE_val, goE_new, goE_store, goH_true, goH_false, goG_val, lk_cons, lk_nil, lk_func, lk_int, lk_bool, lk_string, lk_slice, lk_agg, look_mk, St.effOf, eff, effCall, effBinC, isConst, effBin, effUn, effConv, effPick, effNil, effFold, fold1, effLoad, effStore, effFieldAddr, effField, fieldOf, sliceOf, effIndexAddr, effIndex, effLen, effExtract, effSlice, dats, bnd, effBuild, placesOf, effBuildSlice, effMakeSlice, effAppend, srcOf, fillA, chunk, seg, toD, toDs, put, eqAV, fieldsEq, leafEq, strip, unw, allB, selP_or, selP_and, tis, TyD.agg, AV.cells, AV.cell, allCell, vInt, vBool, vStr, subL_nil, subL_cons, upIds, AV.ids, AV.ids.idsL, AObj.ids, drops, Hp.get_cons, get_nil, retF, resL, one, fz, fz.fzL, List.map_cons, List.map_nil, List.nil_append, List.append_nil, List.cons_append, List.all_cons, List.all_nil, List.length_cons, List.length_nil, List.getElem?_cons_zero, List.getElem?_cons_succ, List.getD_cons_zero, List.getD_cons_succ, List.take_succ_cons, List.take_zero, List.drop_succ_cons, List.drop_zero, List.take_nil, List.drop_nil, List.contains_cons, List.contains_nil, Option.getD_some, Option.getD_none, Option.map_some, Option.map_none, if_true, if_false, true_and, and_true, and_self, or_self, or_false, false_or, false_and, and_false, reduceCtorEq, sel_and, sel_or, decide_eq_true_eq, Bool.and_eq_true, Bool.or_eq_true, Bool.and_true, Bool.true_and, Bool.or_false, Bool.false_or, Bool.true_or, Bool.or_true, Bool.not_true, Bool.not_false, Bool.false_eq_true, implies_true, not_false_eq_true, Nat.reduceLT, Nat.reduceEqDiff, Nat.reduceAdd, Nat.reduceMul, Nat.reduceMod, Nat.reduceLeDiff, Nat.reduceBEq, Nat.zero_add, Nat.add_zero, reduceIte, ↓reduceIte, List.not_mem_nil]
        rw [if_pos cx]
        refine ⟨⟨by omega, by omega, by omega⟩, by omega, (x / 16, dgG ga (x % 16) :: s), by simp only [List.length_cons]; omega, hI2, Le.of id [] ?_⟩
        simp only [Mt_tup, Mt_agg, Mt_fn, forall_eq, forall_eq_or_imp, ne_eq, List.all_cons, List.all_nil, pr, Nat.reduceLeDiff, slR_nil, slR_cons, hpR_nil, hpR_cells, hpR_row, idsR_nil, idsR_cons, mtE_v, mtE_sl, mtE_nil, mtE_refl, mtE_row, mtE_born, mtE_ptr, mtE_rp, mtE_agg, mtE_tup, mtE_fn, mtE_ep, MtL_nil, MtL_cons, Mt_v, Mt_sl, Mt_nil, Mt_refl, Mt_row, Mt_born, Mt_ptr, MtO_cells, MtO_row, liveIds, distinct, Dat.v.injEq, Dat.sl.injEq, Value.int.injEq, Value.bool.injEq, Value.string.injEq, lk_cons, lk_nil, subL_nil, subL_cons, upIds, AV.ids, AV.ids.idsL, AObj.ids, Hp.get_cons, get_nil, allCell, AV.cell, vInt, vBool, vStr, id, true_and, and_true, and_self, List.append_nil, List.nil_append, List.not_mem_nil, List.mem_cons, or_false, false_or, or_self, not_true_eq_false, not_false_eq_true, false_imp_iff, false_implies, List.map_nil, not_false_eq_true, List.contains_cons, List.contains_nil, Bool.or_false, Bool.false_or, Bool.true_or, Bool.or_true, Bool.and_true, Bool.true_and, implies_true, if_true, if_false, reduceCtorEq, Nat.reduceEqDiff, Nat.reduceBEq, Nat.reduceAdd, reduceIte, ↓reduceIte]
        try rfl
      · simp only [G14e_at, calmE, F_alive14, F_pts, F_Runes, F_take, F_beg, AV.flat, AV.flat.flatL, List.length_map, Int.reduceLE, Int.reduceLT, Int.reduceGT, Int.reduceGE, Int.reduceBEq, Int.reduceBNe, Int.reduceEq, Int.reduceToNat, Int.reduceSub, Int.reduceAdd, Int.reduceMul, Int.reducePow, Int.reduceNeg, goTG_val, goTG_new, goTG_up, goTG_none, goG_none, goG_new, goG_up, ne_eq, evK, evH, retHF, DRun_mk, runT_nil, runT_none, runT_guard, goT_val, goT_new, goT_store, goTH_true, goTH_false, evO, keys, Option.toList_some, Option.toList_none, nzL_nil, nzL_cons, nz_k, nz_sl, nz_nil, nz_agg, startL, evC, evV, goE_val, goE_new, goE_store, goH_true, goH_false, goG_val, lk_cons, lk_nil, lk_func, lk_int, lk_bool, lk_string, lk_slice, lk_agg, look_mk, St.effOf, eff, effCall, effBinC, isConst, effBin, effUn, effConv, effPick, effNil, effFold, fold1, effLoad, effStore, effFieldAddr, effField, fieldOf, sliceOf, effIndexAddr, effIndex, effLen, effExtract, effSlice, dats, bnd, effBuild, placesOf, effBuildSlice, effMakeSlice, effAppend, srcOf, fillA, chunk, seg, toD, toDs, put, eqAV, fieldsEq, leafEq, strip, unw, allB, selP_or, selP_and, tis, TyD.agg, AV.cells, AV.cell, allCell, vInt, vBool, vStr, subL_nil, subL_cons, upIds, AV.ids, AV.ids.idsL, AObj.ids, drops, Hp.get_cons, get_nil, retF, resL, one, fz, fz.fzL, List.map_cons, List.map_nil, List.nil_append, List.append_nil, List.cons_append, List.all_cons, List.all_nil, List.length_cons, List.length_nil, List.getElem?_cons_zero, List.getElem?_cons_succ, List.getD_cons_zero, List.getD_cons_succ, List.take_succ_cons, List.take_zero, List.drop_succ_cons, List.drop_zero, List.take_nil, List.drop_nil, List.contains_cons, List.contains_nil, Option.getD_some, Option.getD_none, Option.map_some, Option.map_none, if_true, if_false, true_and, and_true, and_self, or_self, or_false, false_or, false_and, and_false, reduceCtorEq, sel_and, sel_or, decide_eq_true_eq, Bool.and_eq_true, Bool.or_eq_true, Bool.and_true, Bool.true_and, Bool.or_false, Bool.false_or, Bool.true_or, Bool.or_true, Bool.not_true, Bool.not_false, Bool.false_eq_true, implies_true, not_false_eq_true, Nat.reduceLT, Nat.reduceEqDiff, Nat.reduceAdd, Nat.reduceMul, Nat.reduceMod, Nat.reduceLeDiff, Nat.reduceBEq, Nat.zero_add, Nat.add_zero, reduceIte, ↓reduceIte, List.not_mem_nil]
        rw [if_neg cx]
        obtain ⟨h1, h2, h3, h4⟩ := hI
        simp only [] at h1 h2 h3 h4
        obtain rfl : x = 0 := by omega
        have hvs : valL s = r := by rw [← h4]; simp
        have hs1 : 1 ≤ s.length := by
          rcases s with _ | ⟨d, s⟩
          · simp [valL] at hvs; omega
          · simp
        refine wpc_loop (fun q : Nat × List Int => ⟨116, [], [(0, vInt .i64 r), (1, vInt .i64 z), (3, vInt .i64 bl), (11, vStr (strOfNums q.2)), (13, vInt .i64 (q.1 : Int))], []⟩) (fun q => (∀ d ∈ q.2, hexP d) ∧ 1 ≤ q.2.length ∧ q.2.length ≤ 6 ∧ valL q.2 = r ∧ q.1 ≤ 6) (fun q => 6 - q.2.length) (0, s) ⟨h1, hs1, h2, hvs, by simp⟩ ?_ ?_
        · refine Le.of id [] ?_
          simp only [Mt_tup, Mt_agg, Mt_fn, forall_eq, forall_eq_or_imp, ne_eq, List.all_cons, List.all_nil, pr, Nat.reduceLeDiff, slR_nil, slR_cons, hpR_nil, hpR_cells, hpR_row, idsR_nil, idsR_cons, mtE_v, mtE_sl, mtE_nil, mtE_refl, mtE_row, mtE_born, mtE_ptr, mtE_rp, mtE_agg, mtE_tup, mtE_fn, mtE_ep, MtL_nil, MtL_cons, Mt_v, Mt_sl, Mt_nil, Mt_refl, Mt_row, Mt_born, Mt_ptr, MtO_cells, MtO_row, liveIds, distinct, Dat.v.injEq, Dat.sl.injEq, Value.int.injEq, Value.bool.injEq, Value.string.injEq, lk_cons, lk_nil, subL_nil, subL_cons, upIds, AV.ids, AV.ids.idsL, AObj.ids, Hp.get_cons, get_nil, allCell, AV.cell, vInt, vBool, vStr, id, true_and, and_true, and_self, List.append_nil, List.nil_append, List.not_mem_nil, List.mem_cons, or_false, false_or, or_self, not_true_eq_false, not_false_eq_true, false_imp_iff, false_implies, List.map_nil, not_false_eq_true, List.contains_cons, List.contains_nil, Bool.or_false, Bool.false_or, Bool.true_or, Bool.or_true, Bool.and_true, Bool.true_and, implies_true, if_true, if_false, reduceCtorEq, Nat.reduceEqDiff, Nat.reduceBEq, Nat.reduceAdd, reduceIte, ↓reduceIte]
          try rfl
        · rintro ⟨i, u⟩ ⟨u1, u2, u3, u4, u5⟩
          simp only [] at u1 u2 u3 u4 u5
          obtain ⟨bT, mT, oT, nR, nT, tT, gT⟩ := textE u1 u2 u3 u4 hr hEi
          have eT : (⟨#[92]⟩ : ByteArray) ++ strOfNums u ++ strOfNums E ++ ⟨#[40]⟩ = strOfNums (92 :: (u ++ (E ++ [40]))) := by
            rw [show (92 : Int) :: (u ++ (E ++ [40])) = [92] ++ (u ++ (E ++ [40])) from rfl, str_append, str_append, str_append, ByteArray.append_assoc, ByteArray.append_assoc]; rfl
          obtain ⟨T, hT⟩ : ∃ T, 92 :: (u ++ (E ++ [40])) = T := ⟨_, rfl⟩
          rw [hT] at eT bT mT oT nR nT tT gT
          have sT := sB_str bT
          have gT' := eq_true gT
          have ep : sB (strOfNums (puts [r])) = Utf.enc r := by
            rw [show puts [r] = Utf.put r by simp [puts], Utf.put, Utf.fix_of hr.1, sB_str (Utf.enc_bytes hr.1)]
          have e1 := pts_one hr
          generalize hR : runes T.length T 0 = R at mT oT nR tT gT'
          simp only [hkk, hE, eT, sB_rows, sT, num_iD, hR, tT, gT', ep, e1, runesD, rD_runeOf, nz2, intsD, iD, List.map_cons, List.map_nil, List.length_cons, Int.toNat_natCast, str_size, G14e_at, calmE, F_alive14, F_pts, F_Runes, F_take, F_beg, AV.flat, AV.flat.flatL, List.length_map, Int.reduceLE, Int.reduceLT, Int.reduceGT, Int.reduceGE, Int.reduceBEq, Int.reduceBNe, Int.reduceEq, Int.reduceToNat, Int.reduceSub, Int.reduceAdd, Int.reduceMul, Int.reducePow, Int.reduceNeg, goTG_val, goTG_new, goTG_up, goTG_none, goG_none, goG_new, goG_up, ne_eq, evK, evH, retHF, DRun_mk, runT_nil, runT_none, runT_guard, goT_val, goT_new, goT_store, goTH_true, goTH_false, evO, keys, Option.toList_some, Option.toList_none, nzL_nil, nzL_cons, nz_k, nz_sl, nz_nil, nz_agg, startL, evC, evV, goE_val, goE_new, goE_store, goH_true, goH_false, goG_val, lk_cons, lk_nil, lk_func, lk_int, lk_bool, lk_string, lk_slice, lk_agg, look_mk, St.effOf, eff, effCall, effBinC, isConst, effBin, effUn, effConv, effPick, effNil, effFold, fold1, effLoad, effStore, effFieldAddr, effField, fieldOf, sliceOf, effIndexAddr, effIndex, effLen, effExtract, effSlice, dats, bnd, effBuild, placesOf, effBuildSlice, effMakeSlice, effAppend, srcOf, fillA, chunk, seg, toD, toDs, put, eqAV, fieldsEq, leafEq, strip, unw, allB, selP_or, selP_and, tis, TyD.agg, AV.cells, AV.cell, allCell, vInt, vBool, vStr, subL_nil, subL_cons, upIds, AV.ids, AV.ids.idsL, AObj.ids, drops, Hp.get_cons, get_nil, retF, resL, one, fz, fz.fzL, List.map_cons, List.map_nil, List.nil_append, List.append_nil, List.cons_append, List.all_cons, List.all_nil, List.length_cons, List.length_nil, List.getElem?_cons_zero, List.getElem?_cons_succ, List.getD_cons_zero, List.getD_cons_succ, List.take_succ_cons, List.take_zero, List.drop_succ_cons, List.drop_zero, List.take_nil, List.drop_nil, List.contains_cons, List.contains_nil, Option.getD_some, Option.getD_none, Option.map_some, Option.map_none, if_true, if_false, true_and, and_true, and_self, or_self, or_false, false_or, false_and, and_false, reduceCtorEq, sel_and, sel_or, decide_eq_true_eq, Bool.and_eq_true, Bool.or_eq_true, Bool.and_true, Bool.true_and, Bool.or_false, Bool.false_or, Bool.true_or, Bool.or_true, Bool.not_true, Bool.not_false, Bool.false_eq_true, implies_true, not_false_eq_true, Nat.reduceLT, Nat.reduceEqDiff, Nat.reduceAdd, Nat.reduceMul, Nat.reduceMod, Nat.reduceLeDiff, Nat.reduceBEq, Nat.zero_add, Nat.add_zero, reduceIte, ↓reduceIte, List.not_mem_nil]
          by_cases cu : (i : Int) < z ∧ (u.length : Int) < 6
          · rw [if_pos cu]
            have e48 : (⟨#[48]⟩ : ByteArray) ++ strOfNums u = strOfNums (48 :: u) := by rw [show (48 : Int) :: u = [48] ++ u from rfl, str_append]; rfl
            refine ⟨by show ((1 + u.length : Nat) : Int) ≤ _; omega, (i + 1, 48 :: u), by simp only [List.length_cons]; omega, ⟨fun d hd => ?_, by simp, by simp only [List.length_cons]; omega, ?_, by simp only []; omega⟩, Le.of id [] ?_⟩
            · rcases List.mem_cons.mp hd with rfl | hd
              · decide
              · exact u1 d hd
            · show hexV 48 * 16 ^ u.length + valL u = r
              rw [u4, show hexV 48 = 0 by decide]; simp
            · simp only [e48, Mt_tup, Mt_agg, Mt_fn, forall_eq, forall_eq_or_imp, ne_eq, List.all_cons, List.all_nil, pr, Nat.reduceLeDiff, slR_nil, slR_cons, hpR_nil, hpR_cells, hpR_row, idsR_nil, idsR_cons, mtE_v, mtE_sl, mtE_nil, mtE_refl, mtE_row, mtE_born, mtE_ptr, mtE_rp, mtE_agg, mtE_tup, mtE_fn, mtE_ep, MtL_nil, MtL_cons, Mt_v, Mt_sl, Mt_nil, Mt_refl, Mt_row, Mt_born, Mt_ptr, MtO_cells, MtO_row, liveIds, distinct, Dat.v.injEq, Dat.sl.injEq, Value.int.injEq, Value.bool.injEq, Value.string.injEq, lk_cons, lk_nil, subL_nil, subL_cons, upIds, AV.ids, AV.ids.idsL, AObj.ids, Hp.get_cons, get_nil, allCell, AV.cell, vInt, vBool, vStr, id, true_and, and_true, and_self, List.append_nil, List.nil_append, List.not_mem_nil, List.mem_cons, or_false, false_or, or_self, not_true_eq_false, not_false_eq_true, false_imp_iff, false_implies, List.map_nil, not_false_eq_true, List.contains_cons, List.contains_nil, Bool.or_false, Bool.false_or, Bool.true_or, Bool.or_true, Bool.and_true, Bool.true_and, implies_true, if_true, if_false, reduceCtorEq, Nat.reduceEqDiff, Nat.reduceBEq, Nat.reduceAdd, reduceIte, ↓reduceIte]
              rw [w64 (by omega) (by omega)]
              omega
          · rw [if_neg cu]
            have hEl : E.length ≤ 1 := by rcases hEi with rfl | ⟨e, rfl, _⟩ <;> simp
            have hpl : (puts [r]).length ≤ 4 := by rw [show puts [r] = Utf.put r by simp [puts]]; exact put_le r
            have hwR : IntKind.i64.wrap ((R.length : Int) - 1) = ((1 + u.length + E.length : Nat) : Int) := by rw [w64 (by omega) (by omega)]; omega
            refine ⟨⟨by omega, by omega⟩, hkb, by show ((1 + u.length : Nat) : Int) ≤ _; omega, ?_, ?_, ⟨bT, by omega⟩, ⟨by omega, oT⟩, by omega, fun _ => by decide, fun _ => ⟨by omega, oT⟩, Sub.eq ?_⟩
            · rw [ByteArray.size_append, str_size]; show ((1 + u.length + E.length : Nat) : Int) ≤ _; omega
            · rw [ByteArray.size_append, ByteArray.size_append, str_size, str_size]; show ((1 + u.length + E.length + 1 : Nat) : Int) ≤ _; omega
            · rw [hwR, if_pos ⟨⟨by decide, beq_self_eq_true _⟩, beq_self_eq_true _⟩]; simp
  · rw [if_neg cg]
    refine wpc_loop (fun q : Nat × List Int => ⟨116, [], [(0, vInt .i64 r), (1, vInt .i64 z), (3, vInt .i64 bl), (10, vStr (hexY gb)), (11, vStr (strOfNums q.2)), (12, vInt .i64 (q.1 : Int))], []⟩) (I1 r) (fun q => 6 - q.2.length) (k0, []) (I1_start hk0 (by omega)) ?_ ?_
    · refine Le.of id [] ?_
      simp only [Mt_tup, Mt_agg, Mt_fn, forall_eq, forall_eq_or_imp, ne_eq, List.all_cons, List.all_nil, pr, Nat.reduceLeDiff, slR_nil, slR_cons, hpR_nil, hpR_cells, hpR_row, idsR_nil, idsR_cons, mtE_v, mtE_sl, mtE_nil, mtE_refl, mtE_row, mtE_born, mtE_ptr, mtE_rp, mtE_agg, mtE_tup, mtE_fn, mtE_ep, MtL_nil, MtL_cons, Mt_v, Mt_sl, Mt_nil, Mt_refl, Mt_row, Mt_born, Mt_ptr, MtO_cells, MtO_row, liveIds, distinct, Dat.v.injEq, Dat.sl.injEq, Value.int.injEq, Value.bool.injEq, Value.string.injEq, lk_cons, lk_nil, subL_nil, subL_cons, upIds, AV.ids, AV.ids.idsL, AObj.ids, Hp.get_cons, get_nil, allCell, AV.cell, vInt, vBool, vStr, id, true_and, and_true, and_self, List.append_nil, List.nil_append, List.not_mem_nil, List.mem_cons, or_false, false_or, or_self, not_true_eq_false, not_false_eq_true, false_imp_iff, false_implies, List.map_nil, not_false_eq_true, List.contains_cons, List.contains_nil, Bool.or_false, Bool.false_or, Bool.true_or, Bool.or_true, Bool.and_true, Bool.true_and, implies_true, if_true, if_false, reduceCtorEq, Nat.reduceEqDiff, Nat.reduceBEq, Nat.reduceAdd, reduceIte, ↓reduceIte]
      exact ⟨rfl, hk0⟩
    · rintro ⟨x, s⟩ hI
      have hsl := hI.2.1
      have hx6 : x < 16777216 := Nat.lt_of_lt_of_le hI.2.2.1 (by have : 16 ^ (6 - s.length) ≤ 16 ^ 6 := Nat.pow_le_pow_right (by decide) (by omega); simpa using this)
      simp only [] at hsl
      by_cases cx : (x : Int) > 0
      · obtain ⟨hlt, hI2⟩ := I1_next (g := gb) hI (by omega)
        have ha' := and15e (x := x) (by omega)
        have hm : x % 16 < 16 := Nat.mod_lt _ (by decide)
        have w1 : IntKind.i64.wrap (((x % 16 : Nat) : Int) + 1) = ((x % 16 + 1 : Nat) : Int) := by rw [w64 (by omega) (by omega)]; omega
        have hx2 := ext_hexY gb ⟨x % 16, hm⟩
        have hxs : (x : Int).fdiv (2 ^ min 4 IntKind.i64.bits) = ((x / 16 : Nat) : Int) := by
          show (x : Int).fdiv 16 = _
          rw [Int.fdiv_eq_ediv_of_nonneg _ (by omega)]; omega
        simp only [size_hexY, ha', w1, hx2, hxs, Int.toNat_natCast, str_size, ← str_append, G14e_at, calmE, F_alive14, F_pts, F_Runes, F_take, F_beg, AV.flat, AV.flat.flatL, List.length_map, Int.reduceLE, Int.reduceLT, Int.reduceGT, Int.reduceGE, Int.reduceBEq, Int.reduceBNe, Int.reduceEq, Int.reduceToNat, Int.reduceSub, Int.reduceAdd, Int.reduceMul, Int.reducePow, Int.reduceNeg, goTG_val, goTG_new, goTG_up, goTG_none, goG_none, goG_new, goG_up, ne_eq, evK, evH, retHF, DRun_mk, runT_nil, runT_none, runT_guard, goT_val, goT_new, goT_store, goTH_true, goTH_false, evO, keys, Option.toList_some, Option.toList_none, nzL_nil, nzL_cons, nz_k, nz_sl, nz_nil, nz_agg, startL, evC, evV, goE_val, goE_new, goE_store, goH_true, goH_false, goG_val, lk_cons, lk_nil, lk_func, lk_int, lk_bool, lk_string, lk_slice, lk_agg, look_mk, St.effOf, eff, effCall, effBinC, isConst, effBin, effUn, effConv, effPick, effNil, effFold, fold1, effLoad, effStore, effFieldAddr, effField, fieldOf, sliceOf, effIndexAddr, effIndex, effLen, effExtract, effSlice, dats, bnd, effBuild, placesOf, effBuildSlice, effMakeSlice, effAppend, srcOf, fillA, chunk, seg, toD, toDs, put, eqAV, fieldsEq, leafEq, strip, unw, allB, selP_or, selP_and, tis, TyD.agg, AV.cells, AV.cell, allCell, vInt, vBool, vStr, subL_nil, subL_cons, upIds, AV.ids, AV.ids.idsL, AObj.ids, drops, Hp.get_cons, get_nil, retF, resL, one, fz, fz.fzL, List.map_cons, List.map_nil, List.nil_append, List.append_nil, List.cons_append, List.all_cons, List.all_nil, List.length_cons, List.length_nil, List.getElem?_cons_zero, List.getElem?_cons_succ, List.getD_cons_zero, List.getD_cons_succ, List.take_succ_cons, List.take_zero, List.drop_succ_cons, List.drop_zero, List.take_nil, List.drop_nil, List.contains_cons, List.contains_nil, Option.getD_some, Option.getD_none, Option.map_some, Option.map_none, if_true, if_false, true_and, and_true, and_self, or_self, or_false, false_or, false_and, and_false, reduceCtorEq, sel_and, sel_or, decide_eq_true_eq, Bool.and_eq_true, Bool.or_eq_true, Bool.and_true, Bool.true_and, Bool.or_false, Bool.false_or, Bool.true_or, Bool.or_true, Bool.not_true, Bool.not_false, Bool.false_eq_true, implies_true, not_false_eq_true, Nat.reduceLT, Nat.reduceEqDiff, Nat.reduceAdd, Nat.reduceMul, Nat.reduceMod, Nat.reduceLeDiff, Nat.reduceBEq, Nat.zero_add, Nat.add_zero, reduceIte, ↓reduceIte, List.not_mem_nil]
        rw [if_pos cx]
        refine ⟨⟨by omega, by omega, by omega⟩, by omega, (x / 16, dgG gb (x % 16) :: s), by simp only [List.length_cons]; omega, hI2, Le.of id [] ?_⟩
        simp only [Mt_tup, Mt_agg, Mt_fn, forall_eq, forall_eq_or_imp, ne_eq, List.all_cons, List.all_nil, pr, Nat.reduceLeDiff, slR_nil, slR_cons, hpR_nil, hpR_cells, hpR_row, idsR_nil, idsR_cons, mtE_v, mtE_sl, mtE_nil, mtE_refl, mtE_row, mtE_born, mtE_ptr, mtE_rp, mtE_agg, mtE_tup, mtE_fn, mtE_ep, MtL_nil, MtL_cons, Mt_v, Mt_sl, Mt_nil, Mt_refl, Mt_row, Mt_born, Mt_ptr, MtO_cells, MtO_row, liveIds, distinct, Dat.v.injEq, Dat.sl.injEq, Value.int.injEq, Value.bool.injEq, Value.string.injEq, lk_cons, lk_nil, subL_nil, subL_cons, upIds, AV.ids, AV.ids.idsL, AObj.ids, Hp.get_cons, get_nil, allCell, AV.cell, vInt, vBool, vStr, id, true_and, and_true, and_self, List.append_nil, List.nil_append, List.not_mem_nil, List.mem_cons, or_false, false_or, or_self, not_true_eq_false, not_false_eq_true, false_imp_iff, false_implies, List.map_nil, not_false_eq_true, List.contains_cons, List.contains_nil, Bool.or_false, Bool.false_or, Bool.true_or, Bool.or_true, Bool.and_true, Bool.true_and, implies_true, if_true, if_false, reduceCtorEq, Nat.reduceEqDiff, Nat.reduceBEq, Nat.reduceAdd, reduceIte, ↓reduceIte]
        try rfl
      · simp only [G14e_at, calmE, F_alive14, F_pts, F_Runes, F_take, F_beg, AV.flat, AV.flat.flatL, List.length_map, Int.reduceLE, Int.reduceLT, Int.reduceGT, Int.reduceGE, Int.reduceBEq, Int.reduceBNe, Int.reduceEq, Int.reduceToNat, Int.reduceSub, Int.reduceAdd, Int.reduceMul, Int.reducePow, Int.reduceNeg, goTG_val, goTG_new, goTG_up, goTG_none, goG_none, goG_new, goG_up, ne_eq, evK, evH, retHF, DRun_mk, runT_nil, runT_none, runT_guard, goT_val, goT_new, goT_store, goTH_true, goTH_false, evO, keys, Option.toList_some, Option.toList_none, nzL_nil, nzL_cons, nz_k, nz_sl, nz_nil, nz_agg, startL, evC, evV, goE_val, goE_new, goE_store, goH_true, goH_false, goG_val, lk_cons, lk_nil, lk_func, lk_int, lk_bool, lk_string, lk_slice, lk_agg, look_mk, St.effOf, eff, effCall, effBinC, isConst, effBin, effUn, effConv, effPick, effNil, effFold, fold1, effLoad, effStore, effFieldAddr, effField, fieldOf, sliceOf, effIndexAddr, effIndex, effLen, effExtract, effSlice, dats, bnd, effBuild, placesOf, effBuildSlice, effMakeSlice, effAppend, srcOf, fillA, chunk, seg, toD, toDs, put, eqAV, fieldsEq, leafEq, strip, unw, allB, selP_or, selP_and, tis, TyD.agg, AV.cells, AV.cell, allCell, vInt, vBool, vStr, subL_nil, subL_cons, upIds, AV.ids, AV.ids.idsL, AObj.ids, drops, Hp.get_cons, get_nil, retF, resL, one, fz, fz.fzL, List.map_cons, List.map_nil, List.nil_append, List.append_nil, List.cons_append, List.all_cons, List.all_nil, List.length_cons, List.length_nil, List.getElem?_cons_zero, List.getElem?_cons_succ, List.getD_cons_zero, List.getD_cons_succ, List.take_succ_cons, List.take_zero, List.drop_succ_cons, List.drop_zero, List.take_nil, List.drop_nil, List.contains_cons, List.contains_nil, Option.getD_some, Option.getD_none, Option.map_some, Option.map_none, if_true, if_false, true_and, and_true, and_self, or_self, or_false, false_or, false_and, and_false, reduceCtorEq, sel_and, sel_or, decide_eq_true_eq, Bool.and_eq_true, Bool.or_eq_true, Bool.and_true, Bool.true_and, Bool.or_false, Bool.false_or, Bool.true_or, Bool.or_true, Bool.not_true, Bool.not_false, Bool.false_eq_true, implies_true, not_false_eq_true, Nat.reduceLT, Nat.reduceEqDiff, Nat.reduceAdd, Nat.reduceMul, Nat.reduceMod, Nat.reduceLeDiff, Nat.reduceBEq, Nat.zero_add, Nat.add_zero, reduceIte, ↓reduceIte, List.not_mem_nil]
        rw [if_neg cx]
        obtain ⟨h1, h2, h3, h4⟩ := hI
        simp only [] at h1 h2 h3 h4
        obtain rfl : x = 0 := by omega
        have hvs : valL s = r := by rw [← h4]; simp
        have hs1 : 1 ≤ s.length := by
          rcases s with _ | ⟨d, s⟩
          · simp [valL] at hvs; omega
          · simp
        refine wpc_loop (fun q : Nat × List Int => ⟨116, [], [(0, vInt .i64 r), (1, vInt .i64 z), (3, vInt .i64 bl), (11, vStr (strOfNums q.2)), (13, vInt .i64 (q.1 : Int))], []⟩) (fun q => (∀ d ∈ q.2, hexP d) ∧ 1 ≤ q.2.length ∧ q.2.length ≤ 6 ∧ valL q.2 = r ∧ q.1 ≤ 6) (fun q => 6 - q.2.length) (0, s) ⟨h1, hs1, h2, hvs, by simp⟩ ?_ ?_
        · refine Le.of id [] ?_
          simp only [Mt_tup, Mt_agg, Mt_fn, forall_eq, forall_eq_or_imp, ne_eq, List.all_cons, List.all_nil, pr, Nat.reduceLeDiff, slR_nil, slR_cons, hpR_nil, hpR_cells, hpR_row, idsR_nil, idsR_cons, mtE_v, mtE_sl, mtE_nil, mtE_refl, mtE_row, mtE_born, mtE_ptr, mtE_rp, mtE_agg, mtE_tup, mtE_fn, mtE_ep, MtL_nil, MtL_cons, Mt_v, Mt_sl, Mt_nil, Mt_refl, Mt_row, Mt_born, Mt_ptr, MtO_cells, MtO_row, liveIds, distinct, Dat.v.injEq, Dat.sl.injEq, Value.int.injEq, Value.bool.injEq, Value.string.injEq, lk_cons, lk_nil, subL_nil, subL_cons, upIds, AV.ids, AV.ids.idsL, AObj.ids, Hp.get_cons, get_nil, allCell, AV.cell, vInt, vBool, vStr, id, true_and, and_true, and_self, List.append_nil, List.nil_append, List.not_mem_nil, List.mem_cons, or_false, false_or, or_self, not_true_eq_false, not_false_eq_true, false_imp_iff, false_implies, List.map_nil, not_false_eq_true, List.contains_cons, List.contains_nil, Bool.or_false, Bool.false_or, Bool.true_or, Bool.or_true, Bool.and_true, Bool.true_and, implies_true, if_true, if_false, reduceCtorEq, Nat.reduceEqDiff, Nat.reduceBEq, Nat.reduceAdd, reduceIte, ↓reduceIte]
          try rfl
        · rintro ⟨i, u⟩ ⟨u1, u2, u3, u4, u5⟩
          simp only [] at u1 u2 u3 u4 u5
          obtain ⟨bT, mT, oT, nR, nT, tT, gT⟩ := textE u1 u2 u3 u4 hr hEi
          have eT : (⟨#[92]⟩ : ByteArray) ++ strOfNums u ++ strOfNums E ++ ⟨#[40]⟩ = strOfNums (92 :: (u ++ (E ++ [40]))) := by
            rw [show (92 : Int) :: (u ++ (E ++ [40])) = [92] ++ (u ++ (E ++ [40])) from rfl, str_append, str_append, str_append, ByteArray.append_assoc, ByteArray.append_assoc]; rfl
          obtain ⟨T, hT⟩ : ∃ T, 92 :: (u ++ (E ++ [40])) = T := ⟨_, rfl⟩
          rw [hT] at eT bT mT oT nR nT tT gT
          have sT := sB_str bT
          have gT' := eq_true gT
          have ep : sB (strOfNums (puts [r])) = Utf.enc r := by
            rw [show puts [r] = Utf.put r by simp [puts], Utf.put, Utf.fix_of hr.1, sB_str (Utf.enc_bytes hr.1)]
          have e1 := pts_one hr
          generalize hR : runes T.length T 0 = R at mT oT nR tT gT'
          simp only [hkk, hE, eT, sB_rows, sT, num_iD, hR, tT, gT', ep, e1, runesD, rD_runeOf, nz2, intsD, iD, List.map_cons, List.map_nil, List.length_cons, Int.toNat_natCast, str_size, G14e_at, calmE, F_alive14, F_pts, F_Runes, F_take, F_beg, AV.flat, AV.flat.flatL, List.length_map, Int.reduceLE, Int.reduceLT, Int.reduceGT, Int.reduceGE, Int.reduceBEq, Int.reduceBNe, Int.reduceEq, Int.reduceToNat, Int.reduceSub, Int.reduceAdd, Int.reduceMul, Int.reducePow, Int.reduceNeg, goTG_val, goTG_new, goTG_up, goTG_none, goG_none, goG_new, goG_up, ne_eq, evK, evH, retHF, DRun_mk, runT_nil, runT_none, runT_guard, goT_val, goT_new, goT_store, goTH_true, goTH_false, evO, keys, Option.toList_some, Option.toList_none, nzL_nil, nzL_cons, nz_k, nz_sl, nz_nil, nz_agg, startL, evC, evV, goE_val, goE_new, goE_store, goH_true, goH_false, goG_val, lk_cons, lk_nil, lk_func, lk_int, lk_bool, lk_string, lk_slice, lk_agg, look_mk, St.effOf, eff, effCall, effBinC, isConst, effBin, effUn, effConv, effPick, effNil, effFold, fold1, effLoad, effStore, effFieldAddr, effField, fieldOf, sliceOf, effIndexAddr, effIndex, effLen, effExtract, effSlice, dats, bnd, effBuild, placesOf, effBuildSlice, effMakeSlice, effAppend, srcOf, fillA, chunk, seg, toD, toDs, put, eqAV, fieldsEq, leafEq, strip, unw, allB, selP_or, selP_and, tis, TyD.agg, AV.cells, AV.cell, allCell, vInt, vBool, vStr, subL_nil, subL_cons, upIds, AV.ids, AV.ids.idsL, AObj.ids, drops, Hp.get_cons, get_nil, retF, resL, one, fz, fz.fzL, List.map_cons, List.map_nil, List.nil_append, List.append_nil, List.cons_append, List.all_cons, List.all_nil, List.length_cons, List.length_nil, List.getElem?_cons_zero, List.getElem?_cons_succ, List.getD_cons_zero, List.getD_cons_succ, List.take_succ_cons, List.take_zero, List.drop_succ_cons, List.drop_zero, List.take_nil, List.drop_nil, List.contains_cons, List.contains_nil, Option.getD_some, Option.getD_none, Option.map_some, Option.map_none, if_true, if_false, true_and, and_true, and_self, or_self, or_false, false_or, false_and, and_false, reduceCtorEq, sel_and, sel_or, decide_eq_true_eq, Bool.and_eq_true, Bool.or_eq_true, Bool.and_true, Bool.true_and, Bool.or_false, Bool.false_or, Bool.true_or, Bool.or_true, Bool.not_true, Bool.not_false, Bool.false_eq_true, implies_true, not_false_eq_true, Nat.reduceLT, Nat.reduceEqDiff, Nat.reduceAdd, Nat.reduceMul, Nat.reduceMod, Nat.reduceLeDiff, Nat.reduceBEq, Nat.zero_add, Nat.add_zero, reduceIte, ↓reduceIte, List.not_mem_nil]
          by_cases cu : (i : Int) < z ∧ (u.length : Int) < 6
          · rw [if_pos cu]
            have e48 : (⟨#[48]⟩ : ByteArray) ++ strOfNums u = strOfNums (48 :: u) := by rw [show (48 : Int) :: u = [48] ++ u from rfl, str_append]; rfl
            refine ⟨by show ((1 + u.length : Nat) : Int) ≤ _; omega, (i + 1, 48 :: u), by simp only [List.length_cons]; omega, ⟨fun d hd => ?_, by simp, by simp only [List.length_cons]; omega, ?_, by simp only []; omega⟩, Le.of id [] ?_⟩
            · rcases List.mem_cons.mp hd with rfl | hd
              · decide
              · exact u1 d hd
            · show hexV 48 * 16 ^ u.length + valL u = r
              rw [u4, show hexV 48 = 0 by decide]; simp
            · simp only [e48, Mt_tup, Mt_agg, Mt_fn, forall_eq, forall_eq_or_imp, ne_eq, List.all_cons, List.all_nil, pr, Nat.reduceLeDiff, slR_nil, slR_cons, hpR_nil, hpR_cells, hpR_row, idsR_nil, idsR_cons, mtE_v, mtE_sl, mtE_nil, mtE_refl, mtE_row, mtE_born, mtE_ptr, mtE_rp, mtE_agg, mtE_tup, mtE_fn, mtE_ep, MtL_nil, MtL_cons, Mt_v, Mt_sl, Mt_nil, Mt_refl, Mt_row, Mt_born, Mt_ptr, MtO_cells, MtO_row, liveIds, distinct, Dat.v.injEq, Dat.sl.injEq, Value.int.injEq, Value.bool.injEq, Value.string.injEq, lk_cons, lk_nil, subL_nil, subL_cons, upIds, AV.ids, AV.ids.idsL, AObj.ids, Hp.get_cons, get_nil, allCell, AV.cell, vInt, vBool, vStr, id, true_and, and_true, and_self, List.append_nil, List.nil_append, List.not_mem_nil, List.mem_cons, or_false, false_or, or_self, not_true_eq_false, not_false_eq_true, false_imp_iff, false_implies, List.map_nil, not_false_eq_true, List.contains_cons, List.contains_nil, Bool.or_false, Bool.false_or, Bool.true_or, Bool.or_true, Bool.and_true, Bool.true_and, implies_true, if_true, if_false, reduceCtorEq, Nat.reduceEqDiff, Nat.reduceBEq, Nat.reduceAdd, reduceIte, ↓reduceIte]
              rw [w64 (by omega) (by omega)]
              omega
          · rw [if_neg cu]
            have hEl : E.length ≤ 1 := by rcases hEi with rfl | ⟨e, rfl, _⟩ <;> simp
            have hpl : (puts [r]).length ≤ 4 := by rw [show puts [r] = Utf.put r by simp [puts]]; exact put_le r
            have hwR : IntKind.i64.wrap ((R.length : Int) - 1) = ((1 + u.length + E.length : Nat) : Int) := by rw [w64 (by omega) (by omega)]; omega
            refine ⟨⟨by omega, by omega⟩, hkb, by show ((1 + u.length : Nat) : Int) ≤ _; omega, ?_, ?_, ⟨bT, by omega⟩, ⟨by omega, oT⟩, by omega, fun _ => by decide, fun _ => ⟨by omega, oT⟩, Sub.eq ?_⟩
            · rw [ByteArray.size_append, str_size]; show ((1 + u.length + E.length : Nat) : Int) ≤ _; omega
            · rw [ByteArray.size_append, ByteArray.size_append, str_size, str_size]; show ((1 + u.length + E.length + 1 : Nat) : Int) ≤ _; omega
            · rw [hwR, if_pos ⟨⟨by decide, beq_self_eq_true _⟩, beq_self_eq_true _⟩]; simp
end Go.Proofs.YtelgddealjbgiaaDoor.Eng
