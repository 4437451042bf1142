/- PiecesRise, on the small machine. -/
import Derived.Test.YtngjpmeenoohmaaSPcl
namespace Go.Proofs.Ytngjpmeenoohmaa.Eng
open Go Go.Proofs.Ytngjpmeenoohmaa.Base Go.Proofs.Ytngjpmeenoohmaa.Lines
set_option maxRecDepth 100000
set_option linter.unusedSimpArgs false
set_option linter.unusedVariables false
/-- The words, as code points. -/
def wordC : Nat → List Int
  | 0 => [97]
  | 1 => [98, 99]
  | 2 => [10]
  | 3 => [233]
  | 4 => [120, 10]
  | 5 => [128512]
  | _ => [32]
def wordB : Nat → ByteArray
  | 0 => ⟨#[97]⟩
  | 1 => ⟨#[98, 99]⟩
  | 2 => ⟨#[10]⟩
  | 3 => ⟨#[195, 169]⟩
  | 4 => ⟨#[120, 10]⟩
  | 5 => ⟨#[240, 159, 152, 128]⟩
  | _ => ⟨#[32]⟩
def wordI (t : Int) : Nat := ((bits .and .i64 t 1023).tmod 7).toNat
theorem and1023 (t : Int) : 0 ≤ bits .and .i64 t 1023 := by
  have h : (BitVec.ofInt 64 t &&& BitVec.ofInt 64 1023).toNat ≤ 1023 := by
    rw [BitVec.toNat_and]; exact Nat.le_trans Nat.and_le_right (by decide)
  show 0 ≤ IntKind.i64.wrap ((BitVec.ofInt 64 t &&& BitVec.ofInt 64 1023).toNat : Int)
  rw [IntKind.wrap_i64]
  omega
theorem wordI_lt (t : Int) : wordI t < 7 := by
  have := and1023 t
  unfold wordI
  rw [Int.tmod_eq_emod_of_nonneg this]; omega
theorem wordI_in (t : Int) : 0 ≤ (bits .and .i64 t 1023).tmod 7 ∧ (bits .and .i64 t 1023).tmod 7 < 7 := by
  have := and1023 t
  rw [Int.tmod_eq_emod_of_nonneg this]; omega
def wordsR : List (List Dat) := [[.v (.string ⟨#[97]⟩)], [.v (.string ⟨#[98, 99]⟩)], [.v (.string ⟨#[10]⟩)], [.v (.string ⟨#[195, 169]⟩)], [.v (.string ⟨#[120, 10]⟩)], [.v (.string ⟨#[240, 159, 152, 128]⟩)], [.v (.string ⟨#[32]⟩)]]
theorem wordsR_at (t : Int) (z : List Dat) : wordsR.getD ((bits .and .i64 t 1023).tmod 7).toNat z = [.v (.string (wordB (wordI t)))] := by
  have h := wordI_lt t
  show wordsR.getD (wordI t) z = _
  generalize wordI t = k at h ⊢
  match k, h with
  | 0, _ => rfl
  | 1, _ => rfl
  | 2, _ => rfl
  | 3, _ => rfl
  | 4, _ => rfl
  | 5, _ => rfl
  | 6, _ => rfl
theorem word_enc : ∀ k : Nat, nB (wordB k).data.toList = Utf.encAll (wordC k)
  | 0 => by decide
  | 1 => by decide
  | 2 => by decide
  | 3 => by decide
  | 4 => by decide
  | 5 => by decide
  | n + 6 => by show nB [32] = Utf.encAll [32]; decide
theorem word_cp : ∀ (k : Nat), ∀ r ∈ wordC k, Utf.isCp r
  | 0 => by decide
  | 1 => by decide
  | 2 => by decide
  | 3 => by decide
  | 4 => by decide
  | 5 => by decide
  | n + 6 => by show ∀ r ∈ [(32 : Int)], Utf.isCp r; decide
theorem word_size : ∀ (k : Nat), 1 ≤ (wordB k).size ∧ (wordB k).size ≤ 4
  | 0 => by decide
  | 1 => by decide
  | 2 => by decide
  | 3 => by decide
  | 4 => by decide
  | 5 => by decide
  | n + 6 => by show 1 ≤ (⟨#[32]⟩ : ByteArray).size ∧ (⟨#[32]⟩ : ByteArray).size ≤ 4; decide
def riseP (q : Int × Int) : Pc := (wordB (wordI q.1), q.2)
def riseC (l : List (Int × Int)) : List Int := l.flatMap fun q => wordC (wordI q.1)
theorem rise_enc (l : List (Int × Int)) : nB (wholeP (l.map riseP)) = Utf.encAll (riseC l) := by
  induction l with
  | nil => rfl
  | cons q l ih =>
    have e := word_enc (wordI q.1)
    simp only [List.map_cons, wholeP, List.flatMap_cons, riseC, Utf.encAll_append, nB, List.map_append] at ih e ⊢
    rw [ih, show (riseP q).1 = wordB (wordI q.1) from rfl, e]
theorem rise_cp (l : List (Int × Int)) : ∀ r ∈ riseC l, Utf.isCp r := fun r hr => by
  obtain ⟨q, _, hq⟩ := List.mem_flatMap.mp hr
  exact word_cp _ r hq
theorem rise_tot (l : List (Int × Int)) : totP (l.map riseP) = (Utf.encAll (riseC l)).length := by
  rw [← rise_enc, nB_len, wholeP_len]
theorem rise_tot_le (l : List (Int × Int)) : totP (l.map riseP) ≤ 4 * l.length := by
  induction l with
  | nil => exact Nat.le_refl _
  | cons q l ih =>
    have := word_size (wordI q.1)
    simp only [List.map_cons, totP, List.length_cons, show (riseP q).1 = wordB (wordI q.1) from rfl]
    omega
theorem rise_at {l : List (Int × Int)} {i j : Nat} (hij : i < j) (hj : j < l.length) : Lines.lt (plc (nB (wholeP (l.map riseP))) (totP ((l.map riseP).take i))) (plc (nB (wholeP (l.map riseP))) (totP ((l.map riseP).take j))) := by
  have e0 : riseC l = riseC (l.take i) ++ riseC (l.drop i) := by rw [riseC, riseC, riseC, ← List.flatMap_append, List.take_append_drop]
  have t0 : totP ((l.map riseP).take i) = (Utf.encAll (riseC (l.take i))).length := by rw [← List.map_take, rise_tot]
  have tj : totP ((l.map riseP).take j) = (Utf.encAll (riseC (l.take i))).length + totP (((l.drop i).take (j - i)).map riseP) := by
    rw [← List.map_take, ← t0, ← List.map_take, ← totP_app, ← List.map_append]
    congr 2
    rw [← List.take_add]
    congr 1; omega
  obtain ⟨q, u, hq⟩ : ∃ q u, l.drop i = q :: u := by
    cases h : l.drop i with
    | nil => have := congrArg List.length h; rw [List.length_drop] at this; simp at this; omega
    | cons q u => exact ⟨q, u, rfl⟩
  have hpos : totP (((l.drop i).take (j - i)).map riseP) ≠ 0 := by
    obtain ⟨k, hk⟩ : ∃ k, j - i = k + 1 := ⟨j - i - 1, by omega⟩
    rw [hq, hk, List.take_succ_cons, List.map_cons, totP]
    have := word_size (wordI q.1)
    rw [show (riseP q).1 = wordB (wordI q.1) from rfl]
    omega
  have hne : Utf.encAll (riseC (l.drop i)) ≠ [] := fun h => by
    have h1 := rise_tot (l.drop i)
    have h2 := rise_tot_le (l.drop i)
    rw [h, hq, List.map_cons, totP] at h1
    have := word_size (wordI q.1)
    rw [show (riseP q).1 = wordB (wordI q.1) from rfl] at h1
    simp only [List.length_nil] at h1
    omega
  rw [rise_enc, e0, Utf.encAll_append, t0, tj]
  generalize totP (((l.drop i).take (j - i)).map riseP) = off at hpos
  have hl := (Lines.encAll_length (riseC (l.take i))).1
  unfold plc
  have r0 := Lines.at_runR (riseC (l.take i)) (Utf.encAll (riseC (l.take i)) ++ Utf.encAll (riseC (l.drop i))).length (Utf.encAll (riseC (l.drop i))) 0 (0, 0) (rise_cp _) (by rw [List.length_append]; omega)
  rw [Nat.add_zero, Lines.at_zero] at r0
  rw [r0, Lines.at_runR _ _ _ off _ (rise_cp _) (by rw [List.length_append]; omega)]
  exact Lines.at_later _ (by rw [List.length_append]; omega) hpos hne
theorem rise_kept (n : Nat) (l : List (Int × Int)) : (kept n (l.map riseP)).Pairwise fun q r => Lines.lt (plc (nB (wholeP (l.map riseP))) q.1) (plc (nB (wholeP (l.map riseP))) r.1) := by
  unfold kept
  refine List.Pairwise.filterMap _ ?_ List.pairwise_lt_range
  intro i j hij b hb c hc
  have hjl : j < l.length := by
    cases h : (l.map riseP)[j]? with
    | none => rw [h] at hc; cases hc
    | some p => have := (List.getElem?_eq_some_iff.mp h).1; simpa using this
  have hb1 : b.1 = totP ((l.map riseP).take i) := by
    cases h : (l.map riseP)[i]? with
    | none => rw [h] at hb; cases hb
    | some p =>
      rw [h] at hb
      by_cases hk : Kp n p
      · simp only [if_pos hk] at hb; cases hb; rfl
      · simp only [if_neg hk] at hb; cases hb
  have hc1 : c.1 = totP ((l.map riseP).take j) := by
    cases h : (l.map riseP)[j]? with
    | none => rw [h] at hc; cases hc
    | some p =>
      rw [h] at hc
      by_cases hk : Kp n p
      · simp only [if_pos hk] at hc; cases hc; rfl
      · simp only [if_neg hk] at hc; cases hc
  rw [hb1, hc1]
  exact rise_at hij hjl
theorem rise_next {n : Nat} {l : List (Int × Int)} {i : Nat} {q r : Nat × Nat} (h1 : (kept n (l.map riseP))[i]? = some q) (h2 : (kept n (l.map riseP))[i + 1]? = some r) : Lines.lt (plc (nB (wholeP (l.map riseP))) q.1) (plc (nB (wholeP (l.map riseP))) r.1) := by
  obtain ⟨a1, a2⟩ := List.getElem?_eq_some_iff.mp h1
  obtain ⟨b1, b2⟩ := List.getElem?_eq_some_iff.mp h2
  have := List.pairwise_iff_getElem.mp (rise_kept n l) i (i + 1) a1 b1 (Nat.lt_succ_self i)
  rw [a2, b2] at this
  exact this
theorem riseK (n : Nat) (q : Int × Int) : Kp n (riseP q) ↔ q.2 ≥ 0 ∧ q.2 ≤ (n : Int) := by
  unfold Kp
  have h := word_size (wordI q.1)
  have key : ∀ k, k < 7 → (!((wordB k).toList == (⟨#[]⟩ : ByteArray).toList)) = true := fun k hk => by
    match k, hk with
    | 0, _ => decide +kernel
    | 1, _ => decide +kernel
    | 2, _ => decide +kernel
    | 3, _ => decide +kernel
    | 4, _ => decide +kernel
    | 5, _ => decide +kernel
    | 6, _ => decide +kernel
  have : ((!((riseP q).1.toList == (⟨#[]⟩ : ByteArray).toList)) = true) := key _ (wordI_lt q.1)
  simp only [this, true_and]
  exact Iff.rfl
theorem PiecesRise_body (ts fs : List Int) (src : List Int) (h1 : ts.length ≤ maxLen ∧ ∀ x ∈ ts, (Lit.int .i64 x).wf = true) (h2 : fs.length ≤ maxLen ∧ ∀ x ∈ fs, (Lit.int .i64 x).wf = true) (h3 : src.length ≤ maxLen ∧ ∀ x ∈ src, (Lit.int .u8 x).wf = true) : Body Try.prog G23 (DRun Try.prog G23) 4 [.d (intsD ts), .d (intsD fs), .d (bytesD src)] (vBool true) := by
  refine Body.of Try.func4 Try.ntmps4 (by kernel_rfl) rfl rfl rfl ?_
  have hb := Bytes.of_wf h3.2
  simp only [intsD, bytesD, pcOf_map, G23_at, calmE, F_alive, F_Few, F_Seg, F_same, AV.flat, AV.flat.flatL, getD_iD, iD, num_iD, List.length_map, goTG_val, goTG_new, goTG_up, goTG_none, goG_none, goG_new, goG_up, ne_eq, evK, evH, retHF, DRun_mk, runT_nil, runT_none, runT_guard, goT_val, goT_new, goT_store, goTH_true, goTH_false, evO, keys, Option.toList_some, Option.toList_none, nzL_nil, nzL_cons, nz_k, nz_sl, nz_nil, nz_agg, startL, evC, evV, goE_val, goE_new, goE_store, goH_true, goH_false, goG_val, lk_cons, lk_nil, lk_func, lk_int, lk_bool, lk_string, lk_slice, lk_agg, look_mk, St.effOf, eff, effCall, effBin, effUn, effConv, effPick, effNil, effFold, fold1, effLoad, effStore, effFieldAddr, effField, fieldOf, sliceOf, effIndexAddr, effIndex, effLen, effExtract, effSlice, bnd, effBuild, placesOf, effBuildSlice, effMakeSlice, effAppend, srcOf, fillA, chunk, seg, toD, toDs, put, eqAV, fieldsEq, leafEq, strip, unw, allB, selP_or, selP_and, tis, TyD.agg, AV.cells, AV.cell, allCell, vInt, vBool, vStr, subL_nil, subL_cons, upIds, AV.ids, AV.ids.idsL, AObj.ids, drops, Hp.get_cons, get_nil, retF, resL, one, fz, fz.fzL, List.map_cons, List.map_nil, List.nil_append, List.append_nil, List.cons_append, List.all_cons, List.all_nil, List.length_cons, List.length_nil, List.getElem?_cons_zero, List.getElem?_cons_succ, List.getD_cons_zero, List.getD_cons_succ, List.take_succ_cons, List.take_zero, List.drop_succ_cons, List.drop_zero, List.take_nil, List.drop_nil, List.contains_cons, List.contains_nil, Option.getD_some, Option.getD_none, Option.map_some, Option.map_none, if_true, if_false, true_and, and_true, and_self, or_self, or_false, false_or, false_and, and_false, reduceCtorEq, sel_and, sel_or, decide_eq_true_eq, Bool.and_eq_true, Bool.or_eq_true, Bool.and_true, Bool.true_and, Bool.or_false, Bool.false_or, Bool.true_or, Bool.or_true, Bool.not_true, Bool.not_false, Bool.false_eq_true, implies_true, not_false_eq_true, Nat.reduceLT, Nat.reduceEqDiff, Nat.reduceAdd, Nat.reduceMul, Nat.reduceMod, Nat.reduceLeDiff, Nat.reduceBEq, Nat.zero_add, Nat.add_zero, reduceIte, ↓reduceIte, List.not_mem_nil]
  by_cases c : ((ts.length : Int) > 40 ∨ (fs.length : Int) < ts.length) ∨ (src.length : Int) > 200
  · rw [if_pos c]
  rw [if_neg c]
  have c1 : ts.length ≤ 40 ∧ ts.length ≤ fs.length ∧ src.length ≤ 200 := by omega
  obtain ⟨c1, c2, c3⟩ := c1
  have hz : (ts.zip fs).length = ts.length := by rw [List.length_zip]; omega
  refine wpc_loop (fun i : Nat => ⟨128, [35, 100], [(0, .d (intsD ts)), (1, .d (intsD fs)), (2, .d (bytesD src)), (8, .row 100 (((ts.zip fs).take i).map riseP).length), (9, vInt .i64 (kept src.length (((ts.zip fs).take i).map riseP)).length), (10, .row 35 7), (11, vInt .i64 i)], [(35, some (.row 9 1 wordsR)), (100, some (.row 33 2 ((((ts.zip fs).take i).map riseP).map pcD)))]⟩) (fun i => i ≤ ts.length) (fun i => ts.length - i) 0 (Nat.zero_le _) ?_ ?_
  · refine Le.of id [100] ?_
    simp only [intsD, bytesD, List.take_zero, List.map_nil, kept, List.length_nil, List.range_zero, List.filterMap_nil, List.length_map, Mt_tup, Mt_agg, Mt_fn, forall_eq, forall_eq_or_imp, ne_eq, List.all_cons, List.all_nil, pr, Nat.reduceLeDiff, slR_nil, slR_cons, hpR_nil, hpR_cells, hpR_row, idsR_nil, idsR_cons, mtE_v, mtE_sl, mtE_nil, mtE_refl, mtE_row, mtE_born, mtE_ptr, mtE_rp, mtE_agg, mtE_tup, mtE_fn, mtE_ep, MtL_nil, MtL_cons, Mt_v, Mt_sl, Mt_nil, Mt_refl, Mt_row, Mt_born, Mt_ptr, MtO_cells, MtO_row, liveIds, distinct, Dat.v.injEq, Dat.sl.injEq, Value.int.injEq, Value.bool.injEq, Value.string.injEq, lk_cons, lk_nil, subL_nil, subL_cons, upIds, AV.ids, AV.ids.idsL, AObj.ids, Hp.get_cons, get_nil, allCell, AV.cell, vInt, vBool, vStr, id, true_and, and_true, and_self, List.append_nil, List.nil_append, List.not_mem_nil, List.mem_cons, or_false, false_or, or_self, not_true_eq_false, not_false_eq_true, false_imp_iff, false_implies, List.map_nil, not_false_eq_true, List.contains_cons, List.contains_nil, Bool.or_false, Bool.false_or, Bool.true_or, Bool.or_true, Bool.and_true, Bool.true_and, implies_true, if_true, if_false, reduceCtorEq, Nat.reduceEqDiff, Nat.reduceBEq, Nat.reduceAdd, reduceIte, ↓reduceIte]
    exact ⟨rfl, rfl, rfl⟩
  · intro i hi
    by_cases hi2 : (i : Int) < ts.length
    · obtain ⟨t, ht⟩ : ∃ t, ts[i]? = some t := ⟨_, List.getElem?_eq_getElem (by omega)⟩
      obtain ⟨f, hf⟩ : ∃ f, fs[i]? = some f := ⟨_, List.getElem?_eq_getElem (by omega)⟩
      have hzq : (ts.zip fs)[i]? = some (t, f) := by rw [List.getElem?_zip_eq_some]; exact ⟨ht, hf⟩
      have hgt : ∀ z, (ts.map (iD .i64)).getD (i : Int).toNat z = iD .i64 t := getD_map ht
      have hgf : ∀ z, (fs.map (iD .i64)).getD (i : Int).toNat z = iD .i64 f := getD_map hf
      have hw := wordI_in t
      simp only [intsD, bytesD, hgt, hgf, iD, wordsR_at, G23_at, calmE, F_alive, F_Few, F_Seg, F_same, AV.flat, AV.flat.flatL, List.length_map, goTG_val, goTG_new, goTG_up, goTG_none, goG_none, goG_new, goG_up, ne_eq, evK, evH, retHF, DRun_mk, runT_nil, runT_none, runT_guard, goT_val, goT_new, goT_store, goTH_true, goTH_false, evO, keys, Option.toList_some, Option.toList_none, nzL_nil, nzL_cons, nz_k, nz_sl, nz_nil, nz_agg, startL, evC, evV, goE_val, goE_new, goE_store, goH_true, goH_false, goG_val, lk_cons, lk_nil, lk_func, lk_int, lk_bool, lk_string, lk_slice, lk_agg, look_mk, St.effOf, eff, effCall, effBin, effUn, effConv, effPick, effNil, effFold, fold1, effLoad, effStore, effFieldAddr, effField, fieldOf, sliceOf, effIndexAddr, effIndex, effLen, effExtract, effSlice, bnd, effBuild, placesOf, effBuildSlice, effMakeSlice, effAppend, srcOf, fillA, chunk, seg, toD, toDs, put, eqAV, fieldsEq, leafEq, strip, unw, allB, selP_or, selP_and, tis, TyD.agg, AV.cells, AV.cell, allCell, vInt, vBool, vStr, subL_nil, subL_cons, upIds, AV.ids, AV.ids.idsL, AObj.ids, drops, Hp.get_cons, get_nil, retF, resL, one, fz, fz.fzL, List.map_cons, List.map_nil, List.nil_append, List.append_nil, List.cons_append, List.all_cons, List.all_nil, List.length_cons, List.length_nil, List.getElem?_cons_zero, List.getElem?_cons_succ, List.getD_cons_zero, List.getD_cons_succ, List.take_succ_cons, List.take_zero, List.drop_succ_cons, List.drop_zero, List.take_nil, List.drop_nil, List.contains_cons, List.contains_nil, Option.getD_some, Option.getD_none, Option.map_some, Option.map_none, if_true, if_false, true_and, and_true, and_self, or_self, or_false, false_or, false_and, and_false, reduceCtorEq, sel_and, sel_or, decide_eq_true_eq, Bool.and_eq_true, Bool.or_eq_true, Bool.and_true, Bool.true_and, Bool.or_false, Bool.false_or, Bool.true_or, Bool.or_true, Bool.not_true, Bool.not_false, Bool.false_eq_true, implies_true, not_false_eq_true, Nat.reduceLT, Nat.reduceEqDiff, Nat.reduceAdd, Nat.reduceMul, Nat.reduceMod, Nat.reduceLeDiff, Nat.reduceBEq, Nat.zero_add, Nat.add_zero, reduceIte, ↓reduceIte, List.not_mem_nil]
      rw [if_pos hi2]
      have hlen : (((ts.zip fs).take i).map riseP).length = i := by rw [List.length_map, List.length_take]; omega
      have hkl := kept_len src.length (((ts.zip fs)).map riseP) i
      have hsn := kept_snoc (n := src.length) (l := (ts.zip fs).map riseP) (j := i) (p := riseP (t, f)) (by rw [List.getElem?_map, hzq]; rfl)
      rw [← List.map_take] at hkl
      rw [← List.map_take, ← List.map_take, take_at hzq, List.map_append] at hsn
      refine ⟨by omega, by decide, ⟨hw.1, by omega⟩, by simp only [wordsR, List.length_cons, List.length_nil]; omega, by omega, by rw [List.length_take]; omega, by kernel_rfl, by omega, fun _ => by omega, ?_⟩
      by_cases hk : f ≥ 0 ∧ f ≤ (src.length : Int)
      · rw [if_pos hk]
        rw [if_pos ((riseK src.length (t, f)).mpr hk)] at hsn
        simp only [List.map_cons, List.map_nil, riseP] at hsn
        refine ⟨i + 1, by omega, by omega, Le.of (fun o => if o = 100 then 58 else o) [] ?_⟩
        simp only [intsD, bytesD, hsn, take_at hzq, riseP, pcD, List.map_append, List.map_cons, List.map_nil, List.length_append, List.length_map, List.length_cons, List.length_nil, Mt_tup, Mt_agg, Mt_fn, forall_eq, forall_eq_or_imp, ne_eq, List.all_cons, List.all_nil, pr, Nat.reduceLeDiff, slR_nil, slR_cons, hpR_nil, hpR_cells, hpR_row, idsR_nil, idsR_cons, mtE_v, mtE_sl, mtE_nil, mtE_refl, mtE_row, mtE_born, mtE_ptr, mtE_rp, mtE_agg, mtE_tup, mtE_fn, mtE_ep, MtL_nil, MtL_cons, Mt_v, Mt_sl, Mt_nil, Mt_refl, Mt_row, Mt_born, Mt_ptr, MtO_cells, MtO_row, liveIds, distinct, Dat.v.injEq, Dat.sl.injEq, Value.int.injEq, Value.bool.injEq, Value.string.injEq, lk_cons, lk_nil, subL_nil, subL_cons, upIds, AV.ids, AV.ids.idsL, AObj.ids, Hp.get_cons, get_nil, allCell, AV.cell, vInt, vBool, vStr, id, true_and, and_true, and_self, List.append_nil, List.nil_append, List.not_mem_nil, List.mem_cons, or_false, false_or, or_self, not_true_eq_false, not_false_eq_true, false_imp_iff, false_implies, List.map_nil, not_false_eq_true, List.contains_cons, List.contains_nil, Bool.or_false, Bool.false_or, Bool.true_or, Bool.or_true, Bool.and_true, Bool.true_and, implies_true, if_true, if_false, reduceCtorEq, Nat.reduceEqDiff, Nat.reduceBEq, Nat.reduceAdd, reduceIte, ↓reduceIte]
        exact ⟨⟨w64 (by omega) (by omega), w64 (by omega) (by omega)⟩, rfl⟩
      · rw [if_neg hk]
        rw [if_neg (fun h => hk ((riseK src.length (t, f)).mp h)), List.append_nil] at hsn
        simp only [List.map_cons, List.map_nil, riseP] at hsn
        refine ⟨i + 1, by omega, by omega, Le.of (fun o => if o = 100 then 58 else o) [] ?_⟩
        simp only [intsD, bytesD, hsn, take_at hzq, riseP, pcD, List.map_append, List.map_cons, List.map_nil, List.length_append, List.length_map, List.length_cons, List.length_nil, Mt_tup, Mt_agg, Mt_fn, forall_eq, forall_eq_or_imp, ne_eq, List.all_cons, List.all_nil, pr, Nat.reduceLeDiff, slR_nil, slR_cons, hpR_nil, hpR_cells, hpR_row, idsR_nil, idsR_cons, mtE_v, mtE_sl, mtE_nil, mtE_refl, mtE_row, mtE_born, mtE_ptr, mtE_rp, mtE_agg, mtE_tup, mtE_fn, mtE_ep, MtL_nil, MtL_cons, Mt_v, Mt_sl, Mt_nil, Mt_refl, Mt_row, Mt_born, Mt_ptr, MtO_cells, MtO_row, liveIds, distinct, Dat.v.injEq, Dat.sl.injEq, Value.int.injEq, Value.bool.injEq, Value.string.injEq, lk_cons, lk_nil, subL_nil, subL_cons, upIds, AV.ids, AV.ids.idsL, AObj.ids, Hp.get_cons, get_nil, allCell, AV.cell, vInt, vBool, vStr, id, true_and, and_true, and_self, List.append_nil, List.nil_append, List.not_mem_nil, List.mem_cons, or_false, false_or, or_self, not_true_eq_false, not_false_eq_true, false_imp_iff, false_implies, List.map_nil, not_false_eq_true, List.contains_cons, List.contains_nil, Bool.or_false, Bool.false_or, Bool.true_or, Bool.or_true, Bool.and_true, Bool.true_and, implies_true, if_true, if_false, reduceCtorEq, Nat.reduceEqDiff, Nat.reduceBEq, Nat.reduceAdd, reduceIte, ↓reduceIte]
        exact ⟨w64 (by omega) (by omega), rfl⟩
    · obtain rfl : i = ts.length := by omega
      have hta : (ts.zip fs).take ts.length = ts.zip fs := List.take_of_length_le (by omega)
      have hsl := segsP_len ((ts.zip fs).map riseP) src
      have htot := rise_tot_le (ts.zip fs)
      have hnx := @rise_next src.length (ts.zip fs)
      simp only [intsD, bytesD, hta, pcOf_map, G23_at, calmE, F_alive, F_Few, F_Seg, F_same, AV.flat, AV.flat.flatL, getD_iD, num_iD, List.length_map, goTG_val, goTG_new, goTG_up, goTG_none, goG_none, goG_new, goG_up, ne_eq, evK, evH, retHF, DRun_mk, runT_nil, runT_none, runT_guard, goT_val, goT_new, goT_store, goTH_true, goTH_false, evO, keys, Option.toList_some, Option.toList_none, nzL_nil, nzL_cons, nz_k, nz_sl, nz_nil, nz_agg, startL, evC, evV, goE_val, goE_new, goE_store, goH_true, goH_false, goG_val, lk_cons, lk_nil, lk_func, lk_int, lk_bool, lk_string, lk_slice, lk_agg, look_mk, St.effOf, eff, effCall, effBin, effUn, effConv, effPick, effNil, effFold, fold1, effLoad, effStore, effFieldAddr, effField, fieldOf, sliceOf, effIndexAddr, effIndex, effLen, effExtract, effSlice, bnd, effBuild, placesOf, effBuildSlice, effMakeSlice, effAppend, srcOf, fillA, chunk, seg, toD, toDs, put, eqAV, fieldsEq, leafEq, strip, unw, allB, selP_or, selP_and, tis, TyD.agg, AV.cells, AV.cell, allCell, vInt, vBool, vStr, subL_nil, subL_cons, upIds, AV.ids, AV.ids.idsL, AObj.ids, drops, Hp.get_cons, get_nil, retF, resL, one, fz, fz.fzL, List.map_cons, List.map_nil, List.nil_append, List.append_nil, List.cons_append, List.all_cons, List.all_nil, List.length_cons, List.length_nil, List.getElem?_cons_zero, List.getElem?_cons_succ, List.getD_cons_zero, List.getD_cons_succ, List.take_succ_cons, List.take_zero, List.drop_succ_cons, List.drop_zero, List.take_nil, List.drop_nil, List.contains_cons, List.contains_nil, Option.getD_some, Option.getD_none, Option.map_some, Option.map_none, if_true, if_false, true_and, and_true, and_self, or_self, or_false, false_or, false_and, and_false, reduceCtorEq, sel_and, sel_or, decide_eq_true_eq, Bool.and_eq_true, Bool.or_eq_true, Bool.and_true, Bool.true_and, Bool.or_false, Bool.false_or, Bool.true_or, Bool.or_true, Bool.not_true, Bool.not_false, Bool.false_eq_true, implies_true, not_false_eq_true, Nat.reduceLT, Nat.reduceEqDiff, Nat.reduceAdd, Nat.reduceMul, Nat.reduceMod, Nat.reduceLeDiff, Nat.reduceBEq, Nat.zero_add, Nat.add_zero, reduceIte, ↓reduceIte, List.not_mem_nil]
      rw [if_neg hi2]
      unfold segsP
      have hKl := kept_len src.length ((ts.zip fs).map riseP) 40
      rw [List.take_of_length_le (by rw [List.length_map]; omega)] at hKl
      generalize kept src.length ((ts.zip fs).map riseP) = K at hnx hKl ⊢
      generalize nB (wholeP ((ts.zip fs).map riseP)) = all at hnx ⊢
      let g : Nat × Nat → List Dat := fun q => sgD (plc all q.1) (plc src q.2)
      have hg : (fun q : Nat × Nat => sgD (plc all q.1) (plc src q.2)) = g := rfl
      try rw [hg]
      refine ⟨⟨⟨by omega, by omega⟩, hb, by omega⟩, ?_⟩
      refine wpc_loop (fun i : Nat => ⟨128, [], [(9, vInt .i64 K.length), (12, .d (.sl 4 (K.map g))), (13, vInt .i64 ((i : Int) + 1))], []⟩) (fun i => i ≤ K.length) (fun i => K.length - i) 0 (Nat.zero_le _) ?_ ?_
      · refine Le.of id [] ?_
        simp only [Mt_tup, Mt_agg, Mt_fn, forall_eq, forall_eq_or_imp, ne_eq, List.all_cons, List.all_nil, pr, Nat.reduceLeDiff, slR_nil, slR_cons, hpR_nil, hpR_cells, hpR_row, idsR_nil, idsR_cons, mtE_v, mtE_sl, mtE_nil, mtE_refl, mtE_row, mtE_born, mtE_ptr, mtE_rp, mtE_agg, mtE_tup, mtE_fn, mtE_ep, MtL_nil, MtL_cons, Mt_v, Mt_sl, Mt_nil, Mt_refl, Mt_row, Mt_born, Mt_ptr, MtO_cells, MtO_row, liveIds, distinct, Dat.v.injEq, Dat.sl.injEq, Value.int.injEq, Value.bool.injEq, Value.string.injEq, lk_cons, lk_nil, subL_nil, subL_cons, upIds, AV.ids, AV.ids.idsL, AObj.ids, Hp.get_cons, get_nil, allCell, AV.cell, vInt, vBool, vStr, id, true_and, and_true, and_self, List.append_nil, List.nil_append, List.not_mem_nil, List.mem_cons, or_false, false_or, or_self, not_true_eq_false, not_false_eq_true, false_imp_iff, false_implies, List.map_nil, not_false_eq_true, List.contains_cons, List.contains_nil, Bool.or_false, Bool.false_or, Bool.true_or, Bool.or_true, Bool.and_true, Bool.true_and, implies_true, if_true, if_false, reduceCtorEq, Nat.reduceEqDiff, Nat.reduceBEq, Nat.reduceAdd, reduceIte, ↓reduceIte]
        rfl
      · intro i hi
        by_cases hi2 : (i : Int) + 1 < K.length
        · obtain ⟨q, hq⟩ : ∃ q, K[i]? = some q := ⟨_, List.getElem?_eq_getElem (by omega)⟩
          obtain ⟨r, hr⟩ : ∃ r, K[i + 1]? = some r := ⟨_, List.getElem?_eq_getElem (by omega)⟩
          have g1 : ∀ z, (K.map g).getD (i : Int).toNat z = sgD (plc all q.1) (plc src q.2) := getD_map hq
          have g2 : ∀ z, (K.map g).getD ((i : Int) + 1).toNat z = sgD (plc all r.1) (plc src r.2) := getD_map (j := i + 1) hr
          have hlt := hnx hq hr
          unfold Lines.lt at hlt
          have ew : IntKind.i64.wrap ((i : Int) + 1 - 1) = (i : Int) := by rw [w64 (by omega) (by omega)]; omega
          simp only [ew, g1, g2, sgD, pe_seg, List.length_map, goTG_val, goTG_new, goTG_up, goTG_none, goG_none, goG_new, goG_up, ne_eq, evK, evH, retHF, DRun_mk, runT_nil, runT_none, runT_guard, goT_val, goT_new, goT_store, goTH_true, goTH_false, evO, keys, Option.toList_some, Option.toList_none, nzL_nil, nzL_cons, nz_k, nz_sl, nz_nil, nz_agg, startL, evC, evV, goE_val, goE_new, goE_store, goH_true, goH_false, goG_val, lk_cons, lk_nil, lk_func, lk_int, lk_bool, lk_string, lk_slice, lk_agg, look_mk, St.effOf, eff, effCall, effBin, effUn, effConv, effPick, effNil, effFold, fold1, effLoad, effStore, effFieldAddr, effField, fieldOf, sliceOf, effIndexAddr, effIndex, effLen, effExtract, effSlice, bnd, effBuild, placesOf, effBuildSlice, effMakeSlice, effAppend, srcOf, fillA, chunk, seg, toD, toDs, put, eqAV, fieldsEq, leafEq, strip, unw, allB, selP_or, selP_and, tis, TyD.agg, AV.cells, AV.cell, allCell, vInt, vBool, vStr, subL_nil, subL_cons, upIds, AV.ids, AV.ids.idsL, AObj.ids, drops, Hp.get_cons, get_nil, retF, resL, one, fz, fz.fzL, List.map_cons, List.map_nil, List.nil_append, List.append_nil, List.cons_append, List.all_cons, List.all_nil, List.length_cons, List.length_nil, List.getElem?_cons_zero, List.getElem?_cons_succ, List.getD_cons_zero, List.getD_cons_succ, List.take_succ_cons, List.take_zero, List.drop_succ_cons, List.drop_zero, List.take_nil, List.drop_nil, List.contains_cons, List.contains_nil, Option.getD_some, Option.getD_none, Option.map_some, Option.map_none, if_true, if_false, true_and, and_true, and_self, or_self, or_false, false_or, false_and, and_false, reduceCtorEq, sel_and, sel_or, decide_eq_true_eq, Bool.and_eq_true, Bool.or_eq_true, Bool.and_true, Bool.true_and, Bool.or_false, Bool.false_or, Bool.true_or, Bool.or_true, Bool.not_true, Bool.not_false, Bool.false_eq_true, implies_true, not_false_eq_true, Nat.reduceLT, Nat.reduceEqDiff, Nat.reduceAdd, Nat.reduceMul, Nat.reduceMod, Nat.reduceLeDiff, Nat.reduceBEq, Nat.zero_add, Nat.add_zero, reduceIte, ↓reduceIte, List.not_mem_nil]
          rw [if_pos hi2]
          refine ⟨by omega, by omega, fun _ => by omega, fun _ => by omega, fun _ => by omega, fun _ => by omega, by kernel_rfl, ?_⟩
          rw [if_neg (by simp only [beq_iff_eq]; omega)]
          refine ⟨i + 1, by omega, by omega, Le.of id [] ?_⟩
          simp only [Mt_tup, Mt_agg, Mt_fn, forall_eq, forall_eq_or_imp, ne_eq, List.all_cons, List.all_nil, pr, Nat.reduceLeDiff, slR_nil, slR_cons, hpR_nil, hpR_cells, hpR_row, idsR_nil, idsR_cons, mtE_v, mtE_sl, mtE_nil, mtE_refl, mtE_row, mtE_born, mtE_ptr, mtE_rp, mtE_agg, mtE_tup, mtE_fn, mtE_ep, MtL_nil, MtL_cons, Mt_v, Mt_sl, Mt_nil, Mt_refl, Mt_row, Mt_born, Mt_ptr, MtO_cells, MtO_row, liveIds, distinct, Dat.v.injEq, Dat.sl.injEq, Value.int.injEq, Value.bool.injEq, Value.string.injEq, lk_cons, lk_nil, subL_nil, subL_cons, upIds, AV.ids, AV.ids.idsL, AObj.ids, Hp.get_cons, get_nil, allCell, AV.cell, vInt, vBool, vStr, id, true_and, and_true, and_self, List.append_nil, List.nil_append, List.not_mem_nil, List.mem_cons, or_false, false_or, or_self, not_true_eq_false, not_false_eq_true, false_imp_iff, false_implies, List.map_nil, not_false_eq_true, List.contains_cons, List.contains_nil, Bool.or_false, Bool.false_or, Bool.true_or, Bool.or_true, Bool.and_true, Bool.true_and, implies_true, if_true, if_false, reduceCtorEq, Nat.reduceEqDiff, Nat.reduceBEq, Nat.reduceAdd, reduceIte, ↓reduceIte]
          exact w64 (by omega) (by omega)
        · simp only [List.length_map, goTG_val, goTG_new, goTG_up, goTG_none, goG_none, goG_new, goG_up, ne_eq, evK, evH, retHF, DRun_mk, runT_nil, runT_none, runT_guard, goT_val, goT_new, goT_store, goTH_true, goTH_false, evO, keys, Option.toList_some, Option.toList_none, nzL_nil, nzL_cons, nz_k, nz_sl, nz_nil, nz_agg, startL, evC, evV, goE_val, goE_new, goE_store, goH_true, goH_false, goG_val, lk_cons, lk_nil, lk_func, lk_int, lk_bool, lk_string, lk_slice, lk_agg, look_mk, St.effOf, eff, effCall, effBin, effUn, effConv, effPick, effNil, effFold, fold1, effLoad, effStore, effFieldAddr, effField, fieldOf, sliceOf, effIndexAddr, effIndex, effLen, effExtract, effSlice, bnd, effBuild, placesOf, effBuildSlice, effMakeSlice, effAppend, srcOf, fillA, chunk, seg, toD, toDs, put, eqAV, fieldsEq, leafEq, strip, unw, allB, selP_or, selP_and, tis, TyD.agg, AV.cells, AV.cell, allCell, vInt, vBool, vStr, subL_nil, subL_cons, upIds, AV.ids, AV.ids.idsL, AObj.ids, drops, Hp.get_cons, get_nil, retF, resL, one, fz, fz.fzL, List.map_cons, List.map_nil, List.nil_append, List.append_nil, List.cons_append, List.all_cons, List.all_nil, List.length_cons, List.length_nil, List.getElem?_cons_zero, List.getElem?_cons_succ, List.getD_cons_zero, List.getD_cons_succ, List.take_succ_cons, List.take_zero, List.drop_succ_cons, List.drop_zero, List.take_nil, List.drop_nil, List.contains_cons, List.contains_nil, Option.getD_some, Option.getD_none, Option.map_some, Option.map_none, if_true, if_false, true_and, and_true, and_self, or_self, or_false, false_or, false_and, and_false, reduceCtorEq, sel_and, sel_or, decide_eq_true_eq, Bool.and_eq_true, Bool.or_eq_true, Bool.and_true, Bool.true_and, Bool.or_false, Bool.false_or, Bool.true_or, Bool.or_true, Bool.not_true, Bool.not_false, Bool.false_eq_true, implies_true, not_false_eq_true, Nat.reduceLT, Nat.reduceEqDiff, Nat.reduceAdd, Nat.reduceMul, Nat.reduceMod, Nat.reduceLeDiff, Nat.reduceBEq, Nat.zero_add, Nat.add_zero, reduceIte, ↓reduceIte, List.not_mem_nil]
          rw [if_neg hi2, beq_self_eq_true]
end Go.Proofs.Ytngjpmeenoohmaa.Eng
