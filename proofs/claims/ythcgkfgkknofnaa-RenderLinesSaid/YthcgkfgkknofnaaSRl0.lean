/- Layouts: how much they make; pieces compared; the law's example. -/
import Derived.Test.YthcgkfgkknofnaaSPie
import Derived.Test.YthcgkfgkknofnaaSSta
import Derived.Test.YthcgkfgkknofnaaSDen
namespace Go.Proofs.Ythcgkfgkknofnaa.Eng
open Go Go.Proofs.Ythcgkfgkknofnaa.Base
set_option maxRecDepth 100000
set_option linter.unusedSimpArgs false
set_option linter.unusedVariables false
/- How much is made. -/
theorem layR_len (w i : Int) : ∀ (n : Nat) (r : List It) (col : Int), szr r ≤ n → (layR w i r col).length ≤ szr r
  | 0, [], col, _ => Nat.zero_le _
  | 0, x :: r, col, h => by have := dsz_eq x.d; simp only [szr] at h; omega
  | n + 1, [], col, _ => Nat.zero_le _
  | n + 1, x :: r, col, h => by
    have h1 := step_sz w i x r col
    have h2 := step_out w i x r col
    have h3 := layR_len w i n (stepR w i x r col).1 (stepR w i x r col).2.1 (by omega)
    rw [layR_cons, List.length_append]
    omega
theorem step_totP {N T : Nat} {w i : Int} {x : It} {r : List It} {col : Int} (h : RowOk N T (x :: r)) (hi0 : 0 ≤ i) (hi : i ≤ 16) : totP (stepR w i x r col).2.2 + trr (stepR w i x r col).1 ≤ trr (x :: r) + (16 * N + 1) := by
  have h1 := step_tr w i x r col
  obtain ⟨l1, l2⟩ := h.lev x List.mem_cons_self
  have hm : 0 ≤ x.lv * i ∧ x.lv * i ≤ 16 * N := by
    have a1 := Int.mul_nonneg l1 hi0
    have a2 : x.lv * i ≤ x.lv * 16 := Int.mul_le_mul_of_nonneg_left hi l1
    omega
  have hb : (lineT (x.lv * i)).size = 1 + (x.lv * i).toNat := by
    have : (blanksB (x.lv * i)).size = (x.lv * i).toNat := by rw [blanksB, ba_size, List.length_replicate]
    rw [lineT, ByteArray.size_append, this]; rfl
  have hs1 : (⟨#[32]⟩ : ByteArray).size = 1 := rfl
  unfold stepR at h1 ⊢
  split
  · rename_i k
    rw [if_pos k, if_pos k] at h1
    split
    · rename_i c; rw [if_pos c] at h1; simp only [totP] at h1 ⊢; omega
    · rename_i c; rw [if_neg c] at h1; simp only [totP] at h1 ⊢; omega
  · rename_i k
    rw [if_neg k, if_neg k] at h1
    split
    · rename_i k2
      rw [if_pos k2] at h1
      split
      · rename_i c
        rw [if_pos c] at h1
        split
        · rename_i c2; rw [if_pos c2] at h1; simp only [totP] at h1 ⊢; omega
        · rename_i c2; rw [if_neg c2] at h1; simp only [totP] at h1 ⊢; omega
      · rename_i c; rw [if_neg c] at h1; simp only [totP] at h1 ⊢; omega
    · rename_i k2
      rw [if_neg k2] at h1; simp only [totP] at h1 ⊢; omega
theorem layR_tot {N T : Nat} (w i : Int) (hi0 : 0 ≤ i) (hi : i ≤ 16) : ∀ (n : Nat) (r : List It) (col : Int), szr r ≤ n → RowOk N T r → totP (layR w i r col) ≤ trr r + szr r * (16 * N + 1)
  | 0, [], col, _, _ => Nat.zero_le _
  | 0, x :: r, col, h, _ => by have := dsz_eq x.d; simp only [szr] at h; omega
  | n + 1, [], col, _, _ => Nat.zero_le _
  | n + 1, x :: r, col, h, hr => by
    have h1 := step_sz w i x r col
    have h2 := step_totP (w := w) (col := col) hr hi0 hi
    have h3 := layR_tot w i hi0 hi n (stepR w i x r col).1 (stepR w i x r col).2.1 (by omega) hr.step
    rw [layR_cons, totP_app]
    have h4 : (szr (stepR w i x r col).1 + 1) * (16 * N + 1) ≤ szr (x :: r) * (16 * N + 1) := Nat.mul_le_mul_right _ (by omega)
    rw [Nat.add_mul] at h4
    omega
theorem row0_ok {D : Doc} (h1 : okD D) (hr : right 200 D = true) : RowOk (dsz D) (tot D) [⟨D, 0, false⟩] := by
  refine ⟨fun x hx => ?_, fun x hx => ?_, ?_, ?_⟩
  · obtain rfl := List.mem_singleton.mp hx; exact ⟨h1, hr⟩
  · obtain rfl := List.mem_singleton.mp hx; exact ⟨Int.le_refl _, by show (0 : Int) + (dsz D : Nat) ≤ (dsz D : Nat); omega⟩
  · simp [szr]
  · simp [trr]
theorem mxmn (a b c : Int) (h : b ≤ c) : b ≤ mx b (mn a c) ∧ mx b (mn a c) ≤ c := by
  unfold mx mn; split <;> split <;> omega
theorem rnd_len (D : Doc) (w i : Int) : (rnd D w i).length ≤ dsz D := by
  have := layR_len (mx 1 (mn w 1000)) (mx 0 (mn i 16)) _ [⟨D, 0, false⟩] 0 (Nat.le_refl _)
  simp only [szr, Nat.add_zero] at this
  exact this
theorem rnd_tot {D : Doc} (w i : Int) (h1 : okD D) (hr : right 200 D = true) : totP (rnd D w i) ≤ tot D + dsz D * (16 * dsz D + 1) := by
  obtain ⟨i1, i2⟩ := mxmn i 0 16 (by decide)
  have := layR_tot (mx 1 (mn w 1000)) (mx 0 (mn i 16)) i1 i2 _ [⟨D, 0, false⟩] 0 (Nat.le_refl _) (row0_ok h1 hr)
  simp only [szr, trr, Nat.add_zero] at this
  exact this
mutual
theorem dsz_size : ∀ (deep : Int) (d : Doc), 0 ≤ deep → deep ≤ 251 → sizeD deep d ≤ 300 → (dsz d : Int) ≤ sizeD deep d
  | deep, .mk k f t l, h0, h1, h => by
    rw [sizeD] at h ⊢
    split at h
    · omega
    · rename_i hc
      rw [if_neg hc]
      have := dszs_size (deep + 1) 1 l (by omega) (by omega) (by omega) h
      rw [dsz]
      omega
theorem dszs_size : ∀ (deep n : Int) (l : List Doc), 0 ≤ deep → deep ≤ 251 → 1 ≤ n → sizeL deep n l ≤ 300 → (dszs l : Int) + n ≤ sizeL deep n l
  | deep, n, [], _, _, _, _ => by rw [dszs, sizeL]; omega
  | deep, n, d :: l, h0, h1, h2, h => by
    rw [sizeL] at h ⊢
    split at h
    · rename_i hn
      rw [if_pos hn]
      have h4 := sizeD_bound deep d h0 h1
      have h5 := dszs_size deep (n + sizeD deep d) l h0 h1 (by omega) h
      have h6 : sizeD deep d ≤ 300 := by omega
      have := dsz_size deep d h0 h1 h6
      rw [dszs]
      omega
    · omega
end
theorem few_dsz {D : Doc} (h : sizeD 0 D ≤ 300) : dsz D ≤ 300 := by
  have := dsz_size 0 D (by decide) (by decide) h
  omega
/-- What Pieces answers. -/
def pcs (D : Doc) (w i : Int) : List Pc := if right 200 D = true then rnd D w i else []
theorem pcs_map (D : Doc) (w i : Int) : (if right 200 D = true then (rnd D w i).map pcD else []) = (pcs D w i).map pcD := by
  unfold pcs; split <;> rfl
theorem pcs_le {D : Doc} (w i : Int) (h1 : okD D) (n t : Nat) (hn : dsz D ≤ n) (ht : tot D ≤ t) : (pcs D w i).length ≤ n ∧ totP (pcs D w i) ≤ t + n * (16 * n + 1) := by
  unfold pcs
  split
  · rename_i hr
    have a := rnd_len D w i
    have b := rnd_tot w i h1 hr
    have c : dsz D * (16 * dsz D + 1) ≤ n * (16 * n + 1) := Nat.mul_le_mul hn (by omega)
    exact ⟨by omega, by omega⟩
  · exact ⟨Nat.zero_le _, Nat.zero_le _⟩
/- Pieces, compared. -/
theorem pe_piece : plainEq Try.prog 34 = true := by kernel_rfl
theorem samePc_body (l m : List Pc) (hl : l.length ≤ 1000000000) (hm : m.length ≤ 1000000000) : Body Try.prog Gam.none (DRun Try.prog Gam.none) 15 [.d (pcsD l), .d (pcsD m)] (vBool (decide (l = m))) := by
  refine Body.of Try.func15 Try.ntmps15 (by kernel_rfl) rfl rfl rfl ?_
  simp only [pcsD, List.length_map, goTG_val, goTG_new, goTG_up, goTG_none, goG_none, goG_new, goG_up, ne_eq, evK, evH, retHF, DRun_mk, runT_nil, runT_none, runT_guard, goT_val, goT_new, goT_store, goTH_true, goTH_false, evO, keys, Option.toList_some, Option.toList_none, nzL_nil, nzL_cons, nz_k, nz_sl, nz_nil, nz_agg, startL, evC, evV, goE_val, goE_new, goE_store, goH_true, goH_false, goG_val, lk_cons, lk_nil, lk_func, lk_int, lk_bool, lk_string, lk_slice, lk_agg, look_mk, St.effOf, eff, effCall, effBin, effUn, effConv, effPick, effNil, effFold, fold1, effLoad, effStore, effFieldAddr, effField, fieldOf, sliceOf, effIndexAddr, effIndex, effLen, effExtract, effSlice, bnd, effBuild, placesOf, effBuildSlice, effMakeSlice, effAppend, srcOf, fillA, chunk, seg, toD, toDs, put, eqAV, fieldsEq, leafEq, strip, unw, allB, selP_or, selP_and, tis, TyD.agg, AV.cells, AV.cell, allCell, vInt, vBool, vStr, subL_nil, subL_cons, upIds, AV.ids, AV.ids.idsL, AObj.ids, drops, Hp.get_cons, get_nil, retF, resL, one, fz, fz.fzL, List.map_cons, List.map_nil, List.nil_append, List.append_nil, List.cons_append, List.all_cons, List.all_nil, List.length_cons, List.length_nil, List.getElem?_cons_zero, List.getElem?_cons_succ, List.getD_cons_zero, List.getD_cons_succ, List.take_succ_cons, List.take_zero, List.drop_succ_cons, List.drop_zero, List.take_nil, List.drop_nil, List.contains_cons, List.contains_nil, Option.getD_some, Option.getD_none, Option.map_some, Option.map_none, if_true, if_false, true_and, and_true, and_self, or_self, or_false, false_or, false_and, and_false, reduceCtorEq, sel_and, sel_or, decide_eq_true_eq, Bool.and_eq_true, Bool.or_eq_true, Bool.and_true, Bool.true_and, Bool.or_false, Bool.false_or, Bool.true_or, Bool.or_true, Bool.not_true, Bool.not_false, Bool.false_eq_true, implies_true, not_false_eq_true, Nat.reduceLT, Nat.reduceEqDiff, Nat.reduceAdd, Nat.reduceMul, Nat.reduceMod, Nat.reduceLeDiff, Nat.reduceBEq, Nat.zero_add, Nat.add_zero, reduceIte, ↓reduceIte, List.not_mem_nil]
  by_cases hlen : l.length = m.length
  rotate_left
  · rw [if_pos (by simp; omega), decide_eq_false (fun h => hlen (by rw [h]))]
    try exact Sub.refl _
  rw [if_neg (by simp; omega)]
  refine wpc_loop (fun j : Nat => ⟨26, [], [(0, .d (pcsD l)), (1, .d (pcsD m)), (5, vInt .i64 j)], []⟩) (fun j => j ≤ l.length ∧ l.take j = m.take j) (fun j => l.length - j) 0 ⟨Nat.zero_le _, rfl⟩ ?_ ?_
  · refine Le.of id [] ?_
    simp only [pcsD, Mt_tup, Mt_agg, Mt_fn, forall_eq, forall_eq_or_imp, ne_eq, List.all_cons, List.all_nil, pr, Nat.reduceLeDiff, slR_nil, slR_cons, hpR_nil, hpR_cells, hpR_row, idsR_nil, idsR_cons, mtE_v, mtE_sl, mtE_nil, mtE_refl, mtE_row, mtE_born, mtE_ptr, mtE_rp, mtE_agg, mtE_tup, mtE_fn, mtE_ep, MtL_nil, MtL_cons, Mt_v, Mt_sl, Mt_nil, Mt_refl, Mt_row, Mt_born, Mt_ptr, MtO_cells, MtO_row, liveIds, distinct, Dat.v.injEq, Dat.sl.injEq, Value.int.injEq, Value.bool.injEq, Value.string.injEq, lk_cons, lk_nil, subL_nil, subL_cons, upIds, AV.ids, AV.ids.idsL, AObj.ids, Hp.get_cons, get_nil, allCell, AV.cell, vInt, vBool, vStr, id, true_and, and_true, and_self, List.append_nil, List.nil_append, List.not_mem_nil, List.mem_cons, or_false, false_or, or_self, not_true_eq_false, not_false_eq_true, false_imp_iff, false_implies, List.map_nil, not_false_eq_true, List.contains_cons, List.contains_nil, Bool.or_false, Bool.false_or, Bool.true_or, Bool.or_true, Bool.and_true, Bool.true_and, implies_true, if_true, if_false, reduceCtorEq, Nat.reduceEqDiff, Nat.reduceBEq, Nat.reduceAdd, reduceIte, ↓reduceIte]
    try rfl
  · rintro j ⟨hj, he⟩
    by_cases hj2 : (j : Int) < l.length
    · obtain ⟨p, hp⟩ : ∃ p, l[j]? = some p := ⟨_, List.getElem?_eq_getElem (by omega)⟩
      obtain ⟨q, hq⟩ : ∃ q, m[j]? = some q := ⟨_, List.getElem?_eq_getElem (by omega)⟩
      have hg : ∀ z, (l.map pcD).getD (j : Int).toNat z = pcD p := getD_map hp
      have hg2 : ∀ z, (m.map pcD).getD (j : Int).toNat z = pcD q := getD_map hq
      simp only [pcsD, hg, hg2, pcD, pe_piece, List.length_map, goTG_val, goTG_new, goTG_up, goTG_none, goG_none, goG_new, goG_up, ne_eq, evK, evH, retHF, DRun_mk, runT_nil, runT_none, runT_guard, goT_val, goT_new, goT_store, goTH_true, goTH_false, evO, keys, Option.toList_some, Option.toList_none, nzL_nil, nzL_cons, nz_k, nz_sl, nz_nil, nz_agg, startL, evC, evV, goE_val, goE_new, goE_store, goH_true, goH_false, goG_val, lk_cons, lk_nil, lk_func, lk_int, lk_bool, lk_string, lk_slice, lk_agg, look_mk, St.effOf, eff, effCall, effBin, effUn, effConv, effPick, effNil, effFold, fold1, effLoad, effStore, effFieldAddr, effField, fieldOf, sliceOf, effIndexAddr, effIndex, effLen, effExtract, effSlice, bnd, effBuild, placesOf, effBuildSlice, effMakeSlice, effAppend, srcOf, fillA, chunk, seg, toD, toDs, put, eqAV, fieldsEq, leafEq, strip, unw, allB, selP_or, selP_and, tis, TyD.agg, AV.cells, AV.cell, allCell, vInt, vBool, vStr, subL_nil, subL_cons, upIds, AV.ids, AV.ids.idsL, AObj.ids, drops, Hp.get_cons, get_nil, retF, resL, one, fz, fz.fzL, List.map_cons, List.map_nil, List.nil_append, List.append_nil, List.cons_append, List.all_cons, List.all_nil, List.length_cons, List.length_nil, List.getElem?_cons_zero, List.getElem?_cons_succ, List.getD_cons_zero, List.getD_cons_succ, List.take_succ_cons, List.take_zero, List.drop_succ_cons, List.drop_zero, List.take_nil, List.drop_nil, List.contains_cons, List.contains_nil, Option.getD_some, Option.getD_none, Option.map_some, Option.map_none, if_true, if_false, true_and, and_true, and_self, or_self, or_false, false_or, false_and, and_false, reduceCtorEq, sel_and, sel_or, decide_eq_true_eq, Bool.and_eq_true, Bool.or_eq_true, Bool.and_true, Bool.true_and, Bool.or_false, Bool.false_or, Bool.true_or, Bool.or_true, Bool.not_true, Bool.not_false, Bool.false_eq_true, implies_true, not_false_eq_true, Nat.reduceLT, Nat.reduceEqDiff, Nat.reduceAdd, Nat.reduceMul, Nat.reduceMod, Nat.reduceLeDiff, Nat.reduceBEq, Nat.zero_add, Nat.add_zero, reduceIte, ↓reduceIte, List.not_mem_nil]
      rw [if_pos hj2]
      refine ⟨by omega, by omega, by kernel_rfl, ?_⟩
      by_cases hpq : p = q
      · subst hpq
        rw [if_neg (by simp)]
        refine ⟨j + 1, by omega, ⟨by omega, by rw [take_at hp, take_at hq, he]⟩, Le.of id [] ?_⟩
        simp only [pcsD, Mt_tup, Mt_agg, Mt_fn, forall_eq, forall_eq_or_imp, ne_eq, List.all_cons, List.all_nil, pr, Nat.reduceLeDiff, slR_nil, slR_cons, hpR_nil, hpR_cells, hpR_row, idsR_nil, idsR_cons, mtE_v, mtE_sl, mtE_nil, mtE_refl, mtE_row, mtE_born, mtE_ptr, mtE_rp, mtE_agg, mtE_tup, mtE_fn, mtE_ep, MtL_nil, MtL_cons, Mt_v, Mt_sl, Mt_nil, Mt_refl, Mt_row, Mt_born, Mt_ptr, MtO_cells, MtO_row, liveIds, distinct, Dat.v.injEq, Dat.sl.injEq, Value.int.injEq, Value.bool.injEq, Value.string.injEq, lk_cons, lk_nil, subL_nil, subL_cons, upIds, AV.ids, AV.ids.idsL, AObj.ids, Hp.get_cons, get_nil, allCell, AV.cell, vInt, vBool, vStr, id, true_and, and_true, and_self, List.append_nil, List.nil_append, List.not_mem_nil, List.mem_cons, or_false, false_or, or_self, not_true_eq_false, not_false_eq_true, false_imp_iff, false_implies, List.map_nil, not_false_eq_true, List.contains_cons, List.contains_nil, Bool.or_false, Bool.false_or, Bool.true_or, Bool.or_true, Bool.and_true, Bool.true_and, implies_true, if_true, if_false, reduceCtorEq, Nat.reduceEqDiff, Nat.reduceBEq, Nat.reduceAdd, reduceIte, ↓reduceIte]
        exact w64 (by omega) (by omega)
      · have hne : l ≠ m := fun h => hpq (by rw [h, hq] at hp; exact (Option.some.inj hp).symm)
        have hbs : ∀ a b : ByteArray, (a.toList == b.toList) = true → a = b := fun a b h => by
          have := eq_of_beq h
          rw [ByteArray.toList_eq, ByteArray.toList_eq] at this
          exact ByteArray.ext (Array.toList_inj.mp this)
        rw [if_pos, decide_eq_false hne]
        · rw [Bool.not_eq_true', Bool.and_eq_false_iff]
          rcases Classical.em (p.1 = q.1) with h1 | h1
          · right
            have : p.2 ≠ q.2 := fun h2 => hpq (Prod.ext h1 h2)
            simpa using this
          · left
            cases hb : (p.1.toList == q.1.toList) with
            | false => rfl
            | true => exact absurd (hbs _ _ hb) h1
    · simp only [pcsD, List.length_map, goTG_val, goTG_new, goTG_up, goTG_none, goG_none, goG_new, goG_up, ne_eq, evK, evH, retHF, DRun_mk, runT_nil, runT_none, runT_guard, goT_val, goT_new, goT_store, goTH_true, goTH_false, evO, keys, Option.toList_some, Option.toList_none, nzL_nil, nzL_cons, nz_k, nz_sl, nz_nil, nz_agg, startL, evC, evV, goE_val, goE_new, goE_store, goH_true, goH_false, goG_val, lk_cons, lk_nil, lk_func, lk_int, lk_bool, lk_string, lk_slice, lk_agg, look_mk, St.effOf, eff, effCall, effBin, effUn, effConv, effPick, effNil, effFold, fold1, effLoad, effStore, effFieldAddr, effField, fieldOf, sliceOf, effIndexAddr, effIndex, effLen, effExtract, effSlice, bnd, effBuild, placesOf, effBuildSlice, effMakeSlice, effAppend, srcOf, fillA, chunk, seg, toD, toDs, put, eqAV, fieldsEq, leafEq, strip, unw, allB, selP_or, selP_and, tis, TyD.agg, AV.cells, AV.cell, allCell, vInt, vBool, vStr, subL_nil, subL_cons, upIds, AV.ids, AV.ids.idsL, AObj.ids, drops, Hp.get_cons, get_nil, retF, resL, one, fz, fz.fzL, List.map_cons, List.map_nil, List.nil_append, List.append_nil, List.cons_append, List.all_cons, List.all_nil, List.length_cons, List.length_nil, List.getElem?_cons_zero, List.getElem?_cons_succ, List.getD_cons_zero, List.getD_cons_succ, List.take_succ_cons, List.take_zero, List.drop_succ_cons, List.drop_zero, List.take_nil, List.drop_nil, List.contains_cons, List.contains_nil, Option.getD_some, Option.getD_none, Option.map_some, Option.map_none, if_true, if_false, true_and, and_true, and_self, or_self, or_false, false_or, false_and, and_false, reduceCtorEq, sel_and, sel_or, decide_eq_true_eq, Bool.and_eq_true, Bool.or_eq_true, Bool.and_true, Bool.true_and, Bool.or_false, Bool.false_or, Bool.true_or, Bool.or_true, Bool.not_true, Bool.not_false, Bool.false_eq_true, implies_true, not_false_eq_true, Nat.reduceLT, Nat.reduceEqDiff, Nat.reduceAdd, Nat.reduceMul, Nat.reduceMod, Nat.reduceLeDiff, Nat.reduceBEq, Nat.zero_add, Nat.add_zero, reduceIte, ↓reduceIte, List.not_mem_nil]
      rw [if_neg hj2]
      rw [List.take_of_length_le (by omega), List.take_of_length_le (by omega)] at he
      rw [decide_eq_true he]
def F_samePc : List AV → Option (Prop × AV)
  | [.d (.sl 2 xs), .d (.sl 2 ys)] => some ((xs = (xs.map pcOf).map pcD ∧ xs.length ≤ 1000000000) ∧ ys = (ys.map pcOf).map pcD ∧ ys.length ≤ 1000000000, vBool (decide (xs.map pcOf = ys.map pcOf)))
  | _ => none
theorem samePc_calm : ∀ args sc res, F_samePc args = some (sc, res) → sc → Calm Try.prog 15 args res := by
  intro args sc res h hs
  unfold F_samePc at h
  split at h <;> cases h
  rename_i xs ys
  obtain ⟨⟨h1, h2⟩, h3, h4⟩ := hs
  have hb := samePc_body (xs.map pcOf) (ys.map pcOf) (by simpa using h2) (by simpa using h4)
  rw [pcsD, pcsD, ← h1, ← h3] at hb
  exact (Known.none _).calm mixed rfl rfl hb
/- The law's example. -/
noncomputable def G_al11 : Gam := ((Gam.none.add 12 fun a => F_Pieces (NT.nz.nzL [.a [.k, .k, .k, .s 4], .k, .k] a)).add 16 fun a => F_PText (NT.nz.nzL [.s 2] a)).add 14 fun a => F_Starts (NT.nz.nzL [.s 2] a)
theorem known_al11 : Known Try.prog G_al11 := (((Known.none _).addC _ Pieces_calm).addC _ PText_calm).addC _ Starts_calm
theorem G_al11_at : (∀ h d a, G_al11 12 h d a = calmE (fun a => F_Pieces (NT.nz.nzL [.a [.k, .k, .k, .s 4], .k, .k] a)) h a) ∧ (∀ h d a, G_al11 16 h d a = calmE (fun a => F_PText (NT.nz.nzL [.s 2] a)) h a) ∧ (∀ h d a, G_al11 14 h d a = calmE (fun a => F_Starts (NT.nz.nzL [.s 2] a)) h a) := ⟨fun _ _ _ => rfl, fun _ _ _ => rfl, fun _ _ _ => rfl⟩
theorem nz_s2 (xs : List (List Dat)) : (NT.s 2).nz (.d (.sl 2 xs)) = .d (.sl 2 xs) := rfl
theorem alive11_body : Body Try.prog G_al11 (DRun Try.prog G_al11) 10 [] (vBool true) := by
  refine Body.of Try.func10 Try.ntmps10 (by kernel_rfl) rfl rfl rfl ?_
  have r1 : right 200 (.mk 1 4 ⟨#[97, 98]⟩ []) = true := by simp [right, rightC]
  have o1 : okD (.mk 1 4 ⟨#[97, 98]⟩ []) := by simp [okD, okDs, maxLen]; decide
  have r2 : right 200 (.mk 0 0 ByteArray.empty []) = false := by simp [right, rightC]
  have o2 : okD (.mk 0 0 ByteArray.empty []) := by simp [okD, okDs, maxLen]
  have l1 : rnd (.mk 1 4 ⟨#[97, 98]⟩ []) 9 2 = [(⟨#[97, 98]⟩, 4)] := by decide +kernel
  have l0 : rnd (.mk 1 4 ⟨#[97, 98]⟩ []) 9 2 = [(⟨#[97, 98]⟩, 4)] := l1
  simp only [G_al11_at, calmE, F_Pieces, F_PText, F_Starts, docsOf_nil, Int.reduceToNat, intsD, r1, r2, l1, pe_piece, nz_s2, if_true, if_false, Bool.false_eq_true, pcD, pcOf, AV.flat, AV.flat.flatL, List.length_map, goTG_val, goTG_new, goTG_up, goTG_none, goG_none, goG_new, goG_up, ne_eq, evK, evH, retHF, DRun_mk, runT_nil, runT_none, runT_guard, goT_val, goT_new, goT_store, goTH_true, goTH_false, evO, keys, Option.toList_some, Option.toList_none, nzL_nil, nzL_cons, nz_k, nz_sl, nz_nil, nz_agg, startL, evC, evV, goE_val, goE_new, goE_store, goH_true, goH_false, goG_val, lk_cons, lk_nil, lk_func, lk_int, lk_bool, lk_string, lk_slice, lk_agg, look_mk, St.effOf, eff, effCall, effBin, effUn, effConv, effPick, effNil, effFold, fold1, effLoad, effStore, effFieldAddr, effField, fieldOf, sliceOf, effIndexAddr, effIndex, effLen, effExtract, effSlice, bnd, effBuild, placesOf, effBuildSlice, effMakeSlice, effAppend, srcOf, fillA, chunk, seg, toD, toDs, put, eqAV, fieldsEq, leafEq, strip, unw, allB, selP_or, selP_and, tis, TyD.agg, AV.cells, AV.cell, allCell, vInt, vBool, vStr, subL_nil, subL_cons, upIds, AV.ids, AV.ids.idsL, AObj.ids, drops, Hp.get_cons, get_nil, retF, resL, one, fz, fz.fzL, List.map_cons, List.map_nil, List.nil_append, List.append_nil, List.cons_append, List.all_cons, List.all_nil, List.length_cons, List.length_nil, List.getElem?_cons_zero, List.getElem?_cons_succ, List.getD_cons_zero, List.getD_cons_succ, List.take_succ_cons, List.take_zero, List.drop_succ_cons, List.drop_zero, List.take_nil, List.drop_nil, List.contains_cons, List.contains_nil, Option.getD_some, Option.getD_none, Option.map_some, Option.map_none, if_true, if_false, true_and, and_true, and_self, or_self, or_false, false_or, false_and, and_false, reduceCtorEq, sel_and, sel_or, decide_eq_true_eq, Bool.and_eq_true, Bool.or_eq_true, Bool.and_true, Bool.true_and, Bool.or_false, Bool.false_or, Bool.true_or, Bool.or_true, Bool.not_true, Bool.not_false, Bool.false_eq_true, implies_true, not_false_eq_true, Nat.reduceLT, Nat.reduceEqDiff, Nat.reduceAdd, Nat.reduceMul, Nat.reduceMod, Nat.reduceLeDiff, Nat.reduceBEq, Nat.zero_add, Nat.add_zero, reduceIte, ↓reduceIte, List.not_mem_nil]
  refine ⟨⟨o1, by decide⟩, ⟨o2, by decide⟩, fun _ => by decide, fun _ => by decide, fun _ => by decide, Sub.eq ?_⟩
  rw [if_pos ⟨⟨⟨rfl, rfl⟩, beq_self_eq_true _, rfl⟩, beq_self_eq_true _⟩]; rfl
theorem alive11_calm : Calm Try.prog 10 [] (vBool true) := known_al11.calm mixed rfl rfl alive11_body
def F_alive11 : List AV → Option (Prop × AV)
  | [] => some (True, vBool true)
  | _ => none
theorem alive11_c : ∀ args sc res, F_alive11 args = some (sc, res) → sc → Calm Try.prog 10 args res := fun args sc res h _ => by
  unfold F_alive11 at h
  split at h <;> cases h
  exact alive11_calm
end Go.Proofs.Ythcgkfgkknofnaa.Eng
