/- RenderHard and RenderLines. -/
import Derived.Test.YthcgkfgkknofnaaSRl4
namespace Go.Proofs.Ythcgkfgkknofnaa.Eng
open Go Go.Proofs.Ythcgkfgkknofnaa.Base
set_option maxRecDepth 100000
set_option linter.unusedSimpArgs false
set_option linter.unusedVariables false
theorem stepR_t (w i : Int) (x : It) (r : List It) (col : Int) (hk : x.d.k = 1) (h : x.d.t.size ≠ 0) : stepR w i x r col = (r, col + wide x.d.t, [(x.d.t, x.d.f)]) := by
  unfold stepR
  rw [if_pos hk, if_neg h]
theorem stepR_s (w i : Int) (x : It) (r : List It) (col : Int) (hk : x.d.k = 2) (h : x.fl = true) : stepR w i x r col = (r, col + 1, [(⟨#[32]⟩, -1)]) := by
  unfold stepR
  rw [if_neg (by omega), if_pos (.inl hk), if_pos h, if_pos hk]
theorem stepR_n (w i : Int) (x : It) (r : List It) (col : Int) (hk : x.d.k = 2 ∨ x.d.k = 3 ∨ x.d.k = 4) (h : x.fl = false) : stepR w i x r col = (r, x.lv * i, [(lineT (x.lv * i), -1)]) := by
  unfold stepR
  rw [if_neg (by omega), if_pos hk, if_neg (by rw [h]; decide)]
theorem stepR_k (w i : Int) (x : It) (r : List It) (col : Int) (hk : x.d.k = 5 ∨ x.d.k = 6 ∨ x.d.k = 7) : stepR w i x r col = (kidsI (inI w col x r) ++ r, col, []) := by
  unfold stepR
  rw [if_neg (by omega), if_neg (by omega)]
theorem layR_text (w i : Int) (f lv : Int) (t : ByteArray) (fl : Bool) (r : List It) (col : Int) (h : t.size ≠ 0) : layR w i (⟨.mk 1 f t [], lv, fl⟩ :: r) col = (t, f) :: layR w i r (col + wide t) := by
  rw [layR_cons, stepR_t w i ⟨.mk 1 f t [], lv, fl⟩ r col rfl h]; rfl
theorem layR_sp (w i : Int) (lv : Int) (r : List It) (col : Int) : layR w i (⟨.mk 2 0 ByteArray.empty [], lv, true⟩ :: r) col = (⟨#[32]⟩, -1) :: layR w i r (col + 1) := by
  rw [layR_cons, stepR_s w i ⟨.mk 2 0 ByteArray.empty [], lv, true⟩ r col rfl rfl]; rfl
theorem layR_nl (w i : Int) (k lv : Int) (hk : k = 2 ∨ k = 3 ∨ k = 4) (r : List It) (col : Int) : layR w i (⟨.mk k 0 ByteArray.empty [], lv, false⟩ :: r) col = (lineT (lv * i), -1) :: layR w i r (lv * i) := by
  rw [layR_cons, stepR_n w i ⟨.mk k 0 ByteArray.empty [], lv, false⟩ r col hk rfl]; rfl
theorem inI_57 (w col : Int) (x : It) (r : List It) (hk : x.d.k = 5 ∨ x.d.k = 7) : inI w col x r = ⟨x.d, if x.d.k = 7 then x.lv + 1 else x.lv, x.fl⟩ := by
  unfold inI
  rcases hk with h | h
  · rw [if_neg (by omega), if_neg (by omega), if_neg (by omega)]
  · rw [if_pos h, if_pos h]
theorem inI_6 (w col : Int) (x : It) (r : List It) (hk : x.d.k = 6) : inI w col x r = ⟨x.d, x.lv, x.fl || fitsR w col x.d r⟩ := by
  unfold inI
  rw [if_neg (by omega), if_pos hk]
theorem layR_in (w i : Int) (k lv : Int) (l : List Doc) (hk : k = 5 ∨ k = 7) (fl : Bool) (r : List It) (col : Int) : layR w i (⟨.mk k 0 ByteArray.empty l, lv, fl⟩ :: r) col = layR w i ((l.map fun d => ⟨d, if k = 7 then lv + 1 else lv, fl⟩) ++ r) col := by
  rw [layR_cons, stepR_k w i ⟨.mk k 0 ByteArray.empty l, lv, fl⟩ r col (by show k = 5 ∨ k = 6 ∨ k = 7; omega), inI_57 w col ⟨.mk k 0 ByteArray.empty l, lv, fl⟩ r hk]; rfl
theorem layR_grp (w i : Int) (lv : Int) (l : List Doc) (r : List It) (col : Int) : layR w i (⟨.mk 6 0 ByteArray.empty l, lv, false⟩ :: r) col = layR w i ((l.map fun d => ⟨d, lv, fitsR w col (.mk 6 0 ByteArray.empty l) r⟩) ++ r) col := by
  rw [layR_cons, stepR_k w i ⟨.mk 6 0 ByteArray.empty l, lv, false⟩ r col (.inr (.inl rfl)), inI_6 w col ⟨.mk 6 0 ByteArray.empty l, lv, false⟩ r rfl]; rfl
/- RenderHard. -/
def hdX : Doc := .mk 5 0 ByteArray.empty [.mk 4 0 ByteArray.empty [], .mk 1 (-1) ⟨#[98]⟩ []]
def nstK : Nat → Doc
  | 0 => hdX
  | n + 1 => .mk 7 0 ByteArray.empty [nstK n]
def hdA : Doc := .mk 1 (-1) ⟨#[97]⟩ []
def hdK (l : List Int) : List Doc := hdA :: l.map fun w => nstK (w % 8).toNat
def hdW (i : Int) (l : List Int) : List UInt8 := 97 :: l.flatMap fun w => (lineT (w % 8 * i)).data.toList ++ [98]
theorem nstK_lay (w i : Int) (r : List It) : ∀ (n : Nat) (lv col : Int), layR w i (⟨nstK n, lv, false⟩ :: r) col = (lineT ((lv + n) * i), -1) :: (⟨#[98]⟩, -1) :: layR w i r ((lv + n) * i + wide ⟨#[98]⟩)
  | 0, lv, col => by
    rw [nstK, hdX, layR_in w i 5 lv _ (.inl rfl)]
    simp only [List.map_cons, List.map_nil, List.cons_append, List.nil_append, show ¬ (5 : Int) = 7 by decide, if_false]
    rw [layR_nl w i 4 lv (by decide), layR_text w i (-1) lv _ _ _ _ (by decide), show lv + ((0 : Nat) : Int) = lv by omega]
  | n + 1, lv, col => by
    rw [nstK, layR_in w i 7 lv _ (.inr rfl)]
    simp only [List.map_cons, List.map_nil, List.cons_append, List.nil_append, if_true]
    rw [nstK_lay w i r n (lv + 1) col, show lv + 1 + (n : Int) = lv + ((n + 1 : Nat) : Int) by omega]
theorem hd_lay (w i : Int) : ∀ (l : List Int) (col : Int), wholeP (layR w i (l.map fun x => ⟨nstK (x % 8).toNat, 0, false⟩) col) = l.flatMap fun x => (lineT (x % 8 * i)).data.toList ++ [98]
  | [], _ => rfl
  | x :: l, col => by
    rw [List.map_cons, nstK_lay, wholeP_cons, wholeP_cons, hd_lay w i l, List.flatMap_cons, show (0 : Int) + ((x % 8).toNat : Int) = x % 8 by omega, List.append_assoc]
theorem nstK_rf : ∀ n, (rfS (nstK n)).2 = false
  | 0 => rfl
  | n + 1 => by
    rw [nstK, rfS, if_neg (by decide), if_neg (by decide), if_neg (by decide), if_neg (by decide), rfL, if_neg (by rw [nstK_rf n]; decide)]
theorem nstK_right : ∀ (n : Nat) (a : Int), (n : Int) < a → right a (nstK n) = true
  | 0, a, h => by
    rw [nstK, hdX, right, rightC, if_neg (by decide), if_neg (by decide), if_pos (by decide), if_pos ⟨⟨by omega, em0⟩, rfl⟩]
    simp only [rights, right, rightC, em0, show ¬ (4 : Int) = 1 by decide, if_false, if_true, Bool.and_true]
    rfl
  | n + 1, a, h => by
    rw [nstK, right, rightC, if_neg (by decide), if_neg (by decide), if_pos (by decide), if_pos ⟨⟨by omega, em0⟩, rfl⟩, rights, rights, Bool.and_true, nstK_right n (a - 1) (by omega)]
theorem nstK_ok : ∀ n, okD (nstK n) ∧ tot (nstK n) = n + 4
  | 0 => ⟨⟨Nat.zero_le _, by show 2 ≤ maxLen; decide, ⟨Nat.zero_le _, Nat.zero_le _, trivial⟩, ⟨by show 1 ≤ maxLen; decide, Nat.zero_le _, trivial⟩, trivial⟩, rfl⟩
  | n + 1 => by
    obtain ⟨h1, h2⟩ := nstK_ok n
    exact ⟨ok1 h1, by rw [nstK, tot1, h2]; omega⟩
theorem hd_plain (l : List Int) (hl : l.length ≤ 20) (i : Int) (hi : 0 ≤ i ∧ i ≤ 16) :
    okD (.mk 6 0 ByteArray.empty (hdK l)) ∧ tot (.mk 6 0 ByteArray.empty (hdK l)) ≤ 1000000 ∧ (pcs (.mk 6 0 ByteArray.empty (hdK l)) 1000 i).length ≤ 1000000000 ∧ totP (pcs (.mk 6 0 ByteArray.empty (hdK l)) 1000 i) ≤ 1000000000 ∧
      wholeP (pcs (.mk 6 0 ByteArray.empty (hdK l)) 1000 i) = hdW i l := by
  have hm : 100 ≤ maxLen := by decide
  have hlen : (hdK l).length = l.length + 1 := by simp [hdK]
  have each : ∀ d ∈ hdK l, okD d ∧ tot d ≤ 20 ∧ right 199 d = true := by
    intro d hd
    rcases List.mem_cons.mp hd with rfl | hd
    · exact ⟨⟨by show 1 ≤ maxLen; decide, Nat.zero_le _, trivial⟩, by decide, by rw [hdA, right, rightC, if_pos rfl]; try rfl⟩
    · obtain ⟨x, _, rfl⟩ := List.mem_map.mp hd
      obtain ⟨h1, h2⟩ := nstK_ok (x % 8).toNat
      exact ⟨h1, by omega, nstK_right _ _ (by omega)⟩
  have ok : okD (.mk 6 0 ByteArray.empty (hdK l)) := ⟨Nat.zero_le _, by show (hdK l).length ≤ maxLen; omega, okDs_of fun d hd => (each d hd).1⟩
  have ht : tots (hdK l) ≤ (hdK l).length * 20 := tots_of fun d hd => (each d hd).2.1
  have hT : tot (.mk 6 0 ByteArray.empty (hdK l)) = 1 + tots (hdK l) := by
    have : ByteArray.empty.size = 0 := rfl
    rw [tot, this]
  have hb := pcs_le 1000 i ok 1000 1000 (by have := dsz_tot (.mk 6 0 ByteArray.empty (hdK l)); omega) (by omega)
  have hr : right 200 (.mk 6 0 ByteArray.empty (hdK l)) = true := by
    rw [right, rightC, if_neg (by decide), if_neg (by decide), if_pos (by decide), if_pos ⟨⟨by decide, em0⟩, rfl⟩]
    exact rights_of fun d hd => (each d hd).2.2
  refine ⟨ok, by omega, by omega, by omega, ?_⟩
  have hmw : mx 1 (mn 1000 1000) = 1000 := by decide
  have hmi : mx 0 (mn i 16) = i := by unfold mx mn; split <;> split <;> omega
  rw [pcs, if_pos hr, rnd, hmw, hmi, layR_grp, List.append_nil, hdK, List.map_cons]
  rw [show hdA = Doc.mk 1 (-1) ⟨#[97]⟩ [] from rfl, layR_text _ _ _ _ _ _ _ _ (by decide), wholeP_cons, hdW]
  cases l with
  | nil => rfl
  | cons x l =>
    have hf : fitsR 1000 0 (.mk 6 0 ByteArray.empty (Doc.mk 1 (-1) ⟨#[97]⟩ [] :: (x :: l).map fun w => nstK (w % 8).toNat)) [] = false := by
      rw [fitsR, rfS, if_neg (by decide), if_neg (by decide), if_neg (by decide), if_neg (by decide), List.map_cons, rfL, if_pos (by rw [rfS]; rfl), rfL, if_neg (by rw [nstK_rf]; decide)]
      rfl
    rw [hf, List.map_map]
    show _ ++ wholeP (layR 1000 i ((x :: l).map fun x => ⟨nstK (x % 8).toNat, 0, false⟩) _) = _
    rw [hd_lay]
    rfl
theorem hdW_len (i : Int) (hi : 0 ≤ i ∧ i ≤ 16) : ∀ (l : List Int), (hdW i l).length ≤ 1 + l.length * 120
  | [] => by simp [hdW]
  | x :: l => by
    have ih := hdW_len i hi l
    have hx : (lineT (x % 8 * i)).data.toList.length ≤ 1 + 112 := by
      have hb : (blanksB (x % 8 * i)).size = (x % 8 * i).toNat := by rw [blanksB, ba_size, List.length_replicate]
      have h7 : x % 8 ≤ 7 ∧ 0 ≤ x % 8 := by omega
      have a1 : x % 8 * i ≤ 7 * 16 := Int.le_trans (Int.mul_le_mul_of_nonneg_right h7.1 hi.1) (by omega)
      rw [size_toList, lineT, ByteArray.size_append, hb, show (⟨#[10]⟩ : ByteArray).size = 1 from rfl]; omega
    simp only [hdW, List.length_cons, List.flatMap_cons, List.length_append, List.length_nil] at ih ⊢
    omega
theorem nstK_docN (k : Nat) : docN (nstK k) = [.v (.int .i64 (nstK k).k), .v (.int .i64 0), .v (.string ByteArray.empty), .sl 4 (docNs (nstK k).kids)] := by
  cases k with
  | zero => rw [nstK, hdX, docN]; rfl
  | succ k => rw [nstK, docN]; rfl
theorem hdK_snoc (l : List Int) (x : Int) : hdK (l ++ [x]) = hdK l ++ [nstK (x % 8).toNat] := by simp [hdK]
theorem hdW_snoc (i : Int) (l : List Int) (x : Int) (hi : 0 ≤ i) : hdW i (l ++ [x]) = hdW i l ++ (10 :: List.replicate ((x % 8).toNat * i.toNat) 32 ++ [98]) := by
  have e : (x % 8 * i).toNat = (x % 8).toNat * i.toNat := Int.toNat_mul (by omega) hi
  simp only [hdW, List.flatMap_append, List.flatMap_cons, List.flatMap_nil, List.append_nil, lineT_data, blanksB, e, List.cons_append]
theorem RenderHard_body (ls : List Int) (i : Int) (h0 : ls.length ≤ maxLen ∧ ∀ x ∈ ls, (Lit.int .i64 x).wf = true) (_ : (Lit.int .i64 i).wf = true) : Body Try.prog G11e (DRun Try.prog G11e) 6 [.d (intsD ls), .d (.v (.int .i64 i))] (vBool true) := by
  refine Body.of Try.func6 Try.ntmps6 (by kernel_rfl) rfl rfl rfl ?_
  simp only [intsD, G11e_at, calmE, F_alive11, F_Pieces, F_PText, AV.flat, AV.flat.flatL, List.length_map, goTG_val, goTG_new, goTG_up, goTG_none, goG_none, goG_new, goG_up, ne_eq, evK, evH, retHF, DRun_mk, runT_nil, runT_none, runT_guard, goT_val, goT_new, goT_store, goTH_true, goTH_false, evO, keys, Option.toList_some, Option.toList_none, nzL_nil, nzL_cons, nz_k, nz_sl, nz_nil, nz_agg, startL, evC, evV, goE_val, goE_new, goE_store, goH_true, goH_false, goG_val, lk_cons, lk_nil, lk_func, lk_int, lk_bool, lk_string, lk_slice, lk_agg, look_mk, St.effOf, eff, effCall, effBin, effUn, effConv, effPick, effNil, effFold, fold1, effLoad, effStore, effFieldAddr, effField, fieldOf, sliceOf, effIndexAddr, effIndex, effLen, effExtract, effSlice, bnd, effBuild, placesOf, effBuildSlice, effMakeSlice, effAppend, srcOf, fillA, chunk, seg, toD, toDs, put, eqAV, fieldsEq, leafEq, strip, unw, allB, selP_or, selP_and, tis, TyD.agg, AV.cells, AV.cell, allCell, vInt, vBool, vStr, subL_nil, subL_cons, upIds, AV.ids, AV.ids.idsL, AObj.ids, drops, Hp.get_cons, get_nil, retF, resL, one, fz, fz.fzL, List.map_cons, List.map_nil, List.nil_append, List.append_nil, List.cons_append, List.all_cons, List.all_nil, List.length_cons, List.length_nil, List.getElem?_cons_zero, List.getElem?_cons_succ, List.getD_cons_zero, List.getD_cons_succ, List.take_succ_cons, List.take_zero, List.drop_succ_cons, List.drop_zero, List.take_nil, List.drop_nil, List.contains_cons, List.contains_nil, Option.getD_some, Option.getD_none, Option.map_some, Option.map_none, if_true, if_false, true_and, and_true, and_self, or_self, or_false, false_or, false_and, and_false, reduceCtorEq, sel_and, sel_or, decide_eq_true_eq, Bool.and_eq_true, Bool.or_eq_true, Bool.and_true, Bool.true_and, Bool.or_false, Bool.false_or, Bool.true_or, Bool.or_true, Bool.not_true, Bool.not_false, Bool.false_eq_true, implies_true, not_false_eq_true, Nat.reduceLT, Nat.reduceEqDiff, Nat.reduceAdd, Nat.reduceMul, Nat.reduceMod, Nat.reduceLeDiff, Nat.reduceBEq, Nat.zero_add, Nat.add_zero, reduceIte, ↓reduceIte, List.not_mem_nil]
  by_cases c : ((ls.length : Int) > 20 ∨ i < 0) ∨ i > 16
  · rw [if_pos c]
    try exact Sub.refl _
  rw [if_neg c]
  have hi : 0 ≤ i ∧ i ≤ 16 := by omega
  refine wpc_loop (fun j : Nat => ⟨79, [100], [(0, .d (intsD ls)), (1, vInt .i64 i), (6, .row 100 (hdK (ls.take j)).length), (7, vStr ⟨(hdW i (ls.take j)).toArray⟩), (8, vInt .i64 j)], [(100, some (.row 24 4 (docNs (hdK (ls.take j)))))]⟩) (fun j => j ≤ ls.length) (fun j => ls.length - j) 0 (Nat.zero_le _) ?_ ?_
  · refine Le.of (fun _ => 33) [] ?_
    simp only [intsD, List.take_zero, hdK, hdW, hdA, docNs, docN, List.map_nil, List.flatMap_nil, List.length_nil, List.length_cons, Mt_tup, Mt_agg, Mt_fn, forall_eq, forall_eq_or_imp, ne_eq, List.all_cons, List.all_nil, pr, Nat.reduceLeDiff, slR_nil, slR_cons, hpR_nil, hpR_cells, hpR_row, idsR_nil, idsR_cons, mtE_v, mtE_sl, mtE_nil, mtE_refl, mtE_row, mtE_born, mtE_ptr, mtE_rp, mtE_agg, mtE_tup, mtE_fn, mtE_ep, MtL_nil, MtL_cons, Mt_v, Mt_sl, Mt_nil, Mt_refl, Mt_row, Mt_born, Mt_ptr, MtO_cells, MtO_row, liveIds, distinct, Dat.v.injEq, Dat.sl.injEq, Value.int.injEq, Value.bool.injEq, Value.string.injEq, lk_cons, lk_nil, subL_nil, subL_cons, upIds, AV.ids, AV.ids.idsL, AObj.ids, Hp.get_cons, get_nil, allCell, AV.cell, vInt, vBool, vStr, id, true_and, and_true, and_self, List.append_nil, List.nil_append, List.not_mem_nil, List.mem_cons, or_false, false_or, or_self, not_true_eq_false, not_false_eq_true, false_imp_iff, false_implies, List.map_nil, not_false_eq_true, List.contains_cons, List.contains_nil, Bool.or_false, Bool.false_or, Bool.true_or, Bool.or_true, Bool.and_true, Bool.true_and, implies_true, if_true, if_false, reduceCtorEq, Nat.reduceEqDiff, Nat.reduceBEq, Nat.reduceAdd, reduceIte, ↓reduceIte]
    rfl
  · intro j hj
    by_cases hj2 : (j : Int) < ls.length
    · obtain ⟨x, hx⟩ : ∃ x, ls[j]? = some x := ⟨_, List.getElem?_eq_getElem (by omega)⟩
      have hg : ls.getD (j : Int).toNat 0 = x := getD_at hx
      simp only [intsD, getD_iD, hg, iD, and7, List.length_map, goTG_val, goTG_new, goTG_up, goTG_none, goG_none, goG_new, goG_up, ne_eq, evK, evH, retHF, DRun_mk, runT_nil, runT_none, runT_guard, goT_val, goT_new, goT_store, goTH_true, goTH_false, evO, keys, Option.toList_some, Option.toList_none, nzL_nil, nzL_cons, nz_k, nz_sl, nz_nil, nz_agg, startL, evC, evV, goE_val, goE_new, goE_store, goH_true, goH_false, goG_val, lk_cons, lk_nil, lk_func, lk_int, lk_bool, lk_string, lk_slice, lk_agg, look_mk, St.effOf, eff, effCall, effBin, effUn, effConv, effPick, effNil, effFold, fold1, effLoad, effStore, effFieldAddr, effField, fieldOf, sliceOf, effIndexAddr, effIndex, effLen, effExtract, effSlice, bnd, effBuild, placesOf, effBuildSlice, effMakeSlice, effAppend, srcOf, fillA, chunk, seg, toD, toDs, put, eqAV, fieldsEq, leafEq, strip, unw, allB, selP_or, selP_and, tis, TyD.agg, AV.cells, AV.cell, allCell, vInt, vBool, vStr, subL_nil, subL_cons, upIds, AV.ids, AV.ids.idsL, AObj.ids, drops, Hp.get_cons, get_nil, retF, resL, one, fz, fz.fzL, List.map_cons, List.map_nil, List.nil_append, List.append_nil, List.cons_append, List.all_cons, List.all_nil, List.length_cons, List.length_nil, List.getElem?_cons_zero, List.getElem?_cons_succ, List.getD_cons_zero, List.getD_cons_succ, List.take_succ_cons, List.take_zero, List.drop_succ_cons, List.drop_zero, List.take_nil, List.drop_nil, List.contains_cons, List.contains_nil, Option.getD_some, Option.getD_none, Option.map_some, Option.map_none, if_true, if_false, true_and, and_true, and_self, or_self, or_false, false_or, false_and, and_false, reduceCtorEq, sel_and, sel_or, decide_eq_true_eq, Bool.and_eq_true, Bool.or_eq_true, Bool.and_true, Bool.true_and, Bool.or_false, Bool.false_or, Bool.true_or, Bool.or_true, Bool.not_true, Bool.not_false, Bool.false_eq_true, implies_true, not_false_eq_true, Nat.reduceLT, Nat.reduceEqDiff, Nat.reduceAdd, Nat.reduceMul, Nat.reduceMod, Nat.reduceLeDiff, Nat.reduceBEq, Nat.zero_add, Nat.add_zero, reduceIte, ↓reduceIte, List.not_mem_nil]
      rw [if_pos hj2]
      have hA := hdW_len i hi (ls.take j)
      rw [List.length_take] at hA
      have hx7 : 0 ≤ x % 8 ∧ x % 8 ≤ 7 := by omega
      have hkl : (hdK (ls.take j)).length = j + 1 := by simp only [hdK, List.length_cons, List.length_map, List.length_take]; omega
      generalize hAe : hdW i (ls.take j) = A at hA ⊢
      refine ⟨by omega, by rw [ba_size, show (⟨#[10]⟩ : ByteArray).size = 1 from rfl]; omega, ?_⟩
      refine wpc_loop (fun k : Nat => ⟨79, [110, 147, 100], [(0, .d (intsD ls)), (1, vInt .i64 i), (6, .row 100 (hdK (ls.take j)).length), (7, vStr ⟨(A ++ 10 :: List.replicate (k * i.toNat) 32).toArray⟩), (8, vInt .i64 j), (9, vInt .i64 (x % 8)), (10, .ptr 110 0), (11, vInt .i64 k)], [(110, some (.cells 24 [vInt .i64 (nstK k).k, vInt .i64 0, vStr ByteArray.empty, .row 147 (nstK k).kids.length])), (147, some (.row 24 4 (docNs (nstK k).kids))), (100, some (.row 24 4 (docNs (hdK (ls.take j)))))]⟩) (fun k => k ≤ (x % 8).toNat) (fun k => (x % 8).toNat - k) 0 (Nat.zero_le _) ?_ ?_
      · refine Le.of (fun o => if o = 110 then 10 else if o = 147 then 47 else o) [] ?_
        simp only [intsD, nstK, hdX, docN, docNs, Doc.k, Doc.kids, List.length_cons, List.length_nil, Nat.zero_mul, List.replicate_zero, ba_app', List.map_cons, List.map_nil, Mt_tup, Mt_agg, Mt_fn, forall_eq, forall_eq_or_imp, ne_eq, List.all_cons, List.all_nil, pr, Nat.reduceLeDiff, slR_nil, slR_cons, hpR_nil, hpR_cells, hpR_row, idsR_nil, idsR_cons, mtE_v, mtE_sl, mtE_nil, mtE_refl, mtE_row, mtE_born, mtE_ptr, mtE_rp, mtE_agg, mtE_tup, mtE_fn, mtE_ep, MtL_nil, MtL_cons, Mt_v, Mt_sl, Mt_nil, Mt_refl, Mt_row, Mt_born, Mt_ptr, MtO_cells, MtO_row, liveIds, distinct, Dat.v.injEq, Dat.sl.injEq, Value.int.injEq, Value.bool.injEq, Value.string.injEq, lk_cons, lk_nil, subL_nil, subL_cons, upIds, AV.ids, AV.ids.idsL, AObj.ids, Hp.get_cons, get_nil, allCell, AV.cell, vInt, vBool, vStr, id, true_and, and_true, and_self, List.append_nil, List.nil_append, List.not_mem_nil, List.mem_cons, or_false, false_or, or_self, not_true_eq_false, not_false_eq_true, false_imp_iff, false_implies, List.map_nil, not_false_eq_true, List.contains_cons, List.contains_nil, Bool.or_false, Bool.false_or, Bool.true_or, Bool.or_true, Bool.and_true, Bool.true_and, implies_true, if_true, if_false, reduceCtorEq, Nat.reduceEqDiff, Nat.reduceBEq, Nat.reduceAdd, reduceIte, ↓reduceIte]
        exact ⟨rfl, rfl⟩
      · intro k hk
        have hki : k * i.toNat ≤ 112 := Nat.le_trans (Nat.mul_le_mul (show k ≤ 7 by omega) (show i.toNat ≤ 16 by omega)) (by decide)
        by_cases hk2 : (k : Int) < x % 8
        · simp only [intsD, List.map_cons, List.map_nil, goTG_val, goTG_new, goTG_up, goTG_none, goG_none, goG_new, goG_up, ne_eq, evK, evH, retHF, DRun_mk, runT_nil, runT_none, runT_guard, goT_val, goT_new, goT_store, goTH_true, goTH_false, evO, keys, Option.toList_some, Option.toList_none, nzL_nil, nzL_cons, nz_k, nz_sl, nz_nil, nz_agg, startL, evC, evV, goE_val, goE_new, goE_store, goH_true, goH_false, goG_val, lk_cons, lk_nil, lk_func, lk_int, lk_bool, lk_string, lk_slice, lk_agg, look_mk, St.effOf, eff, effCall, effBin, effUn, effConv, effPick, effNil, effFold, fold1, effLoad, effStore, effFieldAddr, effField, fieldOf, sliceOf, effIndexAddr, effIndex, effLen, effExtract, effSlice, bnd, effBuild, placesOf, effBuildSlice, effMakeSlice, effAppend, srcOf, fillA, chunk, seg, toD, toDs, put, eqAV, fieldsEq, leafEq, strip, unw, allB, selP_or, selP_and, tis, TyD.agg, AV.cells, AV.cell, allCell, vInt, vBool, vStr, subL_nil, subL_cons, upIds, AV.ids, AV.ids.idsL, AObj.ids, drops, Hp.get_cons, get_nil, retF, resL, one, fz, fz.fzL, List.map_cons, List.map_nil, List.nil_append, List.append_nil, List.cons_append, List.all_cons, List.all_nil, List.length_cons, List.length_nil, List.getElem?_cons_zero, List.getElem?_cons_succ, List.getD_cons_zero, List.getD_cons_succ, List.take_succ_cons, List.take_zero, List.drop_succ_cons, List.drop_zero, List.take_nil, List.drop_nil, List.contains_cons, List.contains_nil, Option.getD_some, Option.getD_none, Option.map_some, Option.map_none, if_true, if_false, true_and, and_true, and_self, or_self, or_false, false_or, false_and, and_false, reduceCtorEq, sel_and, sel_or, decide_eq_true_eq, Bool.and_eq_true, Bool.or_eq_true, Bool.and_true, Bool.true_and, Bool.or_false, Bool.false_or, Bool.true_or, Bool.or_true, Bool.not_true, Bool.not_false, Bool.false_eq_true, implies_true, not_false_eq_true, Nat.reduceLT, Nat.reduceEqDiff, Nat.reduceAdd, Nat.reduceMul, Nat.reduceMod, Nat.reduceLeDiff, Nat.reduceBEq, Nat.zero_add, Nat.add_zero, reduceIte, ↓reduceIte, List.not_mem_nil]
          rw [if_pos hk2]
          refine wpc_loop (fun m : Nat => ⟨79, [110, 147, 100], [(0, .d (intsD ls)), (1, vInt .i64 i), (6, .row 100 (hdK (ls.take j)).length), (7, vStr ⟨(A ++ 10 :: List.replicate (k * i.toNat + m) 32).toArray⟩), (8, vInt .i64 j), (9, vInt .i64 (x % 8)), (10, .ptr 110 0), (11, vInt .i64 k), (12, vInt .i64 m)], [(110, some (.cells 24 [vInt .i64 (nstK (k + 1)).k, vInt .i64 0, vStr ByteArray.empty, .row 147 (nstK (k + 1)).kids.length])), (147, some (.row 24 4 (docNs (nstK (k + 1)).kids))), (100, some (.row 24 4 (docNs (hdK (ls.take j)))))]⟩) (fun m => m ≤ i.toNat) (fun m => i.toNat - m) 0 (Nat.zero_le _) ?_ ?_
          · refine Le.of (fun o => if o = 147 then 57 else o) [] ?_
            simp only [intsD, show (nstK (k + 1)).k = 7 from rfl, show (nstK (k + 1)).kids = [nstK k] from rfl, nstK_docN, docNs, List.length_cons, List.length_nil, Nat.add_zero, List.map_cons, List.map_nil, Mt_tup, Mt_agg, Mt_fn, forall_eq, forall_eq_or_imp, ne_eq, List.all_cons, List.all_nil, pr, Nat.reduceLeDiff, slR_nil, slR_cons, hpR_nil, hpR_cells, hpR_row, idsR_nil, idsR_cons, mtE_v, mtE_sl, mtE_nil, mtE_refl, mtE_row, mtE_born, mtE_ptr, mtE_rp, mtE_agg, mtE_tup, mtE_fn, mtE_ep, MtL_nil, MtL_cons, Mt_v, Mt_sl, Mt_nil, Mt_refl, Mt_row, Mt_born, Mt_ptr, MtO_cells, MtO_row, liveIds, distinct, Dat.v.injEq, Dat.sl.injEq, Value.int.injEq, Value.bool.injEq, Value.string.injEq, lk_cons, lk_nil, subL_nil, subL_cons, upIds, AV.ids, AV.ids.idsL, AObj.ids, Hp.get_cons, get_nil, allCell, AV.cell, vInt, vBool, vStr, id, true_and, and_true, and_self, List.append_nil, List.nil_append, List.not_mem_nil, List.mem_cons, or_false, false_or, or_self, not_true_eq_false, not_false_eq_true, false_imp_iff, false_implies, List.map_nil, not_false_eq_true, List.contains_cons, List.contains_nil, Bool.or_false, Bool.false_or, Bool.true_or, Bool.or_true, Bool.and_true, Bool.true_and, implies_true, if_true, if_false, reduceCtorEq, Nat.reduceEqDiff, Nat.reduceBEq, Nat.reduceAdd, reduceIte, ↓reduceIte]
            exact ⟨rfl, rfl⟩
          · intro m hm
            by_cases hm2 : (m : Int) < i
            · simp only [intsD, List.map_cons, List.map_nil, goTG_val, goTG_new, goTG_up, goTG_none, goG_none, goG_new, goG_up, ne_eq, evK, evH, retHF, DRun_mk, runT_nil, runT_none, runT_guard, goT_val, goT_new, goT_store, goTH_true, goTH_false, evO, keys, Option.toList_some, Option.toList_none, nzL_nil, nzL_cons, nz_k, nz_sl, nz_nil, nz_agg, startL, evC, evV, goE_val, goE_new, goE_store, goH_true, goH_false, goG_val, lk_cons, lk_nil, lk_func, lk_int, lk_bool, lk_string, lk_slice, lk_agg, look_mk, St.effOf, eff, effCall, effBin, effUn, effConv, effPick, effNil, effFold, fold1, effLoad, effStore, effFieldAddr, effField, fieldOf, sliceOf, effIndexAddr, effIndex, effLen, effExtract, effSlice, bnd, effBuild, placesOf, effBuildSlice, effMakeSlice, effAppend, srcOf, fillA, chunk, seg, toD, toDs, put, eqAV, fieldsEq, leafEq, strip, unw, allB, selP_or, selP_and, tis, TyD.agg, AV.cells, AV.cell, allCell, vInt, vBool, vStr, subL_nil, subL_cons, upIds, AV.ids, AV.ids.idsL, AObj.ids, drops, Hp.get_cons, get_nil, retF, resL, one, fz, fz.fzL, List.map_cons, List.map_nil, List.nil_append, List.append_nil, List.cons_append, List.all_cons, List.all_nil, List.length_cons, List.length_nil, List.getElem?_cons_zero, List.getElem?_cons_succ, List.getD_cons_zero, List.getD_cons_succ, List.take_succ_cons, List.take_zero, List.drop_succ_cons, List.drop_zero, List.take_nil, List.drop_nil, List.contains_cons, List.contains_nil, Option.getD_some, Option.getD_none, Option.map_some, Option.map_none, if_true, if_false, true_and, and_true, and_self, or_self, or_false, false_or, false_and, and_false, reduceCtorEq, sel_and, sel_or, decide_eq_true_eq, Bool.and_eq_true, Bool.or_eq_true, Bool.and_true, Bool.true_and, Bool.or_false, Bool.false_or, Bool.true_or, Bool.or_true, Bool.not_true, Bool.not_false, Bool.false_eq_true, implies_true, not_false_eq_true, Nat.reduceLT, Nat.reduceEqDiff, Nat.reduceAdd, Nat.reduceMul, Nat.reduceMod, Nat.reduceLeDiff, Nat.reduceBEq, Nat.zero_add, Nat.add_zero, reduceIte, ↓reduceIte, List.not_mem_nil]
              rw [if_pos hm2]
              have e : (⟨(A ++ 10 :: List.replicate (k * i.toNat + m) 32).toArray⟩ : ByteArray) ++ ⟨#[32]⟩ = ⟨(A ++ 10 :: List.replicate (k * i.toNat + (m + 1)) 32).toArray⟩ := by
                rw [show (⟨#[32]⟩ : ByteArray) = ⟨[32].toArray⟩ from rfl, ba_app, List.append_assoc, List.cons_append, ← List.replicate_succ']
                rfl
              refine ⟨by rw [ba_size, show (⟨#[32]⟩ : ByteArray).size = 1 from rfl, List.length_append, List.length_cons, List.length_replicate]; omega, m + 1, by omega, by omega, Le.of id [] ?_⟩
              rw [e]
              simp only [intsD, Mt_tup, Mt_agg, Mt_fn, forall_eq, forall_eq_or_imp, ne_eq, List.all_cons, List.all_nil, pr, Nat.reduceLeDiff, slR_nil, slR_cons, hpR_nil, hpR_cells, hpR_row, idsR_nil, idsR_cons, mtE_v, mtE_sl, mtE_nil, mtE_refl, mtE_row, mtE_born, mtE_ptr, mtE_rp, mtE_agg, mtE_tup, mtE_fn, mtE_ep, MtL_nil, MtL_cons, Mt_v, Mt_sl, Mt_nil, Mt_refl, Mt_row, Mt_born, Mt_ptr, MtO_cells, MtO_row, liveIds, distinct, Dat.v.injEq, Dat.sl.injEq, Value.int.injEq, Value.bool.injEq, Value.string.injEq, lk_cons, lk_nil, subL_nil, subL_cons, upIds, AV.ids, AV.ids.idsL, AObj.ids, Hp.get_cons, get_nil, allCell, AV.cell, vInt, vBool, vStr, id, true_and, and_true, and_self, List.append_nil, List.nil_append, List.not_mem_nil, List.mem_cons, or_false, false_or, or_self, not_true_eq_false, not_false_eq_true, false_imp_iff, false_implies, List.map_nil, not_false_eq_true, List.contains_cons, List.contains_nil, Bool.or_false, Bool.false_or, Bool.true_or, Bool.or_true, Bool.and_true, Bool.true_and, implies_true, if_true, if_false, reduceCtorEq, Nat.reduceEqDiff, Nat.reduceBEq, Nat.reduceAdd, reduceIte, ↓reduceIte]
              exact ⟨w64 (by omega) (by omega), rfl⟩
            · simp only [intsD, List.map_cons, List.map_nil, goTG_val, goTG_new, goTG_up, goTG_none, goG_none, goG_new, goG_up, ne_eq, evK, evH, retHF, DRun_mk, runT_nil, runT_none, runT_guard, goT_val, goT_new, goT_store, goTH_true, goTH_false, evO, keys, Option.toList_some, Option.toList_none, nzL_nil, nzL_cons, nz_k, nz_sl, nz_nil, nz_agg, startL, evC, evV, goE_val, goE_new, goE_store, goH_true, goH_false, goG_val, lk_cons, lk_nil, lk_func, lk_int, lk_bool, lk_string, lk_slice, lk_agg, look_mk, St.effOf, eff, effCall, effBin, effUn, effConv, effPick, effNil, effFold, fold1, effLoad, effStore, effFieldAddr, effField, fieldOf, sliceOf, effIndexAddr, effIndex, effLen, effExtract, effSlice, bnd, effBuild, placesOf, effBuildSlice, effMakeSlice, effAppend, srcOf, fillA, chunk, seg, toD, toDs, put, eqAV, fieldsEq, leafEq, strip, unw, allB, selP_or, selP_and, tis, TyD.agg, AV.cells, AV.cell, allCell, vInt, vBool, vStr, subL_nil, subL_cons, upIds, AV.ids, AV.ids.idsL, AObj.ids, drops, Hp.get_cons, get_nil, retF, resL, one, fz, fz.fzL, List.map_cons, List.map_nil, List.nil_append, List.append_nil, List.cons_append, List.all_cons, List.all_nil, List.length_cons, List.length_nil, List.getElem?_cons_zero, List.getElem?_cons_succ, List.getD_cons_zero, List.getD_cons_succ, List.take_succ_cons, List.take_zero, List.drop_succ_cons, List.drop_zero, List.take_nil, List.drop_nil, List.contains_cons, List.contains_nil, Option.getD_some, Option.getD_none, Option.map_some, Option.map_none, if_true, if_false, true_and, and_true, and_self, or_self, or_false, false_or, false_and, and_false, reduceCtorEq, sel_and, sel_or, decide_eq_true_eq, Bool.and_eq_true, Bool.or_eq_true, Bool.and_true, Bool.true_and, Bool.or_false, Bool.false_or, Bool.true_or, Bool.or_true, Bool.not_true, Bool.not_false, Bool.false_eq_true, implies_true, not_false_eq_true, Nat.reduceLT, Nat.reduceEqDiff, Nat.reduceAdd, Nat.reduceMul, Nat.reduceMod, Nat.reduceLeDiff, Nat.reduceBEq, Nat.zero_add, Nat.add_zero, reduceIte, ↓reduceIte, List.not_mem_nil]
              rw [if_neg hm2]
              obtain rfl : m = i.toNat := by omega
              refine ⟨k + 1, by omega, by omega, Le.of id [] ?_⟩
              rw [show k * i.toNat + i.toNat = (k + 1) * i.toNat by rw [Nat.add_mul]; omega]
              simp only [intsD, Mt_tup, Mt_agg, Mt_fn, forall_eq, forall_eq_or_imp, ne_eq, List.all_cons, List.all_nil, pr, Nat.reduceLeDiff, slR_nil, slR_cons, hpR_nil, hpR_cells, hpR_row, idsR_nil, idsR_cons, mtE_v, mtE_sl, mtE_nil, mtE_refl, mtE_row, mtE_born, mtE_ptr, mtE_rp, mtE_agg, mtE_tup, mtE_fn, mtE_ep, MtL_nil, MtL_cons, Mt_v, Mt_sl, Mt_nil, Mt_refl, Mt_row, Mt_born, Mt_ptr, MtO_cells, MtO_row, liveIds, distinct, Dat.v.injEq, Dat.sl.injEq, Value.int.injEq, Value.bool.injEq, Value.string.injEq, lk_cons, lk_nil, subL_nil, subL_cons, upIds, AV.ids, AV.ids.idsL, AObj.ids, Hp.get_cons, get_nil, allCell, AV.cell, vInt, vBool, vStr, id, true_and, and_true, and_self, List.append_nil, List.nil_append, List.not_mem_nil, List.mem_cons, or_false, false_or, or_self, not_true_eq_false, not_false_eq_true, false_imp_iff, false_implies, List.map_nil, not_false_eq_true, List.contains_cons, List.contains_nil, Bool.or_false, Bool.false_or, Bool.true_or, Bool.or_true, Bool.and_true, Bool.true_and, implies_true, if_true, if_false, reduceCtorEq, Nat.reduceEqDiff, Nat.reduceBEq, Nat.reduceAdd, reduceIte, ↓reduceIte]
              exact ⟨w64 (by omega) (by omega), rfl⟩
        · simp only [goTG_val, goTG_new, goTG_up, goTG_none, goG_none, goG_new, goG_up, ne_eq, evK, evH, retHF, DRun_mk, runT_nil, runT_none, runT_guard, goT_val, goT_new, goT_store, goTH_true, goTH_false, evO, keys, Option.toList_some, Option.toList_none, nzL_nil, nzL_cons, nz_k, nz_sl, nz_nil, nz_agg, startL, evC, evV, goE_val, goE_new, goE_store, goH_true, goH_false, goG_val, lk_cons, lk_nil, lk_func, lk_int, lk_bool, lk_string, lk_slice, lk_agg, look_mk, St.effOf, eff, effCall, effBin, effUn, effConv, effPick, effNil, effFold, fold1, effLoad, effStore, effFieldAddr, effField, fieldOf, sliceOf, effIndexAddr, effIndex, effLen, effExtract, effSlice, bnd, effBuild, placesOf, effBuildSlice, effMakeSlice, effAppend, srcOf, fillA, chunk, seg, toD, toDs, put, eqAV, fieldsEq, leafEq, strip, unw, allB, selP_or, selP_and, tis, TyD.agg, AV.cells, AV.cell, allCell, vInt, vBool, vStr, subL_nil, subL_cons, upIds, AV.ids, AV.ids.idsL, AObj.ids, drops, Hp.get_cons, get_nil, retF, resL, one, fz, fz.fzL, List.map_cons, List.map_nil, List.nil_append, List.append_nil, List.cons_append, List.all_cons, List.all_nil, List.length_cons, List.length_nil, List.getElem?_cons_zero, List.getElem?_cons_succ, List.getD_cons_zero, List.getD_cons_succ, List.take_succ_cons, List.take_zero, List.drop_succ_cons, List.drop_zero, List.take_nil, List.drop_nil, List.contains_cons, List.contains_nil, Option.getD_some, Option.getD_none, Option.map_some, Option.map_none, if_true, if_false, true_and, and_true, and_self, or_self, or_false, false_or, false_and, and_false, reduceCtorEq, sel_and, sel_or, decide_eq_true_eq, Bool.and_eq_true, Bool.or_eq_true, Bool.and_true, Bool.true_and, Bool.or_false, Bool.false_or, Bool.true_or, Bool.or_true, Bool.not_true, Bool.not_false, Bool.false_eq_true, implies_true, not_false_eq_true, Nat.reduceLT, Nat.reduceEqDiff, Nat.reduceAdd, Nat.reduceMul, Nat.reduceMod, Nat.reduceLeDiff, Nat.reduceBEq, Nat.zero_add, Nat.add_zero, reduceIte, ↓reduceIte, List.not_mem_nil]
          rw [if_neg hk2]
          obtain rfl : k = (x % 8).toNat := by omega
          have s1 := hdK_snoc (ls.take j) x
          have s2 := hdW_snoc i (ls.take j) x hi.1
          rw [← take_at hx] at s1 s2
          rw [hAe] at s2
          refine ⟨by rw [ba_size, show (⟨#[98]⟩ : ByteArray).size = 1 from rfl, List.length_append, List.length_cons, List.length_replicate]; omega, by rw [docNs_len]; omega, j + 1, by omega, by omega, Le.of (fun o => if o = 100 then 71 else o) [] ?_⟩
          rw [s1, s2]
          simp only [intsD, ba_app', docNs_app, docNs, docNs_len, nstK_docN, List.length_append, List.length_cons, List.length_nil, Mt_tup, Mt_agg, Mt_fn, forall_eq, forall_eq_or_imp, ne_eq, List.all_cons, List.all_nil, pr, Nat.reduceLeDiff, slR_nil, slR_cons, hpR_nil, hpR_cells, hpR_row, idsR_nil, idsR_cons, mtE_v, mtE_sl, mtE_nil, mtE_refl, mtE_row, mtE_born, mtE_ptr, mtE_rp, mtE_agg, mtE_tup, mtE_fn, mtE_ep, MtL_nil, MtL_cons, Mt_v, Mt_sl, Mt_nil, Mt_refl, Mt_row, Mt_born, Mt_ptr, MtO_cells, MtO_row, liveIds, distinct, Dat.v.injEq, Dat.sl.injEq, Value.int.injEq, Value.bool.injEq, Value.string.injEq, lk_cons, lk_nil, subL_nil, subL_cons, upIds, AV.ids, AV.ids.idsL, AObj.ids, Hp.get_cons, get_nil, allCell, AV.cell, vInt, vBool, vStr, id, true_and, and_true, and_self, List.append_nil, List.nil_append, List.not_mem_nil, List.mem_cons, or_false, false_or, or_self, not_true_eq_false, not_false_eq_true, false_imp_iff, false_implies, List.map_nil, not_false_eq_true, List.contains_cons, List.contains_nil, Bool.or_false, Bool.false_or, Bool.true_or, Bool.or_true, Bool.and_true, Bool.true_and, implies_true, if_true, if_false, reduceCtorEq, Nat.reduceEqDiff, Nat.reduceBEq, Nat.reduceAdd, reduceIte, ↓reduceIte]
          refine ⟨?_, w64 (by omega) (by omega)⟩
          first | rfl | (simp only [List.append_assoc, List.cons_append])
    · simp only [intsD, List.length_map, goTG_val, goTG_new, goTG_up, goTG_none, goG_none, goG_new, goG_up, ne_eq, evK, evH, retHF, DRun_mk, runT_nil, runT_none, runT_guard, goT_val, goT_new, goT_store, goTH_true, goTH_false, evO, keys, Option.toList_some, Option.toList_none, nzL_nil, nzL_cons, nz_k, nz_sl, nz_nil, nz_agg, startL, evC, evV, goE_val, goE_new, goE_store, goH_true, goH_false, goG_val, lk_cons, lk_nil, lk_func, lk_int, lk_bool, lk_string, lk_slice, lk_agg, look_mk, St.effOf, eff, effCall, effBin, effUn, effConv, effPick, effNil, effFold, fold1, effLoad, effStore, effFieldAddr, effField, fieldOf, sliceOf, effIndexAddr, effIndex, effLen, effExtract, effSlice, bnd, effBuild, placesOf, effBuildSlice, effMakeSlice, effAppend, srcOf, fillA, chunk, seg, toD, toDs, put, eqAV, fieldsEq, leafEq, strip, unw, allB, selP_or, selP_and, tis, TyD.agg, AV.cells, AV.cell, allCell, vInt, vBool, vStr, subL_nil, subL_cons, upIds, AV.ids, AV.ids.idsL, AObj.ids, drops, Hp.get_cons, get_nil, retF, resL, one, fz, fz.fzL, List.map_cons, List.map_nil, List.nil_append, List.append_nil, List.cons_append, List.all_cons, List.all_nil, List.length_cons, List.length_nil, List.getElem?_cons_zero, List.getElem?_cons_succ, List.getD_cons_zero, List.getD_cons_succ, List.take_succ_cons, List.take_zero, List.drop_succ_cons, List.drop_zero, List.take_nil, List.drop_nil, List.contains_cons, List.contains_nil, Option.getD_some, Option.getD_none, Option.map_some, Option.map_none, if_true, if_false, true_and, and_true, and_self, or_self, or_false, false_or, false_and, and_false, reduceCtorEq, sel_and, sel_or, decide_eq_true_eq, Bool.and_eq_true, Bool.or_eq_true, Bool.and_true, Bool.true_and, Bool.or_false, Bool.false_or, Bool.true_or, Bool.or_true, Bool.not_true, Bool.not_false, Bool.false_eq_true, implies_true, not_false_eq_true, Nat.reduceLT, Nat.reduceEqDiff, Nat.reduceAdd, Nat.reduceMul, Nat.reduceMod, Nat.reduceLeDiff, Nat.reduceBEq, Nat.zero_add, Nat.add_zero, reduceIte, ↓reduceIte, List.not_mem_nil]
      rw [if_neg hj2]
      obtain rfl : j = ls.length := by omega
      rw [List.take_of_length_le (Nat.le_refl _)]
      simp only [intsD, G11e_at, calmE, F_alive11, F_Pieces, F_PText, nz_r, nz_s2, nnR, nnC, nn, nn_docs, docsOf_map, pcs_map, pcOf_map, AV.flat, AV.flat.flatL, List.length_map, goTG_val, goTG_new, goTG_up, goTG_none, goG_none, goG_new, goG_up, ne_eq, evK, evH, retHF, DRun_mk, runT_nil, runT_none, runT_guard, goT_val, goT_new, goT_store, goTH_true, goTH_false, evO, keys, Option.toList_some, Option.toList_none, nzL_nil, nzL_cons, nz_k, nz_sl, nz_nil, nz_agg, startL, evC, evV, goE_val, goE_new, goE_store, goH_true, goH_false, goG_val, lk_cons, lk_nil, lk_func, lk_int, lk_bool, lk_string, lk_slice, lk_agg, look_mk, St.effOf, eff, effCall, effBin, effUn, effConv, effPick, effNil, effFold, fold1, effLoad, effStore, effFieldAddr, effField, fieldOf, sliceOf, effIndexAddr, effIndex, effLen, effExtract, effSlice, bnd, effBuild, placesOf, effBuildSlice, effMakeSlice, effAppend, srcOf, fillA, chunk, seg, toD, toDs, put, eqAV, fieldsEq, leafEq, strip, unw, allB, selP_or, selP_and, tis, TyD.agg, AV.cells, AV.cell, allCell, vInt, vBool, vStr, subL_nil, subL_cons, upIds, AV.ids, AV.ids.idsL, AObj.ids, drops, Hp.get_cons, get_nil, retF, resL, one, fz, fz.fzL, List.map_cons, List.map_nil, List.nil_append, List.append_nil, List.cons_append, List.all_cons, List.all_nil, List.length_cons, List.length_nil, List.getElem?_cons_zero, List.getElem?_cons_succ, List.getD_cons_zero, List.getD_cons_succ, List.take_succ_cons, List.take_zero, List.drop_succ_cons, List.drop_zero, List.take_nil, List.drop_nil, List.contains_cons, List.contains_nil, Option.getD_some, Option.getD_none, Option.map_some, Option.map_none, if_true, if_false, true_and, and_true, and_self, or_self, or_false, false_or, false_and, and_false, reduceCtorEq, sel_and, sel_or, decide_eq_true_eq, Bool.and_eq_true, Bool.or_eq_true, Bool.and_true, Bool.true_and, Bool.or_false, Bool.false_or, Bool.true_or, Bool.or_true, Bool.not_true, Bool.not_false, Bool.false_eq_true, implies_true, not_false_eq_true, Nat.reduceLT, Nat.reduceEqDiff, Nat.reduceAdd, Nat.reduceMul, Nat.reduceMod, Nat.reduceLeDiff, Nat.reduceBEq, Nat.zero_add, Nat.add_zero, reduceIte, ↓reduceIte, List.not_mem_nil]
      obtain ⟨p1, p2, p3, p4, p5⟩ := hd_plain ls (by omega) i hi
      refine ⟨⟨p1, p2⟩, ⟨p3, p4⟩, ?_⟩
      rw [p5, beq_self_eq_true]
      try exact Sub.refl _
end Go.Proofs.Ythcgkfgkknofnaa.Eng
