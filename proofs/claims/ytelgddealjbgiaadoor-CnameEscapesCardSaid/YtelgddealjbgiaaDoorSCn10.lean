/- Names of CSS, written by the reference, on the small machine. -/
import Derived.Test.YtelgddealjbgiaaDoorSCn6
import Derived.Test.YtelgddealjbgiaaDoorSCn9
namespace Go.Proofs.YtelgddealjbgiaaDoor.Eng
open Go Go.Proofs.YtelgddealjbgiaaDoor.Base
set_option maxRecDepth 100000
set_option linter.unusedSimpArgs false
set_option linter.unusedVariables false
def hexZ : ByteArray := ⟨#[48, 49, 50, 51, 52, 53, 54, 55, 56, 57, 97, 98, 99, 100, 101, 102]⟩
theorem ext_hex : ∀ k : Fin 16, hexZ.extract k.val (k.val + 1) = strOfNums [digL k.val] := by decide +kernel
theorem and15i {x : Nat} (h : x < 16777216) : bits BinOp.and IntKind.i64 (x : Int) 15 = ((x % 16 : Nat) : Int) := by
  have := bits_mask .i64 31 (by decide) wraps_i64 4 (by decide) (x : Int) (by omega) (by omega)
  rw [show (2 : Int) ^ 4 - 1 = 15 from rfl] at this
  rw [this]
  show (x : Int) % 16 = _
  omega
/-- Digits ahead of digits. -/
def hexG (dg : Nat → Int) : Nat → Nat → List Int → List Int
  | 0, _, s => s
  | f + 1, n, s => if n = 0 then s else hexG dg f (n / 16) (dg (n % 16) :: s)
def hexT (n : Nat) : List Int := if n = 0 then [48] else hexG digL 7 n []
theorem hexT_L : ∀ k : Fin 256, hexT k.val = hexL k.val := by decide +kernel
theorem sB_nil (s : List Int) : sB (strOfNums s) = [] ↔ s = [] := by
  have h := sB_len (strOfNums s)
  rw [str_size] at h
  constructor
  · intro e; rw [e] at h; exact List.eq_nil_of_length_eq_zero h.symm
  · rintro rfl; rfl
theorem pow7 {q : Nat} (h : q ≤ 7) : 16 ^ (7 - q) ≤ 268435456 := by
  have : 16 ^ (7 - q) ≤ 16 ^ 7 := Nat.pow_le_pow_right (by decide) (by omega)
  simpa using this
theorem hex_next {q x n : Nat} {s : List Int} (hq : q ≤ 7) (hx7 : x < 16 ^ (7 - q)) (hs : s.length = q) (hi : q = 0 → x = n) (hr : ¬ q = 0 → hexG digL (7 - q) x s = hexT n) (c : x > 0 ∨ s = []) :
    q < 7 ∧ x / 16 < 16 ^ (7 - (q + 1)) ∧ hexG digL (7 - (q + 1)) (x / 16) (digL (x % 16) :: s) = hexT n := by
  have hq7 : q < 7 := by
    rcases c with c | c
    · refine Nat.lt_of_le_of_ne hq fun e => ?_
      subst e
      simp only [Nat.sub_self, Nat.pow_zero] at hx7
      omega
    · subst c; simp only [List.length_nil] at hs; omega
  have e : 7 - q = (7 - (q + 1)) + 1 := by omega
  refine ⟨hq7, ?_, ?_⟩
  · rw [e, Nat.pow_succ] at hx7; omega
  · by_cases h0 : q = 0
    · have hx := hi h0
      subst h0 hx
      obtain rfl : s = [] := List.eq_nil_of_length_eq_zero hs
      unfold hexT
      by_cases hx0 : x = 0
      · subst hx0; rfl
      · rw [if_neg hx0]
        exact (show hexG digL 7 x [] = hexG digL 6 (x / 16) [digL (x % 16)] by rw [show (7 : Nat) = 6 + 1 from rfl, hexG, if_neg hx0]).symm
    · have hx0 : x ≠ 0 := by
        rcases c with c | c
        · omega
        · subst c; exact absurd hs.symm h0
      rw [← hr h0, e, hexG, if_neg hx0]
theorem nbd_body (n : Nat) (hn : n < 128) : Body Tryd.prog Gam.none (DRun Tryd.prog Gam.none) 57 [vInt .i64 n] (vStr (strOfNums (numL n))) := by
  refine Body.of Tryd.func57 Tryd.ntmps57 (by kernel_rfl) rfl rfl rfl ?_
  have hz : (⟨#[48, 49, 50, 51, 52, 53, 54, 55, 56, 57, 97, 98, 99, 100, 101, 102]⟩ : ByteArray) = hexZ := rfl
  have hzs : hexZ.size = 16 := rfl
  have e0 : sB ⟨#[]⟩ = [] := rfl
  simp only [Int.reduceLE, Int.reduceLT, Int.reduceGT, Int.reduceGE, Int.reduceBEq, Int.reduceBNe, Int.reduceEq, Int.reduceToNat, Int.reduceSub, Int.reduceAdd, Int.reduceMul, Int.reducePow, Int.reduceNeg, goTG_val, goTG_new, goTG_up, goTG_none, goG_none, goG_new, goG_up, ne_eq, evK, evH, retHF, DRun_mk, runT_nil, runT_none, runT_guard, goT_val, goT_new, goT_store, goTH_true, goTH_false, evO, keys, Option.toList_some, Option.toList_none, nzL_nil, nzL_cons, nz_k, nz_sl, nz_nil, nz_agg, startL, evC, evV, goE_val, goE_new, goE_store, goH_true, goH_false, goG_val, lk_cons, lk_nil, lk_func, lk_int, lk_bool, lk_string, lk_slice, lk_agg, look_mk, St.effOf, eff, effCall, effBinC, isConst, effBin, effUn, effConv, effPick, effNil, effFold, fold1, effLoad, effStore, effFieldAddr, effField, fieldOf, sliceOf, effIndexAddr, effIndex, effLen, effExtract, effSlice, dats, bnd, effBuild, placesOf, effBuildSlice, effMakeSlice, effAppend, srcOf, fillA, chunk, seg, toD, toDs, put, eqAV, fieldsEq, leafEq, strip, unw, allB, selP_or, selP_and, tis, TyD.agg, AV.cells, AV.cell, allCell, vInt, vBool, vStr, subL_nil, subL_cons, upIds, AV.ids, AV.ids.idsL, AObj.ids, drops, Hp.get_cons, get_nil, retF, resL, one, fz, fz.fzL, List.map_cons, List.map_nil, List.nil_append, List.append_nil, List.cons_append, List.all_cons, List.all_nil, List.length_cons, List.length_nil, List.getElem?_cons_zero, List.getElem?_cons_succ, List.getD_cons_zero, List.getD_cons_succ, List.take_succ_cons, List.take_zero, List.drop_succ_cons, List.drop_zero, List.take_nil, List.drop_nil, List.contains_cons, List.contains_nil, Option.getD_some, Option.getD_none, Option.map_some, Option.map_none, if_true, if_false, true_and, and_true, and_self, or_self, or_false, false_or, false_and, and_false, reduceCtorEq, sel_and, sel_or, decide_eq_true_eq, Bool.and_eq_true, Bool.or_eq_true, Bool.and_true, Bool.true_and, Bool.or_false, Bool.false_or, Bool.true_or, Bool.or_true, Bool.not_true, Bool.not_false, Bool.false_eq_true, implies_true, not_false_eq_true, Nat.reduceLT, Nat.reduceEqDiff, Nat.reduceAdd, Nat.reduceMul, Nat.reduceMod, Nat.reduceLeDiff, Nat.reduceBEq, Nat.zero_add, Nat.add_zero, reduceIte, ↓reduceIte, List.not_mem_nil]
  refine wpc_loop (fun q : Nat × Nat × List Int => ⟨24, [], [(3, vStr (strOfNums q.2.2)), (4, vInt .i64 (q.2.1 : Int))], []⟩) (fun q => q.1 ≤ 7 ∧ q.2.1 < 128 ∧ q.2.1 < 16 ^ (7 - q.1) ∧ q.2.2.length = q.1 ∧ (q.1 = 0 → q.2.1 = n) ∧ (q.1 ≠ 0 → hexG digL (7 - q.1) q.2.1 q.2.2 = hexT n)) (fun q => 7 - q.1) (0, n, []) ⟨Nat.zero_le _, hn, by simp only []; omega, rfl, fun _ => rfl, fun h => absurd rfl h⟩ ?_ ?_
  · refine Le.of id [] ?_
    simp only [Mt_tup, Mt_agg, Mt_fn, forall_eq, forall_eq_or_imp, ne_eq, List.all_cons, List.all_nil, pr, Nat.reduceLeDiff, slR_nil, slR_cons, hpR_nil, hpR_cells, hpR_row, idsR_nil, idsR_cons, mtE_v, mtE_sl, mtE_nil, mtE_refl, mtE_row, mtE_born, mtE_ptr, mtE_rp, mtE_agg, mtE_tup, mtE_fn, mtE_ep, MtL_nil, MtL_cons, Mt_v, Mt_sl, Mt_nil, Mt_refl, Mt_row, Mt_born, Mt_ptr, MtO_cells, MtO_row, liveIds, distinct, Dat.v.injEq, Dat.sl.injEq, Value.int.injEq, Value.bool.injEq, Value.string.injEq, lk_cons, lk_nil, subL_nil, subL_cons, upIds, AV.ids, AV.ids.idsL, AObj.ids, Hp.get_cons, get_nil, allCell, AV.cell, vInt, vBool, vStr, id, true_and, and_true, and_self, List.append_nil, List.nil_append, List.not_mem_nil, List.mem_cons, or_false, false_or, or_self, not_true_eq_false, not_false_eq_true, false_imp_iff, false_implies, List.map_nil, not_false_eq_true, List.contains_cons, List.contains_nil, Bool.or_false, Bool.false_or, Bool.true_or, Bool.or_true, Bool.and_true, Bool.true_and, implies_true, if_true, if_false, reduceCtorEq, Nat.reduceEqDiff, Nat.reduceBEq, Nat.reduceAdd, reduceIte, ↓reduceIte]
    rfl
  · rintro ⟨q, x, s⟩ ⟨hq, hx, hx7, hs, hi, hr⟩
    simp only [] at hq hx hx7 hs hi hr
    have ha := and15i (x := x) (by omega)
    have hm : x % 16 < 16 := Nat.mod_lt _ (by decide)
    have w1 : IntKind.i64.wrap (((x % 16 : Nat) : Int) + 1) = ((x % 16 + 1 : Nat) : Int) := by rw [w64 (by omega) (by omega)]; omega
    have hx2 := ext_hex ⟨x % 16, hm⟩
    have hxs : (x : Int).fdiv (2 ^ min 4 IntKind.i64.bits) = ((x / 16 : Nat) : Int) := by
      show (x : Int).fdiv 16 = _
      rw [Int.fdiv_eq_ediv_of_nonneg _ (by omega)]; omega
    simp only [hz, hzs, ha, w1, hx2, hxs, eq_sB, e0, sB_nil, Int.toNat_natCast, str_size, ← str_append, Int.reduceLE, Int.reduceLT, Int.reduceGT, Int.reduceGE, Int.reduceBEq, Int.reduceBNe, Int.reduceEq, Int.reduceToNat, Int.reduceSub, Int.reduceAdd, Int.reduceMul, Int.reducePow, Int.reduceNeg, goTG_val, goTG_new, goTG_up, goTG_none, goG_none, goG_new, goG_up, ne_eq, evK, evH, retHF, DRun_mk, runT_nil, runT_none, runT_guard, goT_val, goT_new, goT_store, goTH_true, goTH_false, evO, keys, Option.toList_some, Option.toList_none, nzL_nil, nzL_cons, nz_k, nz_sl, nz_nil, nz_agg, startL, evC, evV, goE_val, goE_new, goE_store, goH_true, goH_false, goG_val, lk_cons, lk_nil, lk_func, lk_int, lk_bool, lk_string, lk_slice, lk_agg, look_mk, St.effOf, eff, effCall, effBinC, isConst, effBin, effUn, effConv, effPick, effNil, effFold, fold1, effLoad, effStore, effFieldAddr, effField, fieldOf, sliceOf, effIndexAddr, effIndex, effLen, effExtract, effSlice, dats, bnd, effBuild, placesOf, effBuildSlice, effMakeSlice, effAppend, srcOf, fillA, chunk, seg, toD, toDs, put, eqAV, fieldsEq, leafEq, strip, unw, allB, selP_or, selP_and, tis, TyD.agg, AV.cells, AV.cell, allCell, vInt, vBool, vStr, subL_nil, subL_cons, upIds, AV.ids, AV.ids.idsL, AObj.ids, drops, Hp.get_cons, get_nil, retF, resL, one, fz, fz.fzL, List.map_cons, List.map_nil, List.nil_append, List.append_nil, List.cons_append, List.all_cons, List.all_nil, List.length_cons, List.length_nil, List.getElem?_cons_zero, List.getElem?_cons_succ, List.getD_cons_zero, List.getD_cons_succ, List.take_succ_cons, List.take_zero, List.drop_succ_cons, List.drop_zero, List.take_nil, List.drop_nil, List.contains_cons, List.contains_nil, Option.getD_some, Option.getD_none, Option.map_some, Option.map_none, if_true, if_false, true_and, and_true, and_self, or_self, or_false, false_or, false_and, and_false, reduceCtorEq, sel_and, sel_or, decide_eq_true_eq, Bool.and_eq_true, Bool.or_eq_true, Bool.and_true, Bool.true_and, Bool.or_false, Bool.false_or, Bool.true_or, Bool.or_true, Bool.not_true, Bool.not_false, Bool.false_eq_true, implies_true, not_false_eq_true, Nat.reduceLT, Nat.reduceEqDiff, Nat.reduceAdd, Nat.reduceMul, Nat.reduceMod, Nat.reduceLeDiff, Nat.reduceBEq, Nat.zero_add, Nat.add_zero, reduceIte, ↓reduceIte, List.not_mem_nil]
    by_cases c : (x : Int) > 0 ∨ s = []
    · rw [if_pos c]
      obtain ⟨q1, q2, q3⟩ := hex_next hq hx7 hs hi hr (by exact c.imp (fun h => by omega) id)
      refine ⟨by omega, by omega, (q + 1, x / 16, digL (x % 16) :: s), by simp only []; omega, ⟨by simp only []; omega, by simp only []; omega, q2, by simp only [List.length_cons]; omega, fun h => by simp at h, fun _ => q3⟩, Le.of id [] ?_⟩
      simp only [Mt_tup, Mt_agg, Mt_fn, forall_eq, forall_eq_or_imp, ne_eq, List.all_cons, List.all_nil, pr, Nat.reduceLeDiff, slR_nil, slR_cons, hpR_nil, hpR_cells, hpR_row, idsR_nil, idsR_cons, mtE_v, mtE_sl, mtE_nil, mtE_refl, mtE_row, mtE_born, mtE_ptr, mtE_rp, mtE_agg, mtE_tup, mtE_fn, mtE_ep, MtL_nil, MtL_cons, Mt_v, Mt_sl, Mt_nil, Mt_refl, Mt_row, Mt_born, Mt_ptr, MtO_cells, MtO_row, liveIds, distinct, Dat.v.injEq, Dat.sl.injEq, Value.int.injEq, Value.bool.injEq, Value.string.injEq, lk_cons, lk_nil, subL_nil, subL_cons, upIds, AV.ids, AV.ids.idsL, AObj.ids, Hp.get_cons, get_nil, allCell, AV.cell, vInt, vBool, vStr, id, true_and, and_true, and_self, List.append_nil, List.nil_append, List.not_mem_nil, List.mem_cons, or_false, false_or, or_self, not_true_eq_false, not_false_eq_true, false_imp_iff, false_implies, List.map_nil, not_false_eq_true, List.contains_cons, List.contains_nil, Bool.or_false, Bool.false_or, Bool.true_or, Bool.or_true, Bool.and_true, Bool.true_and, implies_true, if_true, if_false, reduceCtorEq, Nat.reduceEqDiff, Nat.reduceBEq, Nat.reduceAdd, reduceIte, ↓reduceIte]
    · rw [if_neg c]
      have hs0 : s ≠ [] := fun h => c (.inr h)
      have hq0 : q ≠ 0 := fun h => hs0 (List.eq_nil_of_length_eq_zero (by omega))
      have hx0 : x = 0 := by omega
      have hr := hr hq0
      subst hx0
      have : hexT n = s := by
        rw [← hr]; cases 7 - q with
        | zero => rfl
        | succ f => rw [hexG, if_pos rfl]
      refine ⟨by show ((1 + s.length : Nat) : Int) ≤ _; omega, Sub.eq ?_⟩
      rw [← this, numL, Int.toNat_natCast, ← hexT_L ⟨n, by omega⟩, show (92 : Int) :: hexT n = [92] ++ hexT n from rfl, str_append]
      rfl
theorem nbd_calm : ∀ args sc res, F_num args = some (sc, res) → sc → Calm Tryd.prog 57 args res := by
  intro args sc res h hs
  unfold F_num at h
  split at h <;> cases h
  rename_i n
  obtain ⟨k, rfl⟩ := Int.eq_ofNat_of_zero_le hs.1
  exact (Known.none _).calm mixed rfl rfl (nbd_body k (by have := hs.2; omega))
/-- A text's code points; none is 0. -/
def z0 (r : Int) : Int := if r = 0 then 65533 else r
def ptsL (l : List Int) : List Int := (alls l.length l).map z0
def F_pts : List AV → Option (Prop × AV)
  | [.d (.v (.string s))] => some (s.size ≤ 1000000000, .d (intsD (ptsL (sB s))))
  | _ => none
noncomputable def G_pts : Gam := Gam.none.add 47 fun a => F_Next (NT.nz.nzL [.s 1, .k] a)
theorem G_pts_at (h : Nat → Option AObj) (d : Nat) (a : List AV) : G_pts 47 h d a = calmE (fun a => F_Next (NT.nz.nzL [.s 1, .k] a)) h a := rfl
theorem known_pts : Known Tryd.prog G_pts := (Known.none _).addC _ RNext_calm
theorem pts_body (s : ByteArray) (hl : s.size ≤ 1000000000) : Body Tryd.prog G_pts (DRun Tryd.prog G_pts) 26 [vStr s] (.d (intsD (ptsL (sB s)))) := by
  refine Body.of Tryd.func26 Tryd.ntmps26 (by kernel_rfl) rfl rfl rfl ?_
  have hb := sB_bytes s
  have hn := sB_len s
  simp only [intsD, bytesD, sB_rows, G_pts_at, calmE, F_Next, AV.flat, AV.flat.flatL, getD_iD, iD, num_iD, List.length_map, ← hn, goTG_val, goTG_new, goTG_up, goTG_none, goG_none, goG_new, goG_up, ne_eq, evK, evH, retHF, DRun_mk, runT_nil, runT_none, runT_guard, goT_val, goT_new, goT_store, goTH_true, goTH_false, evO, keys, Option.toList_some, Option.toList_none, nzL_nil, nzL_cons, nz_k, nz_sl, nz_nil, nz_agg, startL, evC, evV, goE_val, goE_new, goE_store, goH_true, goH_false, goG_val, lk_cons, lk_nil, lk_func, lk_int, lk_bool, lk_string, lk_slice, lk_agg, look_mk, St.effOf, eff, effCall, effBinC, isConst, effBin, effUn, effConv, effPick, effNil, effFold, fold1, effLoad, effStore, effFieldAddr, effField, fieldOf, sliceOf, effIndexAddr, effIndex, effLen, effExtract, effSlice, dats, bnd, effBuild, placesOf, effBuildSlice, effMakeSlice, effAppend, srcOf, fillA, chunk, seg, toD, toDs, put, eqAV, fieldsEq, leafEq, strip, unw, allB, selP_or, selP_and, tis, TyD.agg, AV.cells, AV.cell, allCell, vInt, vBool, vStr, subL_nil, subL_cons, upIds, AV.ids, AV.ids.idsL, AObj.ids, drops, Hp.get_cons, get_nil, retF, resL, one, fz, fz.fzL, List.map_cons, List.map_nil, List.nil_append, List.append_nil, List.cons_append, List.all_cons, List.all_nil, List.length_cons, List.length_nil, List.getElem?_cons_zero, List.getElem?_cons_succ, List.getD_cons_zero, List.getD_cons_succ, List.take_succ_cons, List.take_zero, List.drop_succ_cons, List.drop_zero, List.take_nil, List.drop_nil, List.contains_cons, List.contains_nil, Option.getD_some, Option.getD_none, Option.map_some, Option.map_none, if_true, if_false, true_and, and_true, and_self, or_self, or_false, false_or, false_and, and_false, reduceCtorEq, sel_and, sel_or, decide_eq_true_eq, Bool.and_eq_true, Bool.or_eq_true, Bool.and_true, Bool.true_and, Bool.or_false, Bool.false_or, Bool.true_or, Bool.or_true, Bool.not_true, Bool.not_false, Bool.false_eq_true, implies_true, not_false_eq_true, Nat.reduceLT, Nat.reduceEqDiff, Nat.reduceAdd, Nat.reduceMul, Nat.reduceMod, Nat.reduceLeDiff, Nat.reduceBEq, Nat.zero_add, Nat.add_zero, reduceIte, ↓reduceIte, List.not_mem_nil]
  rw [← hn] at hl
  generalize sB s = l at hb hn hl ⊢
  clear hn
  refine wpc_loop (fun p : List Int × Nat => ⟨32, [100], [(3, .row 100 p.1.length), (4, .d (bytesD l)), (5, vInt .i64 p.2)], [(100, some (.row 3 1 ((p.1.map z0).map (iD .i64))))]⟩)
    (fun p => p.2 ≤ l.length ∧ p.1.length ≤ p.2 ∧ ∀ n, l.length - p.2 ≤ n → p.1 ++ alls n (l.drop p.2) = alls l.length l) (fun p => l.length - p.2) ([], 0) ⟨Nat.zero_le _, Nat.le_refl _, fun n hn => ?_⟩ ?_ ?_
  · rw [List.nil_append, List.drop_zero]
    exact alls_fuel _ _ _ hb hn (Nat.le_refl _)
  · refine Le.of id [100] ?_
    simp only [bytesD, List.length_nil, List.length_map, List.map_nil, Mt_tup, Mt_agg, Mt_fn, forall_eq, forall_eq_or_imp, ne_eq, List.all_cons, List.all_nil, pr, Nat.reduceLeDiff, slR_nil, slR_cons, hpR_nil, hpR_cells, hpR_row, idsR_nil, idsR_cons, mtE_v, mtE_sl, mtE_nil, mtE_refl, mtE_row, mtE_born, mtE_ptr, mtE_rp, mtE_agg, mtE_tup, mtE_fn, mtE_ep, MtL_nil, MtL_cons, Mt_v, Mt_sl, Mt_nil, Mt_refl, Mt_row, Mt_born, Mt_ptr, MtO_cells, MtO_row, liveIds, distinct, Dat.v.injEq, Dat.sl.injEq, Value.int.injEq, Value.bool.injEq, Value.string.injEq, lk_cons, lk_nil, subL_nil, subL_cons, upIds, AV.ids, AV.ids.idsL, AObj.ids, Hp.get_cons, get_nil, allCell, AV.cell, vInt, vBool, vStr, id, true_and, and_true, and_self, List.append_nil, List.nil_append, List.not_mem_nil, List.mem_cons, or_false, false_or, or_self, not_true_eq_false, not_false_eq_true, false_imp_iff, false_implies, List.map_nil, not_false_eq_true, List.contains_cons, List.contains_nil, Bool.or_false, Bool.false_or, Bool.true_or, Bool.or_true, Bool.and_true, Bool.true_and, implies_true, if_true, if_false, reduceCtorEq, Nat.reduceEqDiff, Nat.reduceBEq, Nat.reduceAdd, reduceIte, ↓reduceIte]
    try rfl
  · rintro ⟨o, i⟩ ⟨hi, ho, hr⟩
    simp only [] at hi ho hr
    simp only [intsD, bytesD, G_pts_at, calmE, F_Next, AV.flat, AV.flat.flatL, getD_iD, iD, num_iD, List.length_map, goTG_val, goTG_new, goTG_up, goTG_none, goG_none, goG_new, goG_up, ne_eq, evK, evH, retHF, DRun_mk, runT_nil, runT_none, runT_guard, goT_val, goT_new, goT_store, goTH_true, goTH_false, evO, keys, Option.toList_some, Option.toList_none, nzL_nil, nzL_cons, nz_k, nz_sl, nz_nil, nz_agg, startL, evC, evV, goE_val, goE_new, goE_store, goH_true, goH_false, goG_val, lk_cons, lk_nil, lk_func, lk_int, lk_bool, lk_string, lk_slice, lk_agg, look_mk, St.effOf, eff, effCall, effBinC, isConst, effBin, effUn, effConv, effPick, effNil, effFold, fold1, effLoad, effStore, effFieldAddr, effField, fieldOf, sliceOf, effIndexAddr, effIndex, effLen, effExtract, effSlice, dats, bnd, effBuild, placesOf, effBuildSlice, effMakeSlice, effAppend, srcOf, fillA, chunk, seg, toD, toDs, put, eqAV, fieldsEq, leafEq, strip, unw, allB, selP_or, selP_and, tis, TyD.agg, AV.cells, AV.cell, allCell, vInt, vBool, vStr, subL_nil, subL_cons, upIds, AV.ids, AV.ids.idsL, AObj.ids, drops, Hp.get_cons, get_nil, retF, resL, one, fz, fz.fzL, List.map_cons, List.map_nil, List.nil_append, List.append_nil, List.cons_append, List.all_cons, List.all_nil, List.length_cons, List.length_nil, List.getElem?_cons_zero, List.getElem?_cons_succ, List.getD_cons_zero, List.getD_cons_succ, List.take_succ_cons, List.take_zero, List.drop_succ_cons, List.drop_zero, List.take_nil, List.drop_nil, List.contains_cons, List.contains_nil, Option.getD_some, Option.getD_none, Option.map_some, Option.map_none, if_true, if_false, true_and, and_true, and_self, or_self, or_false, false_or, false_and, and_false, reduceCtorEq, sel_and, sel_or, decide_eq_true_eq, Bool.and_eq_true, Bool.or_eq_true, Bool.and_true, Bool.true_and, Bool.or_false, Bool.false_or, Bool.true_or, Bool.or_true, Bool.not_true, Bool.not_false, Bool.false_eq_true, implies_true, not_false_eq_true, Nat.reduceLT, Nat.reduceEqDiff, Nat.reduceAdd, Nat.reduceMul, Nat.reduceMod, Nat.reduceLeDiff, Nat.reduceBEq, Nat.zero_add, Nat.add_zero, reduceIte, ↓reduceIte, List.not_mem_nil]
    by_cases h1 : (i : Int) < l.length
    · rw [if_pos h1]
      refine ⟨⟨hb, by omega⟩, ?_⟩
      obtain ⟨r, k, ok, e, k1, k2, k3⟩ := all_step hb (by omega) hr
      simp only [e]
      have ew : IntKind.i64.wrap ((i : Int) + (k : Int)) = ((i + k : Nat) : Int) := by rw [w64 (by omega) (by omega)]; omega
      rw [ew]
      by_cases h0 : r = 0
      · rw [if_pos (by simpa using h0)]
        refine ⟨by omega, (o ++ [r], i + k), by simp only []; omega, ⟨k2, by simp only [List.length_append, List.length_singleton]; omega, k3⟩, Le.of (fun _ => 27) [] ?_⟩
        have ez : z0 r = 65533 := by unfold z0; rw [if_pos h0]
        simp only [ez, List.map_append, List.map_cons, List.map_nil, List.length_append, List.length_map, List.length_cons, List.length_nil, iD, Mt_tup, Mt_agg, Mt_fn, forall_eq, forall_eq_or_imp, ne_eq, List.all_cons, List.all_nil, pr, Nat.reduceLeDiff, slR_nil, slR_cons, hpR_nil, hpR_cells, hpR_row, idsR_nil, idsR_cons, mtE_v, mtE_sl, mtE_nil, mtE_refl, mtE_row, mtE_born, mtE_ptr, mtE_rp, mtE_agg, mtE_tup, mtE_fn, mtE_ep, MtL_nil, MtL_cons, Mt_v, Mt_sl, Mt_nil, Mt_refl, Mt_row, Mt_born, Mt_ptr, MtO_cells, MtO_row, liveIds, distinct, Dat.v.injEq, Dat.sl.injEq, Value.int.injEq, Value.bool.injEq, Value.string.injEq, lk_cons, lk_nil, subL_nil, subL_cons, upIds, AV.ids, AV.ids.idsL, AObj.ids, Hp.get_cons, get_nil, allCell, AV.cell, vInt, vBool, vStr, id, true_and, and_true, and_self, List.append_nil, List.nil_append, List.not_mem_nil, List.mem_cons, or_false, false_or, or_self, not_true_eq_false, not_false_eq_true, false_imp_iff, false_implies, List.map_nil, not_false_eq_true, List.contains_cons, List.contains_nil, Bool.or_false, Bool.false_or, Bool.true_or, Bool.or_true, Bool.and_true, Bool.true_and, implies_true, if_true, if_false, reduceCtorEq, Nat.reduceEqDiff, Nat.reduceBEq, Nat.reduceAdd, reduceIte, ↓reduceIte]
      · rw [if_neg (by simpa using h0)]
        refine ⟨by omega, (o ++ [r], i + k), by simp only []; omega, ⟨k2, by simp only [List.length_append, List.length_singleton]; omega, k3⟩, Le.of (fun _ => 27) [] ?_⟩
        have ez : z0 r = r := by unfold z0; rw [if_neg h0]
        simp only [ez, List.map_append, List.map_cons, List.map_nil, List.length_append, List.length_map, List.length_cons, List.length_nil, iD, Mt_tup, Mt_agg, Mt_fn, forall_eq, forall_eq_or_imp, ne_eq, List.all_cons, List.all_nil, pr, Nat.reduceLeDiff, slR_nil, slR_cons, hpR_nil, hpR_cells, hpR_row, idsR_nil, idsR_cons, mtE_v, mtE_sl, mtE_nil, mtE_refl, mtE_row, mtE_born, mtE_ptr, mtE_rp, mtE_agg, mtE_tup, mtE_fn, mtE_ep, MtL_nil, MtL_cons, Mt_v, Mt_sl, Mt_nil, Mt_refl, Mt_row, Mt_born, Mt_ptr, MtO_cells, MtO_row, liveIds, distinct, Dat.v.injEq, Dat.sl.injEq, Value.int.injEq, Value.bool.injEq, Value.string.injEq, lk_cons, lk_nil, subL_nil, subL_cons, upIds, AV.ids, AV.ids.idsL, AObj.ids, Hp.get_cons, get_nil, allCell, AV.cell, vInt, vBool, vStr, id, true_and, and_true, and_self, List.append_nil, List.nil_append, List.not_mem_nil, List.mem_cons, or_false, false_or, or_self, not_true_eq_false, not_false_eq_true, false_imp_iff, false_implies, List.map_nil, not_false_eq_true, List.contains_cons, List.contains_nil, Bool.or_false, Bool.false_or, Bool.true_or, Bool.or_true, Bool.and_true, Bool.true_and, implies_true, if_true, if_false, reduceCtorEq, Nat.reduceEqDiff, Nat.reduceBEq, Nat.reduceAdd, reduceIte, ↓reduceIte]
    · rw [if_neg h1]
      have h2 := hr 0 (by omega)
      rw [List.drop_eq_nil_of_le (by omega), alls_nil, List.append_nil] at h2
      unfold ptsL
      rw [h2]
theorem pts_calm : ∀ args sc res, F_pts args = some (sc, res) → sc → Calm Tryd.prog 26 args res := by
  intro args sc res h hs
  unfold F_pts at h
  split at h <;> cases h
  exact known_pts.calm mixed rfl rfl (pts_body _ hs)
end Go.Proofs.YtelgddealjbgiaaDoor.Eng
