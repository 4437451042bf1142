/- SmapJson: part 10 of 15. -/
import Derived.Test.YtgbialeahdoelaaBSmapJsoni
import Derived.Shelf.Strings.Repeat
import Derived.Test.YtgbialeahdoelaaProg
import Derived.Shelf.Strings.Builder1
section
namespace Go.Proofs.Ytgbialeahdoelaa.Eng
open Go Go.Proofs.Ytgbialeahdoelaa.Base
set_option maxRecDepth 100000
set_option linter.unusedSimpArgs false
set_option linter.unusedVariables false
theorem toks_kinds {l : List Int} {i : Int} {ts : List Tk} {e : Option Int} (h : Jlex.Toks l i ts e) : ∀ x ∈ ts, 1 ≤ x.1 ∧ x.1 ≤ 11 := by
 induction h with
 | nil => intro x hx; simp at hx
 | bad => intro x hx; simp at hx
 | @cons b c t i k n ts e hb hc ht hr ih =>
  intro x hx
  rcases List.mem_cons.1 hx with rfl | hx
  ·have := Jlex.tok_kind ht; exact ⟨this.1, this.2.1⟩
  ·exact ih x hx
theorem splitF_cases {b : List Int} (hb : Bytes b) : (splitF b).1 = [] ∧ (splitF b).2.1 ≠ 0 ∧ 0 ≤ (splitF b).2.1 ∧ (splitF b).2.1 ≤ 5 ∨ ∃ ts, splitF b = (ts, 0, 0) ∧ Jlex.Toks b 0 ts none ∧ Jlex.isU b ∧ tksOk b ts := by
 by_cases h1 : 20000 < b.length
 ·rw [splitF_long h1]; exact .inl ⟨rfl, by decide, by decide, by decide⟩
 cases h2 : (vals b.length b).2 with
 | false => rw [splitF_utf h1 h2]; exact .inl ⟨rfl, by simp, by simp, by simp⟩
 | true =>
  obtain ⟨ts, e, ht⟩ := Jlex.toks_all b.length b 0 (Nat.le_refl _)
  rcases e with _ | p
  ·refine .inr ⟨ts, splitF_ok h1 h2 ht, ht, ?_, hb, by omega, ?_, fun x hx => ?_⟩
   ·obtain ⟨rs, t, rfl, h3, h4⟩ := Utf.parts b hb
    rw [vals_enc rs t _ h3 h4 (Nat.le_refl _)] at h2
    simp only [decide_eq_true_eq] at h2
    subst h2
    exact ⟨rs, h3, List.append_nil _⟩
   ·have := Jlex.toks_num ht; omega
   ·have h3 := Jlex.toks_in ht x hx
    have h4 := toks_kinds ht x hx
    omega
  ·rw [splitF_bad h1 h2 ht]; exact .inl ⟨rfl, by simp, by simp, by simp⟩
def capV (n lo hi : Int) : Int := if n < lo then lo else if n > hi then hi else n
def F_cap : List AV → Option (Prop × AV)
 | [.d (.v (.int .i64 n)), .d (.v (.int .i64 a)), .d (.v (.int .i64 b))] => some (True, vInt .i64 (capV n a b))
 | _ => none
theorem cap_calm : ∀ args sc res, F_cap args = some (sc, res) → sc → Calm Try.prog 32 args res := by
 intro args sc res h hs
 unfold F_cap at h
 split at h <;> cases h
 rename_i n a b
 refine (Known.none _).calm mixed rfl rfl ?_
 refine Body.of Try.func32 Try.ntmps32 (by kernel_rfl) rfl rfl rfl ?_
 simp only [Int.reduceLE, Int.reduceLT, Int.reduceGT, Int.reduceGE, Int.reduceBEq, Int.reduceBNe, Int.reduceEq, Int.reduceToNat, Int.reduceSub, Int.reduceAdd, Int.reduceMul, Int.reducePow, Int.reduceNeg, goTG_val, goTG_new, goTG_up, goTG_none, goG_none, goG_new, goG_up, ne_eq, evK, evH, retHF, DRun_mk, runT_nil, runT_none, runT_guard, goT_val, goT_new, goT_store, goTH_true, goTH_false, evO, keys, Option.toList_some, Option.toList_none, nzL_nil, nzL_cons, nz_k, nz_sl, nz_nil, nz_agg, startL, evC, evV, goE_val, goE_new, goE_store, goH_true, goH_false, goG_val, lk_cons, lk_nil, lk_func, lk_int, lk_bool, lk_string, lk_slice, lk_agg, look_mk, St.effOf, eff, effCall, effBinC, isConst, effBin, effUn, effConv, effPick, effNil, effFold, fold1, effLoad, effStore, effFieldAddr, effField, fieldOf, sliceOf, effIndexAddr, effIndex, effLen, effExtract, effSlice, dats, bnd, effBuild, placesOf, effBuildSlice, effMakeSlice, effAppend, srcOf, fillA, chunk, seg, toD, toDs, put, eqAV, fieldsEq, leafEq, strip, unw, allB, selP_or, selP_and, tis, TyD.agg, AV.cells, AV.cell, allCell, vInt, vBool, vStr, subL_nil, subL_cons, upIds, AV.ids, AV.ids.idsL, AObj.ids, drops, Hp.get_cons, get_nil, retF, resL, one, fz, fz.fzL, List.map_cons, List.map_nil, List.nil_append, List.append_nil, List.cons_append, List.all_cons, List.all_nil, List.length_cons, List.length_nil, List.getElem?_cons_zero, List.getElem?_cons_succ, List.getD_cons_zero, List.getD_cons_succ, List.take_succ_cons, List.take_zero, List.drop_succ_cons, List.drop_zero, List.take_nil, List.drop_nil, List.contains_cons, List.contains_nil, Option.getD_some, Option.getD_none, Option.map_some, Option.map_none, if_true, if_false, true_and, and_true, and_self, or_self, or_false, false_or, false_and, and_false, reduceCtorEq, sel_and, sel_or, decide_eq_true_eq, Bool.and_eq_true, Bool.or_eq_true, Bool.and_true, Bool.true_and, Bool.or_false, Bool.false_or, Bool.true_or, Bool.or_true, Bool.not_true, Bool.not_false, Bool.false_eq_true, implies_true, not_false_eq_true, Nat.reduceLT, Nat.reduceEqDiff, Nat.reduceAdd, Nat.reduceMul, Nat.reduceMod, Nat.reduceLeDiff, Nat.reduceBEq, Nat.zero_add, Nat.add_zero, reduceIte, ↓reduceIte, List.not_mem_nil]
 unfold capV
 by_cases c1 : n < a
 ·rw [if_pos c1, if_pos c1]
 rw [if_neg c1, if_neg c1]
 by_cases c2 : n > b
 ·rw [if_pos c2, if_pos c2]
 ·rw [if_neg c2, if_neg c2]
def jpF (b : List Int) (depth : Int) : JV × Int × Int :=
 if (splitF b).2.1 ≠ 0 then (jv0, (splitF b).2) else
 let v := rVal b (splitF b).1 (capV depth 0 60).toNat (0, 0, 0)
 let s : Rs := if v.2.1 < (splitF b).1.length then rFail b (splitF b).1 3 v.2 else v.2
 if s.2.1 ≠ 0 then (jv0, s.2) else (v.1, 0, 0)
def jpD (r : JV × Int × Int) : AV := .tup [.agg ((jvD r.1).map .d), faultD r.2.1 r.2.2]
noncomputable def G_jp : Gam := (G_r5.add 30 fun a => F_spj (NT.nz.nzL [.s 1] a)).add 32 fun a => F_cap (NT.nz.nzL [] a)
theorem known_jp : Known Try.prog G_jp := (known_r5.addC _ rjx_calm).addC _ cap_calm
theorem G_jp_at : (∀ h d a, G_jp 33 h d a = F_obj 70 (rdF f_fail) h d a) ∧ (∀ h d a, G_jp 31 h d a = F_obj 70 (rdF f_val) h d a) ∧ (∀ h d a, G_jp 30 h d a = calmE (fun a => F_spj (NT.nz.nzL [.s 1] a)) h a) ∧ (∀ h d a, G_jp 32 h d a = calmE (fun a => F_cap (NT.nz.nzL [] a)) h a) := ⟨fun _ _ _ => rfl, fun _ _ _ => rfl, fun _ _ _ => rfl, fun _ _ _ => rfl⟩
set_option maxHeartbeats 2000000 in
theorem jp_body (b : List Int) (hb : Bytes b) (depth : Int) (hN : numsOk b (splitF b).1) : Body Try.prog G_jp (DRun Try.prog G_jp) 14 [.d (bytesD b), vInt .i64 depth] (jpD (jpF b depth)) := by
 refine Body.of Try.func14 Try.ntmps14 (by kernel_rfl) rfl rfl rfl ?_
 have nz1 : ∀ xs, (NT.s 1).nz (.d (.sl 1 xs)) = .d (.sl 1 xs) := fun xs => rfl
 generalize hR : jpF b depth = R
 unfold jpF at hR
 have hcap : 0 ≤ capV depth 0 60 ∧ capV depth 0 60 ≤ 60 := by unfold capV; split <;> (try split) <;> omega
 rcases splitF_cases hb with ⟨h1, h2, h3⟩ | ⟨ts, h1, h2, h3, h4⟩
 ·rw [if_pos h2] at hR
  subst hR
  have h2' : ((splitF b).2.1 != 0) = true := by rw [bne_iff_ne]; exact h2
  simp only [bytesD, num_iD, nz1, h2', splitD, toksD, faultD, jpD, jvD_eq, jv0, G_jp_at, calmE, F_spj, F_cap, F_obj, rdF, f_val, f_fail, AV.flat, AV.flat.flatL, List.length_map, List.map_cons, List.map_nil, Int.reduceLE, Int.reduceLT, Int.reduceGT, Int.reduceGE, Int.reduceBEq, Int.reduceBNe, Int.reduceEq, Int.reduceToNat, Int.reduceSub, Int.reduceAdd, Int.reduceMul, Int.reducePow, Int.reduceNeg, goTG_val, goTG_new, goTG_up, goTG_none, goG_none, goG_new, goG_up, ne_eq, evK, evH, retHF, DRun_mk, runT_nil, runT_none, runT_guard, goT_val, goT_new, goT_store, goTH_true, goTH_false, evO, keys, Option.toList_some, Option.toList_none, nzL_nil, nzL_cons, nz_k, nz_sl, nz_nil, nz_agg, startL, evC, evV, goE_val, goE_new, goE_store, goH_true, goH_false, goG_val, lk_cons, lk_nil, lk_func, lk_int, lk_bool, lk_string, lk_slice, lk_agg, look_mk, St.effOf, eff, effCall, effBinC, isConst, effBin, effUn, effConv, effPick, effNil, effFold, fold1, effLoad, effStore, effFieldAddr, effField, fieldOf, sliceOf, effIndexAddr, effIndex, effLen, effExtract, effSlice, dats, bnd, effBuild, placesOf, effBuildSlice, effMakeSlice, effAppend, srcOf, fillA, chunk, seg, toD, toDs, put, eqAV, fieldsEq, leafEq, strip, unw, allB, selP_or, selP_and, tis, TyD.agg, AV.cells, AV.cell, allCell, vInt, vBool, vStr, subL_nil, subL_cons, upIds, AV.ids, AV.ids.idsL, AObj.ids, drops, Hp.get_cons, get_nil, retF, resL, one, fz, fz.fzL, List.map_cons, List.map_nil, List.nil_append, List.append_nil, List.cons_append, List.all_cons, List.all_nil, List.length_cons, List.length_nil, List.getElem?_cons_zero, List.getElem?_cons_succ, List.getD_cons_zero, List.getD_cons_succ, List.take_succ_cons, List.take_zero, List.drop_succ_cons, List.drop_zero, List.take_nil, List.drop_nil, List.contains_cons, List.contains_nil, Option.getD_some, Option.getD_none, Option.map_some, Option.map_none, if_true, if_false, true_and, and_true, and_self, or_self, or_false, false_or, false_and, and_false, reduceCtorEq, sel_and, sel_or, decide_eq_true_eq, Bool.and_eq_true, Bool.or_eq_true, Bool.and_true, Bool.true_and, Bool.or_false, Bool.false_or, Bool.true_or, Bool.or_true, Bool.not_true, Bool.not_false, Bool.false_eq_true, implies_true, not_false_eq_true, Nat.reduceLT, Nat.reduceEqDiff, Nat.reduceAdd, Nat.reduceMul, Nat.reduceMod, Nat.reduceLeDiff, Nat.reduceBEq, Nat.zero_add, Nat.add_zero, reduceIte, ↓reduceIte, List.not_mem_nil]
  refine ⟨hb, by kernel_rfl, Sub.tup ?_⟩
  simp only [Mt.MtL, jv0, JV.kind, JV.text, JV.neg, JV.dig, JV.exp, JV.items, JV.frm, JV.til, JV.marks, List.map_nil, Mt_tup, Mt_agg, Mt_fn, forall_eq, forall_eq_or_imp, ne_eq, List.all_cons, List.all_nil, pr, Nat.reduceLeDiff, slR_nil, slR_cons, hpR_nil, hpR_cells, hpR_row, idsR_nil, idsR_cons, mtE_v, mtE_sl, mtE_nil, mtE_refl, mtE_row, mtE_born, mtE_ptr, mtE_rp, mtE_agg, mtE_tup, mtE_fn, mtE_ep, MtL_nil, MtL_cons, Mt_v, Mt_sl, Mt_nil, Mt_refl, Mt_row, Mt_born, Mt_ptr, MtO_cells, MtO_row, liveIds, distinct, Dat.v.injEq, Dat.sl.injEq, Value.int.injEq, Value.bool.injEq, Value.string.injEq, lk_cons, lk_nil, subL_nil, subL_cons, upIds, AV.ids, AV.ids.idsL, AObj.ids, Hp.get_cons, get_nil, allCell, AV.cell, vInt, vBool, vStr, id, true_and, and_true, and_self, List.append_nil, List.nil_append, List.not_mem_nil, List.mem_cons, or_false, false_or, or_self, not_true_eq_false, not_false_eq_true, false_imp_iff, false_implies, List.map_nil, not_false_eq_true, List.contains_cons, List.contains_nil, Bool.or_false, Bool.false_or, Bool.true_or, Bool.or_true, Bool.and_true, Bool.true_and, implies_true, if_true, if_false, reduceCtorEq, Nat.reduceEqDiff, Nat.reduceBEq, Nat.reduceAdd, reduceIte, ↓reduceIte]
 ·rw [h1] at hR hN
  simp only [] at hR hN
  rw [if_neg (by decide)] at hR
  rcases hv : rVal b ts (capV depth 0 60).toNat (0, 0, 0) with ⟨V, n1, e1, a1⟩
  rw [hv] at hR
  simp only [] at hR
  simp only [bytesD, num_iD, tkO_R, nz1, h1, hv, splitD, toksD, faultD, jpD, jvD_eq, G_jp_at, calmE, F_spj, F_cap, F_obj, rdF, f_val, f_fail, rdD, AV.flat, AV.flat.flatL, List.length_map, List.map_cons, List.map_nil, Int.toNat_natCast, Int.ofNat_zero, Int.cast_ofNat_Int, Int.reduceLE, Int.reduceLT, Int.reduceGT, Int.reduceGE, Int.reduceBEq, Int.reduceBNe, Int.reduceEq, Int.reduceToNat, Int.reduceSub, Int.reduceAdd, Int.reduceMul, Int.reducePow, Int.reduceNeg, goTG_val, goTG_new, goTG_up, goTG_none, goG_none, goG_new, goG_up, ne_eq, evK, evH, retHF, DRun_mk, runT_nil, runT_none, runT_guard, goT_val, goT_new, goT_store, goTH_true, goTH_false, evO, keys, Option.toList_some, Option.toList_none, nzL_nil, nzL_cons, nz_k, nz_sl, nz_nil, nz_agg, startL, evC, evV, goE_val, goE_new, goE_store, goH_true, goH_false, goG_val, lk_cons, lk_nil, lk_func, lk_int, lk_bool, lk_string, lk_slice, lk_agg, look_mk, St.effOf, eff, effCall, effBinC, isConst, effBin, effUn, effConv, effPick, effNil, effFold, fold1, effLoad, effStore, effFieldAddr, effField, fieldOf, sliceOf, effIndexAddr, effIndex, effLen, effExtract, effSlice, dats, bnd, effBuild, placesOf, effBuildSlice, effMakeSlice, effAppend, srcOf, fillA, chunk, seg, toD, toDs, put, eqAV, fieldsEq, leafEq, strip, unw, allB, selP_or, selP_and, tis, TyD.agg, AV.cells, AV.cell, allCell, vInt, vBool, vStr, subL_nil, subL_cons, upIds, AV.ids, AV.ids.idsL, AObj.ids, drops, Hp.get_cons, get_nil, retF, resL, one, fz, fz.fzL, List.map_cons, List.map_nil, List.nil_append, List.append_nil, List.cons_append, List.all_cons, List.all_nil, List.length_cons, List.length_nil, List.getElem?_cons_zero, List.getElem?_cons_succ, List.getD_cons_zero, List.getD_cons_succ, List.take_succ_cons, List.take_zero, List.drop_succ_cons, List.drop_zero, List.take_nil, List.drop_nil, List.contains_cons, List.contains_nil, Option.getD_some, Option.getD_none, Option.map_some, Option.map_none, if_true, if_false, true_and, and_true, and_self, or_self, or_false, false_or, false_and, and_false, reduceCtorEq, sel_and, sel_or, decide_eq_true_eq, Bool.and_eq_true, Bool.or_eq_true, Bool.and_true, Bool.true_and, Bool.or_false, Bool.false_or, Bool.true_or, Bool.or_true, Bool.not_true, Bool.not_false, Bool.false_eq_true, implies_true, not_false_eq_true, Nat.reduceLT, Nat.reduceEqDiff, Nat.reduceAdd, Nat.reduceMul, Nat.reduceMod, Nat.reduceLeDiff, Nat.reduceBEq, Nat.zero_add, Nat.add_zero, reduceIte, ↓reduceIte, List.not_mem_nil]
  have hk : (ts.length : Int) = ts.length := rfl
  refine ⟨hb, ⟨h4, hN, by omega, by omega, Nat.zero_le _⟩, ?_⟩
  by_cases c1 : n1 < ts.length
  ·rw [if_pos (by omega)]
   rw [if_pos c1] at hR
   refine ⟨⟨by omega, h4⟩, ?_⟩
   by_cases c2 : (rFail b ts 3 (n1, e1, a1)).2.1 ≠ 0
   ·rw [if_pos c2] at hR
    subst hR
    rw [if_pos (by rw [bne_iff_ne]; exact c2)]
    refine ⟨by kernel_rfl, Sub.tup ?_⟩
    simp only [Mt.MtL, jv0, JV.kind, JV.text, JV.neg, JV.dig, JV.exp, JV.items, JV.frm, JV.til, JV.marks, List.map_nil, Mt_tup, Mt_agg, Mt_fn, forall_eq, forall_eq_or_imp, ne_eq, List.all_cons, List.all_nil, pr, Nat.reduceLeDiff, slR_nil, slR_cons, hpR_nil, hpR_cells, hpR_row, idsR_nil, idsR_cons, mtE_v, mtE_sl, mtE_nil, mtE_refl, mtE_row, mtE_born, mtE_ptr, mtE_rp, mtE_agg, mtE_tup, mtE_fn, mtE_ep, MtL_nil, MtL_cons, Mt_v, Mt_sl, Mt_nil, Mt_refl, Mt_row, Mt_born, Mt_ptr, MtO_cells, MtO_row, liveIds, distinct, Dat.v.injEq, Dat.sl.injEq, Value.int.injEq, Value.bool.injEq, Value.string.injEq, lk_cons, lk_nil, subL_nil, subL_cons, upIds, AV.ids, AV.ids.idsL, AObj.ids, Hp.get_cons, get_nil, allCell, AV.cell, vInt, vBool, vStr, id, true_and, and_true, and_self, List.append_nil, List.nil_append, List.not_mem_nil, List.mem_cons, or_false, false_or, or_self, not_true_eq_false, not_false_eq_true, false_imp_iff, false_implies, List.map_nil, not_false_eq_true, List.contains_cons, List.contains_nil, Bool.or_false, Bool.false_or, Bool.true_or, Bool.or_true, Bool.and_true, Bool.true_and, implies_true, if_true, if_false, reduceCtorEq, Nat.reduceEqDiff, Nat.reduceBEq, Nat.reduceAdd, reduceIte, ↓reduceIte]
   ·rw [if_neg c2] at hR
    subst hR
    rw [if_neg (by rw [bne_iff_ne]; exact c2)]
  ·rw [if_neg (by omega)]
   rw [if_neg c1] at hR
   by_cases c2 : e1 ≠ 0
   ·rw [if_pos c2] at hR
    subst hR
    rw [if_pos (by rw [bne_iff_ne]; exact c2)]
    refine ⟨by kernel_rfl, Sub.tup ?_⟩
    simp only [Mt.MtL, jv0, JV.kind, JV.text, JV.neg, JV.dig, JV.exp, JV.items, JV.frm, JV.til, JV.marks, List.map_nil, Mt_tup, Mt_agg, Mt_fn, forall_eq, forall_eq_or_imp, ne_eq, List.all_cons, List.all_nil, pr, Nat.reduceLeDiff, slR_nil, slR_cons, hpR_nil, hpR_cells, hpR_row, idsR_nil, idsR_cons, mtE_v, mtE_sl, mtE_nil, mtE_refl, mtE_row, mtE_born, mtE_ptr, mtE_rp, mtE_agg, mtE_tup, mtE_fn, mtE_ep, MtL_nil, MtL_cons, Mt_v, Mt_sl, Mt_nil, Mt_refl, Mt_row, Mt_born, Mt_ptr, MtO_cells, MtO_row, liveIds, distinct, Dat.v.injEq, Dat.sl.injEq, Value.int.injEq, Value.bool.injEq, Value.string.injEq, lk_cons, lk_nil, subL_nil, subL_cons, upIds, AV.ids, AV.ids.idsL, AObj.ids, Hp.get_cons, get_nil, allCell, AV.cell, vInt, vBool, vStr, id, true_and, and_true, and_self, List.append_nil, List.nil_append, List.not_mem_nil, List.mem_cons, or_false, false_or, or_self, not_true_eq_false, not_false_eq_true, false_imp_iff, false_implies, List.map_nil, not_false_eq_true, List.contains_cons, List.contains_nil, Bool.or_false, Bool.false_or, Bool.true_or, Bool.or_true, Bool.and_true, Bool.true_and, implies_true, if_true, if_false, reduceCtorEq, Nat.reduceEqDiff, Nat.reduceBEq, Nat.reduceAdd, reduceIte, ↓reduceIte]
   ·rw [if_neg c2] at hR
    subst hR
    rw [if_neg (by rw [bne_iff_ne]; exact c2)]
def F_jp : List AV → Option (Prop × AV)
 | [.d (.sl 1 xs), .d (.v (.int .i64 d))] => some (xs = (xs.map numOf).map (iD .u8) ∧ Bytes (xs.map numOf) ∧ numsOk (xs.map numOf) (splitF (xs.map numOf)).1, jpD (jpF (xs.map numOf) d))
 | _ => none
theorem jpD_ids (r : JV × Int × Int) : (jpD r).ids = [] := by
 simp only [jpD, faultD, AV.ids, AV.ids.idsL, map_d_ids, vInt, List.append_nil]
theorem jp_calm : ∀ args sc res, F_jp args = some (sc, res) → sc → Calm Try.prog 14 args res := by
 intro args sc res h hs
 unfold F_jp at h
 split at h <;> cases h
 rename_i xs d
 obtain ⟨h1, hb, h2⟩ := hs
 have hq := jp_body (xs.map numOf) hb d h2
 rw [bytesD, ← h1] at hq
 exact known_jp.calm mixed rfl (jpD_ids _) hq
end Go.Proofs.Ytgbialeahdoelaa.Eng

end

section
namespace Go.Proofs.Ytgbialeahdoelaa.Eng
open Go Go.Proofs.Ytgbialeahdoelaa.Base
set_option maxRecDepth 100000
set_option linter.unusedSimpArgs false
set_option linter.unusedVariables false
def letB : ByteArray := ⟨#[65, 66, 67, 68, 69, 70, 71, 72, 73, 74, 75, 76, 77, 78, 79, 80, 81, 82, 83, 84, 85, 86, 87, 88, 89, 90, 97, 98, 99, 100, 101, 102, 103, 104, 105, 106, 107, 108, 109, 110, 111, 112, 113, 114, 115, 116, 117, 118, 119, 120, 121, 122, 48, 49, 50, 51, 52, 53, 54, 55, 56, 57, 43, 47]⟩
theorem letB_size : letB.size = 64 := rfl
def dig (n : Nat) : ByteArray := letB.extract n (n + 1)
theorem dig_size {n : Nat} (h : n < 64) : (dig n).size = 1 := by
 rw [dig, ByteArray.size_extract, letB_size]; omega
theorem dig_at {y : Nat} (h : y < 64) : letB.extract (y : Int).toNat (IntKind.i64.wrap ((y : Int) + 1)).toNat = dig y := by
 rw [w64 (by omega) (by omega), Int.toNat_natCast, show ((y : Int) + 1).toNat = y + 1 by omega]; rfl
theorem wraps62 (n : Int) (h0 : 0 ≤ n) (h1 : n < 2 ^ 62) : IntKind.i64.wrap n = n := by rw [IntKind.wrap_i64]; omega
theorem and31' {x : Int} (h0 : 0 ≤ x) (h1 : x < 2 ^ 62) : bits .and .i64 x 31 = x % 32 :=
 bits_mask .i64 62 (by decide) wraps62 5 (by decide) x h0 h1
theorem app_assoc (a b c : ByteArray) : a ++ b ++ c = a ++ (b ++ c) := by
 apply ByteArray.ext
 simp [ByteArray.data_append]
def vd (x : Nat) : ByteArray := if h : x < 32 then dig x else dig (x % 32 + 32) ++ vd (x / 32)
termination_by x
decreasing_by omega
theorem vd_lo {x : Nat} (h : x < 32) : vd x = dig x := by rw [vd, dif_pos h]
theorem vd_hi {x : Nat} (h : ¬ x < 32) : vd x = dig (x % 32 + 32) ++ vd (x / 32) := by rw [vd, dif_neg h]
theorem vd_size (k : Nat) : ∀ x : Nat, x < 32 ^ (k + 1) → 1 ≤ (vd x).size ∧ (vd x).size ≤ k + 1 := by
 induction k with
 | zero => intro x h; rw [vd_lo (by simpa using h), dig_size (by simp at h; omega)]; omega
 | succ k ih =>
  intro x h
  by_cases h1 : x < 32
  ·rw [vd_lo h1, dig_size (by omega)]; omega
  ·have := ih (x / 32) (by rw [Nat.pow_succ] at h; exact Nat.div_lt_of_lt_mul (by rw [Nat.mul_comm]; exact h))
   rw [vd_hi h1, ByteArray.size_append, dig_size (by omega)]; omega
def vx (n : Int) : Nat := if n < 0 then (1 - 2 * n).toNat else (2 * n).toNat
def vq (n : Int) : ByteArray := if n < -1099511627776 ∨ n > 1099511627776 then ByteArray.empty else vd (vx n)
theorem vx_lt {n : Int} (h : ¬ (n < -1099511627776 ∨ n > 1099511627776)) : vx n < 32 ^ 9 := by unfold vx; split <;> omega
theorem vq_size (n : Int) : (vq n).size ≤ 9 := by
 unfold vq
 split
 ·exact Nat.zero_le _
 ·rename_i h; exact (vd_size 8 _ (vx_lt h)).2
theorem ba_nil (s : ByteArray) : s ++ ByteArray.empty = s := by apply ByteArray.ext; simp
theorem Put_body2 (s : ByteArray) (n : Int) (hs : s.size ≤ 9000000000000000000) : Body Try.prog Gam.none (DRun Try.prog Gam.none) 21 [.d (.v (.string s)), .d (.v (.int .i64 n))] (vStr (s ++ vq n)) := by
 refine Body.of Try.func21 Try.ntmps21 (by kernel_rfl) rfl rfl rfl ?_
 simp only [show (⟨#[65, 66, 67, 68, 69, 70, 71, 72, 73, 74, 75, 76, 77, 78, 79, 80, 81, 82, 83, 84, 85, 86, 87, 88, 89, 90, 97, 98, 99, 100, 101, 102, 103, 104, 105, 106, 107, 108, 109, 110, 111, 112, 113, 114, 115, 116, 117, 118, 119, 120, 121, 122, 48, 49, 50, 51, 52, 53, 54, 55, 56, 57, 43, 47]⟩ : ByteArray) = letB from rfl, goTG_val, goTG_new, goTG_up, goTG_none, goG_none, goG_new, goG_up, ne_eq, evK, evH, retHF, DRun_mk, runT_nil, runT_none, runT_guard, goT_val, goT_new, goT_store, goTH_true, goTH_false, evO, keys, Option.toList_some, Option.toList_none, nzL_nil, nzL_cons, nz_k, nz_sl, nz_nil, nz_agg, startL, evC, evV, goE_val, goE_new, goE_store, goH_true, goH_false, goG_val, lk_cons, lk_nil, lk_func, lk_int, lk_bool, lk_string, lk_slice, lk_agg, look_mk, St.effOf, eff, effCall, effBinC, isConst, effBin, effUn, effConv, effPick, effNil, effFold, fold1, effLoad, effStore, effFieldAddr, effField, fieldOf, sliceOf, effIndexAddr, effIndex, effLen, effExtract, effSlice, dats, bnd, effBuild, placesOf, effBuildSlice, effMakeSlice, effAppend, srcOf, fillA, chunk, seg, toD, toDs, put, eqAV, fieldsEq, leafEq, strip, unw, allB, selP_or, selP_and, tis, TyD.agg, AV.cells, AV.cell, allCell, vInt, vBool, vStr, subL_nil, subL_cons, upIds, AV.ids, AV.ids.idsL, AObj.ids, drops, Hp.get_cons, get_nil, retF, resL, one, fz, fz.fzL, List.map_cons, List.map_nil, List.nil_append, List.append_nil, List.cons_append, List.all_cons, List.all_nil, List.length_cons, List.length_nil, List.getElem?_cons_zero, List.getElem?_cons_succ, List.getD_cons_zero, List.getD_cons_succ, List.take_succ_cons, List.take_zero, List.drop_succ_cons, List.drop_zero, List.take_nil, List.drop_nil, List.contains_cons, List.contains_nil, Option.getD_some, Option.getD_none, Option.map_some, Option.map_none, if_true, if_false, true_and, and_true, and_self, or_self, or_false, false_or, false_and, and_false, reduceCtorEq, sel_and, sel_or, decide_eq_true_eq, Bool.and_eq_true, Bool.or_eq_true, Bool.and_true, Bool.true_and, Bool.or_false, Bool.false_or, Bool.true_or, Bool.or_true, Bool.not_true, Bool.not_false, Bool.false_eq_true, implies_true, not_false_eq_true, Nat.reduceLT, Nat.reduceEqDiff, Nat.reduceAdd, Nat.reduceMul, Nat.reduceMod, Nat.reduceLeDiff, Nat.reduceBEq, Nat.zero_add, Nat.add_zero, reduceIte, ↓reduceIte, List.not_mem_nil]
 unfold vq
 by_cases c : n < -1099511627776 ∨ n > 1099511627776
 ·rw [if_pos c, if_pos c, ba_nil]
 rw [if_neg c, if_neg c]
 have hx := vx_lt c
 have ht := vd_size 8 _ hx
 have start : ∃ x : Nat, x = vx n ∧ (if IntKind.i64.wrap (n * 2) < 0 then IntKind.i64.wrap (1 - IntKind.i64.wrap (n * 2)) else IntKind.i64.wrap (n * 2)) = (x : Int) := by
  refine ⟨vx n, rfl, ?_⟩
  rw [w64 (n := n * 2) (by omega) (by omega)]
  unfold vx
  by_cases h : n < 0
  ·rw [if_pos (by omega), if_pos h, w64 (by omega) (by omega)]; omega
  ·rw [if_neg (by omega), if_neg h]; omega
 obtain ⟨x0, e0, hst⟩ := start
 rw [← e0] at hx ht ⊢
 by_cases hneg : IntKind.i64.wrap (n * 2) < 0
 all_goals
  first | (rw [if_pos hneg] at hst; rw [if_pos hneg]) | (rw [if_neg hneg] at hst; rw [if_neg hneg])
  rw [hst]
  refine wpc_loop (fun q : ByteArray × Nat => ⟨38, [], [(0, vStr q.1), (1, vInt .i64 q.2)], []⟩) (fun q => q.2 < 32 ^ 9 ∧ q.1 ++ vd q.2 = s ++ vd x0) (fun q => q.2) (s, x0) ⟨hx, rfl⟩ ?_ ?_
  ·refine Le.of id [] ?_
   simp only [Mt_tup, Mt_agg, Mt_fn, forall_eq, forall_eq_or_imp, ne_eq, List.all_cons, List.all_nil, pr, Nat.reduceLeDiff, slR_nil, slR_cons, hpR_nil, hpR_cells, hpR_row, idsR_nil, idsR_cons, mtE_v, mtE_sl, mtE_nil, mtE_refl, mtE_row, mtE_born, mtE_ptr, mtE_rp, mtE_agg, mtE_tup, mtE_fn, mtE_ep, MtL_nil, MtL_cons, Mt_v, Mt_sl, Mt_nil, Mt_refl, Mt_row, Mt_born, Mt_ptr, MtO_cells, MtO_row, liveIds, distinct, Dat.v.injEq, Dat.sl.injEq, Value.int.injEq, Value.bool.injEq, Value.string.injEq, lk_cons, lk_nil, subL_nil, subL_cons, upIds, AV.ids, AV.ids.idsL, AObj.ids, Hp.get_cons, get_nil, allCell, AV.cell, vInt, vBool, vStr, id, true_and, and_true, and_self, List.append_nil, List.nil_append, List.not_mem_nil, List.mem_cons, or_false, false_or, or_self, not_true_eq_false, not_false_eq_true, false_imp_iff, false_implies, List.map_nil, not_false_eq_true, List.contains_cons, List.contains_nil, Bool.or_false, Bool.false_or, Bool.true_or, Bool.or_true, Bool.and_true, Bool.true_and, implies_true, if_true, if_false, reduceCtorEq, Nat.reduceEqDiff, Nat.reduceBEq, Nat.reduceAdd, reduceIte, ↓reduceIte]
  ·rintro ⟨acc, x⟩ ⟨h1, h2⟩
   simp only [] at h1 h2
   have hsz := congrArg ByteArray.size h2
   rw [ByteArray.size_append, ByteArray.size_append] at hsz
   have hx2 := vd_size 8 _ h1
   simp only [goTG_val, goTG_new, goTG_up, goTG_none, goG_none, goG_new, goG_up, ne_eq, evK, evH, retHF, DRun_mk, runT_nil, runT_none, runT_guard, goT_val, goT_new, goT_store, goTH_true, goTH_false, evO, keys, Option.toList_some, Option.toList_none, nzL_nil, nzL_cons, nz_k, nz_sl, nz_nil, nz_agg, startL, evC, evV, goE_val, goE_new, goE_store, goH_true, goH_false, goG_val, lk_cons, lk_nil, lk_func, lk_int, lk_bool, lk_string, lk_slice, lk_agg, look_mk, St.effOf, eff, effCall, effBinC, isConst, effBin, effUn, effConv, effPick, effNil, effFold, fold1, effLoad, effStore, effFieldAddr, effField, fieldOf, sliceOf, effIndexAddr, effIndex, effLen, effExtract, effSlice, dats, bnd, effBuild, placesOf, effBuildSlice, effMakeSlice, effAppend, srcOf, fillA, chunk, seg, toD, toDs, put, eqAV, fieldsEq, leafEq, strip, unw, allB, selP_or, selP_and, tis, TyD.agg, AV.cells, AV.cell, allCell, vInt, vBool, vStr, subL_nil, subL_cons, upIds, AV.ids, AV.ids.idsL, AObj.ids, drops, Hp.get_cons, get_nil, retF, resL, one, fz, fz.fzL, List.map_cons, List.map_nil, List.nil_append, List.append_nil, List.cons_append, List.all_cons, List.all_nil, List.length_cons, List.length_nil, List.getElem?_cons_zero, List.getElem?_cons_succ, List.getD_cons_zero, List.getD_cons_succ, List.take_succ_cons, List.take_zero, List.drop_succ_cons, List.drop_zero, List.take_nil, List.drop_nil, List.contains_cons, List.contains_nil, Option.getD_some, Option.getD_none, Option.map_some, Option.map_none, if_true, if_false, true_and, and_true, and_self, or_self, or_false, false_or, false_and, and_false, reduceCtorEq, sel_and, sel_or, decide_eq_true_eq, Bool.and_eq_true, Bool.or_eq_true, Bool.and_true, Bool.true_and, Bool.or_false, Bool.false_or, Bool.true_or, Bool.or_true, Bool.not_true, Bool.not_false, Bool.false_eq_true, implies_true, not_false_eq_true, Nat.reduceLT, Nat.reduceEqDiff, Nat.reduceAdd, Nat.reduceMul, Nat.reduceMod, Nat.reduceLeDiff, Nat.reduceBEq, Nat.zero_add, Nat.add_zero, reduceIte, ↓reduceIte, List.not_mem_nil]
   by_cases h3 : (x : Int) ≥ 32
   ·rw [if_pos h3]
    have em : (x : Int).tmod 32 = ((x % 32 : Nat) : Int) := by rw [Int.tmod_eq_emod_of_nonneg (by omega)]; omega
    have eo : bits .or .i64 ((x % 32 : Nat) : Int) 32 = ((x % 32 + 32 : Nat) : Int) := by
     have key : ∀ k : Fin 32, bits .or .i64 ((k.val : Nat) : Int) 32 = ((k.val + 32 : Nat) : Int) := by decide +kernel
     exact key ⟨x % 32, by omega⟩
    have ed : Int.fdiv (x : Int) (2 ^ min (Int.toNat 5) IntKind.i64.bits) = ((x / 32 : Nat) : Int) := by rw [Int.fdiv_eq_ediv_of_nonneg _ (by decide)]; rfl
    rw [em, eo, ed, dig_at (by omega), w64 (n := ((x % 32 + 32 : Nat) : Int) + 1) (by omega) (by omega), letB_size, dig_size (by omega)]
    refine ⟨by decide, by decide, by omega, by omega, by decide, (acc ++ dig (x % 32 + 32), x / 32), by simp only []; omega, ⟨by simp only []; omega, by rw [app_assoc, ← vd_hi (by omega)]; exact h2⟩, Le.of id [] ?_⟩
    simp only [Mt_tup, Mt_agg, Mt_fn, forall_eq, forall_eq_or_imp, ne_eq, List.all_cons, List.all_nil, pr, Nat.reduceLeDiff, slR_nil, slR_cons, hpR_nil, hpR_cells, hpR_row, idsR_nil, idsR_cons, mtE_v, mtE_sl, mtE_nil, mtE_refl, mtE_row, mtE_born, mtE_ptr, mtE_rp, mtE_agg, mtE_tup, mtE_fn, mtE_ep, MtL_nil, MtL_cons, Mt_v, Mt_sl, Mt_nil, Mt_refl, Mt_row, Mt_born, Mt_ptr, MtO_cells, MtO_row, liveIds, distinct, Dat.v.injEq, Dat.sl.injEq, Value.int.injEq, Value.bool.injEq, Value.string.injEq, lk_cons, lk_nil, subL_nil, subL_cons, upIds, AV.ids, AV.ids.idsL, AObj.ids, Hp.get_cons, get_nil, allCell, AV.cell, vInt, vBool, vStr, id, true_and, and_true, and_self, List.append_nil, List.nil_append, List.not_mem_nil, List.mem_cons, or_false, false_or, or_self, not_true_eq_false, not_false_eq_true, false_imp_iff, false_implies, List.map_nil, not_false_eq_true, List.contains_cons, List.contains_nil, Bool.or_false, Bool.false_or, Bool.true_or, Bool.or_true, Bool.and_true, Bool.true_and, implies_true, if_true, if_false, reduceCtorEq, Nat.reduceEqDiff, Nat.reduceBEq, Nat.reduceAdd, reduceIte, ↓reduceIte]
   ·rw [if_neg h3, dig_at (by omega), w64 (n := (x : Int) + 1) (by omega) (by omega), letB_size, dig_size (by omega), ← vd_lo (by omega), h2]
    exact ⟨by omega, by omega, Sub.refl _⟩
def F_let : List AV → Option (Prop × AV)
 | [] => some (True, vStr letB)
 | _ => none
theorem let_body : Body Try.prog Gam.none (DRun Try.prog Gam.none) 41 [] (vStr letB) := by
 refine Body.of Try.func41 Try.ntmps41 (by kernel_rfl) rfl rfl rfl ?_
 simp only [goTG_val, goTG_new, goTG_up, goTG_none, goG_none, goG_new, goG_up, ne_eq, evK, evH, retHF, DRun_mk, runT_nil, runT_none, runT_guard, goT_val, goT_new, goT_store, goTH_true, goTH_false, evO, keys, Option.toList_some, Option.toList_none, nzL_nil, nzL_cons, nz_k, nz_sl, nz_nil, nz_agg, startL, evC, evV, goE_val, goE_new, goE_store, goH_true, goH_false, goG_val, lk_cons, lk_nil, lk_func, lk_int, lk_bool, lk_string, lk_slice, lk_agg, look_mk, St.effOf, eff, effCall, effBinC, isConst, effBin, effUn, effConv, effPick, effNil, effFold, fold1, effLoad, effStore, effFieldAddr, effField, fieldOf, sliceOf, effIndexAddr, effIndex, effLen, effExtract, effSlice, dats, bnd, effBuild, placesOf, effBuildSlice, effMakeSlice, effAppend, srcOf, fillA, chunk, seg, toD, toDs, put, eqAV, fieldsEq, leafEq, strip, unw, allB, selP_or, selP_and, tis, TyD.agg, AV.cells, AV.cell, allCell, vInt, vBool, vStr, subL_nil, subL_cons, upIds, AV.ids, AV.ids.idsL, AObj.ids, drops, Hp.get_cons, get_nil, retF, resL, one, fz, fz.fzL, List.map_cons, List.map_nil, List.nil_append, List.append_nil, List.cons_append, List.all_cons, List.all_nil, List.length_cons, List.length_nil, List.getElem?_cons_zero, List.getElem?_cons_succ, List.getD_cons_zero, List.getD_cons_succ, List.take_succ_cons, List.take_zero, List.drop_succ_cons, List.drop_zero, List.take_nil, List.drop_nil, List.contains_cons, List.contains_nil, Option.getD_some, Option.getD_none, Option.map_some, Option.map_none, if_true, if_false, true_and, and_true, and_self, or_self, or_false, false_or, false_and, and_false, reduceCtorEq, sel_and, sel_or, decide_eq_true_eq, Bool.and_eq_true, Bool.or_eq_true, Bool.and_true, Bool.true_and, Bool.or_false, Bool.false_or, Bool.true_or, Bool.or_true, Bool.not_true, Bool.not_false, Bool.false_eq_true, implies_true, not_false_eq_true, Nat.reduceLT, Nat.reduceEqDiff, Nat.reduceAdd, Nat.reduceMul, Nat.reduceMod, Nat.reduceLeDiff, Nat.reduceBEq, Nat.zero_add, Nat.add_zero, reduceIte, ↓reduceIte, List.not_mem_nil]
 exact Sub.refl _
theorem let_calm : ∀ args sc res, F_let args = some (sc, res) → sc → Calm Try.prog 41 args res := by
 intro args sc res h _
 unfold F_let at h
 split at h <;> cases h
 exact (Known.none _).calm mixed rfl rfl let_body
noncomputable def G_let : Gam := Gam.none.add 41 fun a => F_let (NT.nz.nzL [] a)
theorem G_let_at (h : Nat → Option AObj) (d : Nat) (a : List AV) : G_let 41 h d a = calmE (fun a => F_let (NT.nz.nzL [] a)) h a := rfl
theorem known_let : Known Try.prog G_let := (Known.none _).addC _ let_calm
theorem RPut_body2 (s : ByteArray) (n : Int) (hs : s.size ≤ 9000000000000000000) : Body Try.prog G_let (DRun Try.prog G_let) 24 [.d (.v (.string s)), .d (.v (.int .i64 n))] (vStr (s ++ vq n)) := by
 refine Body.of Try.func24 Try.ntmps24 (by kernel_rfl) rfl rfl rfl ?_
 simp only [G_let_at, calmE, F_let, AV.flat, AV.flat.flatL, goTG_val, goTG_new, goTG_up, goTG_none, goG_none, goG_new, goG_up, ne_eq, evK, evH, retHF, DRun_mk, runT_nil, runT_none, runT_guard, goT_val, goT_new, goT_store, goTH_true, goTH_false, evO, keys, Option.toList_some, Option.toList_none, nzL_nil, nzL_cons, nz_k, nz_sl, nz_nil, nz_agg, startL, evC, evV, goE_val, goE_new, goE_store, goH_true, goH_false, goG_val, lk_cons, lk_nil, lk_func, lk_int, lk_bool, lk_string, lk_slice, lk_agg, look_mk, St.effOf, eff, effCall, effBinC, isConst, effBin, effUn, effConv, effPick, effNil, effFold, fold1, effLoad, effStore, effFieldAddr, effField, fieldOf, sliceOf, effIndexAddr, effIndex, effLen, effExtract, effSlice, dats, bnd, effBuild, placesOf, effBuildSlice, effMakeSlice, effAppend, srcOf, fillA, chunk, seg, toD, toDs, put, eqAV, fieldsEq, leafEq, strip, unw, allB, selP_or, selP_and, tis, TyD.agg, AV.cells, AV.cell, allCell, vInt, vBool, vStr, subL_nil, subL_cons, upIds, AV.ids, AV.ids.idsL, AObj.ids, drops, Hp.get_cons, get_nil, retF, resL, one, fz, fz.fzL, List.map_cons, List.map_nil, List.nil_append, List.append_nil, List.cons_append, List.all_cons, List.all_nil, List.length_cons, List.length_nil, List.getElem?_cons_zero, List.getElem?_cons_succ, List.getD_cons_zero, List.getD_cons_succ, List.take_succ_cons, List.take_zero, List.drop_succ_cons, List.drop_zero, List.take_nil, List.drop_nil, List.contains_cons, List.contains_nil, Option.getD_some, Option.getD_none, Option.map_some, Option.map_none, if_true, if_false, true_and, and_true, and_self, or_self, or_false, false_or, false_and, and_false, reduceCtorEq, sel_and, sel_or, decide_eq_true_eq, Bool.and_eq_true, Bool.or_eq_true, Bool.and_true, Bool.true_and, Bool.or_false, Bool.false_or, Bool.true_or, Bool.or_true, Bool.not_true, Bool.not_false, Bool.false_eq_true, implies_true, not_false_eq_true, Nat.reduceLT, Nat.reduceEqDiff, Nat.reduceAdd, Nat.reduceMul, Nat.reduceMod, Nat.reduceLeDiff, Nat.reduceBEq, Nat.zero_add, Nat.add_zero, reduceIte, ↓reduceIte, List.not_mem_nil]
 unfold vq
 by_cases c : n < -1099511627776 ∨ n > 1099511627776
 ·rw [if_pos c, if_pos c, ba_nil]
 rw [if_neg c, if_neg c]
 have hx := vx_lt c
 have ht := vd_size 8 _ hx
 have start : ∃ x : Nat, x = vx n ∧ (if n < 0 then IntKind.i64.wrap (IntKind.i64.wrap (-2 * n) + 1) else IntKind.i64.wrap (2 * n)) = (x : Int) := by
  refine ⟨vx n, rfl, ?_⟩
  unfold vx
  by_cases h : n < 0
  ·rw [if_pos h, if_pos h, w64 (n := -2 * n) (by omega) (by omega), w64 (by omega) (by omega)]; omega
  ·rw [if_neg h, if_neg h, w64 (by omega) (by omega)]; omega
 obtain ⟨x0, e0, hst⟩ := start
 rw [← e0] at hx ht ⊢
 by_cases hneg : n < 0
 all_goals
  first | (rw [if_pos hneg] at hst; rw [if_pos hneg]) | (rw [if_neg hneg] at hst; rw [if_neg hneg])
  rw [hst]
  refine wpc_loop (fun q : ByteArray × Nat => ⟨39, [], [(0, vStr q.1), (5, vInt .i64 q.2)], []⟩) (fun q => q.2 < 32 ^ 9 ∧ q.1 ++ vd q.2 = s ++ vd x0) (fun q => q.2) (s, x0) ⟨hx, rfl⟩ ?_ ?_
  ·refine Le.of id [] ?_
   simp only [Mt_tup, Mt_agg, Mt_fn, forall_eq, forall_eq_or_imp, ne_eq, List.all_cons, List.all_nil, pr, Nat.reduceLeDiff, slR_nil, slR_cons, hpR_nil, hpR_cells, hpR_row, idsR_nil, idsR_cons, mtE_v, mtE_sl, mtE_nil, mtE_refl, mtE_row, mtE_born, mtE_ptr, mtE_rp, mtE_agg, mtE_tup, mtE_fn, mtE_ep, MtL_nil, MtL_cons, Mt_v, Mt_sl, Mt_nil, Mt_refl, Mt_row, Mt_born, Mt_ptr, MtO_cells, MtO_row, liveIds, distinct, Dat.v.injEq, Dat.sl.injEq, Value.int.injEq, Value.bool.injEq, Value.string.injEq, lk_cons, lk_nil, subL_nil, subL_cons, upIds, AV.ids, AV.ids.idsL, AObj.ids, Hp.get_cons, get_nil, allCell, AV.cell, vInt, vBool, vStr, id, true_and, and_true, and_self, List.append_nil, List.nil_append, List.not_mem_nil, List.mem_cons, or_false, false_or, or_self, not_true_eq_false, not_false_eq_true, false_imp_iff, false_implies, List.map_nil, not_false_eq_true, List.contains_cons, List.contains_nil, Bool.or_false, Bool.false_or, Bool.true_or, Bool.or_true, Bool.and_true, Bool.true_and, implies_true, if_true, if_false, reduceCtorEq, Nat.reduceEqDiff, Nat.reduceBEq, Nat.reduceAdd, reduceIte, ↓reduceIte]
  ·rintro ⟨acc, x⟩ ⟨h1, h2⟩
   simp only [] at h1 h2
   have hsz := congrArg ByteArray.size h2
   rw [ByteArray.size_append, ByteArray.size_append] at hsz
   have hx2 := vd_size 8 _ h1
   simp only [G_let_at, calmE, F_let, AV.flat, AV.flat.flatL, goTG_val, goTG_new, goTG_up, goTG_none, goG_none, goG_new, goG_up, ne_eq, evK, evH, retHF, DRun_mk, runT_nil, runT_none, runT_guard, goT_val, goT_new, goT_store, goTH_true, goTH_false, evO, keys, Option.toList_some, Option.toList_none, nzL_nil, nzL_cons, nz_k, nz_sl, nz_nil, nz_agg, startL, evC, evV, goE_val, goE_new, goE_store, goH_true, goH_false, goG_val, lk_cons, lk_nil, lk_func, lk_int, lk_bool, lk_string, lk_slice, lk_agg, look_mk, St.effOf, eff, effCall, effBinC, isConst, effBin, effUn, effConv, effPick, effNil, effFold, fold1, effLoad, effStore, effFieldAddr, effField, fieldOf, sliceOf, effIndexAddr, effIndex, effLen, effExtract, effSlice, dats, bnd, effBuild, placesOf, effBuildSlice, effMakeSlice, effAppend, srcOf, fillA, chunk, seg, toD, toDs, put, eqAV, fieldsEq, leafEq, strip, unw, allB, selP_or, selP_and, tis, TyD.agg, AV.cells, AV.cell, allCell, vInt, vBool, vStr, subL_nil, subL_cons, upIds, AV.ids, AV.ids.idsL, AObj.ids, drops, Hp.get_cons, get_nil, retF, resL, one, fz, fz.fzL, List.map_cons, List.map_nil, List.nil_append, List.append_nil, List.cons_append, List.all_cons, List.all_nil, List.length_cons, List.length_nil, List.getElem?_cons_zero, List.getElem?_cons_succ, List.getD_cons_zero, List.getD_cons_succ, List.take_succ_cons, List.take_zero, List.drop_succ_cons, List.drop_zero, List.take_nil, List.drop_nil, List.contains_cons, List.contains_nil, Option.getD_some, Option.getD_none, Option.map_some, Option.map_none, if_true, if_false, true_and, and_true, and_self, or_self, or_false, false_or, false_and, and_false, reduceCtorEq, sel_and, sel_or, decide_eq_true_eq, Bool.and_eq_true, Bool.or_eq_true, Bool.and_true, Bool.true_and, Bool.or_false, Bool.false_or, Bool.true_or, Bool.or_true, Bool.not_true, Bool.not_false, Bool.false_eq_true, implies_true, not_false_eq_true, Nat.reduceLT, Nat.reduceEqDiff, Nat.reduceAdd, Nat.reduceMul, Nat.reduceMod, Nat.reduceLeDiff, Nat.reduceBEq, Nat.zero_add, Nat.add_zero, reduceIte, ↓reduceIte, List.not_mem_nil]
   have em : bits .and .i64 (x : Int) 31 = ((x % 32 : Nat) : Int) := by rw [and31' (by omega) (by omega)]; omega
   have ed : Int.fdiv (x : Int) (2 ^ min (Int.toNat 5) IntKind.i64.bits) = ((x / 32 : Nat) : Int) := by rw [Int.fdiv_eq_ediv_of_nonneg _ (by decide)]; rfl
   rw [em, ed]
   by_cases h3 : ((x / 32 : Nat) : Int) > 0
   ·rw [if_pos h3]
    rw [w64 (n := ((x % 32 : Nat) : Int) + 32) (by omega) (by omega), show ((x % 32 : Nat) : Int) + 32 = ((x % 32 + 32 : Nat) : Int) by omega, dig_at (by omega), w64 (n := ((x % 32 + 32 : Nat) : Int) + 1) (by omega) (by omega), letB_size, dig_size (by omega)]
    rw [if_neg (by simp; omega)]
    refine ⟨by decide, by omega, by omega, (acc ++ dig (x % 32 + 32), x / 32), by simp only []; omega, ⟨by simp only []; omega, by rw [app_assoc, ← vd_hi (by omega)]; exact h2⟩, Le.of id [] ?_⟩
    simp only [Mt_tup, Mt_agg, Mt_fn, forall_eq, forall_eq_or_imp, ne_eq, List.all_cons, List.all_nil, pr, Nat.reduceLeDiff, slR_nil, slR_cons, hpR_nil, hpR_cells, hpR_row, idsR_nil, idsR_cons, mtE_v, mtE_sl, mtE_nil, mtE_refl, mtE_row, mtE_born, mtE_ptr, mtE_rp, mtE_agg, mtE_tup, mtE_fn, mtE_ep, MtL_nil, MtL_cons, Mt_v, Mt_sl, Mt_nil, Mt_refl, Mt_row, Mt_born, Mt_ptr, MtO_cells, MtO_row, liveIds, distinct, Dat.v.injEq, Dat.sl.injEq, Value.int.injEq, Value.bool.injEq, Value.string.injEq, lk_cons, lk_nil, subL_nil, subL_cons, upIds, AV.ids, AV.ids.idsL, AObj.ids, Hp.get_cons, get_nil, allCell, AV.cell, vInt, vBool, vStr, id, true_and, and_true, and_self, List.append_nil, List.nil_append, List.not_mem_nil, List.mem_cons, or_false, false_or, or_self, not_true_eq_false, not_false_eq_true, false_imp_iff, false_implies, List.map_nil, not_false_eq_true, List.contains_cons, List.contains_nil, Bool.or_false, Bool.false_or, Bool.true_or, Bool.or_true, Bool.and_true, Bool.true_and, implies_true, if_true, if_false, reduceCtorEq, Nat.reduceEqDiff, Nat.reduceBEq, Nat.reduceAdd, reduceIte, ↓reduceIte]
   ·rw [if_neg h3, dig_at (by omega), w64 (n := ((x % 32 : Nat) : Int) + 1) (by omega) (by omega), letB_size, dig_size (by omega)]
    have hxx : x % 32 = x := by omega
    rw [if_pos (by simp; omega), hxx, ← vd_lo (by omega), h2]
    exact ⟨by decide, by omega, by omega, Sub.refl _⟩
def F_vput : List AV → Option (Prop × AV)
 | [.d (.v (.string s)), .d (.v (.int .i64 n))] => some (s.size ≤ 9000000000000000000, vStr (s ++ vq n))
 | _ => none
theorem vput_calm : ∀ args sc res, F_vput args = some (sc, res) → sc → Calm Try.prog 21 args res := by
 intro args sc res h hs
 unfold F_vput at h
 split at h <;> cases h
 exact (Known.none _).calm mixed rfl rfl (Put_body2 _ _ hs)
theorem rvput_calm : ∀ args sc res, F_vput args = some (sc, res) → sc → Calm Try.prog 24 args res := by
 intro args sc res h hs
 unfold F_vput at h
 split at h <;> cases h
 exact known_let.calm mixed rfl rfl (RPut_body2 _ _ hs)
end Go.Proofs.Ytgbialeahdoelaa.Eng

end

section
namespace Go.Proofs
open Go Go.Shelf Go.RowKit
set_option maxRecDepth 100000
def Try.lays105_ren : Go.Shelf.Ren := ⟨fun | 99 => 38 | 105 => 20 | 165 => 39 | 166 => 19 | 169 => 22 | 170 => 40 | 206 => 63 | 212 => 37 | 240 => 36 | 241 => 64 | 263 => 61 | 264 => 62 | 276 => 60 | 277 => 75 | n => n, fun | 0 => 0 | 3 => 3 | 4 => 4 | 5 => 5 | 9 => 9 | 20 => 20 | 37 => 31 | 46 => 76 | 51 => 100 | 53 => 103 | 70 => 53 | 72 => 55 | 75 => 57 | 76 => 58 | 80 => 61 | 109 => 77 | 127 => 81 | 146 => 101 | 148 => 104 | 164 => 98 | n => n, fun | n => n⟩
theorem Try.lays105 : Go.Proofs.Lays.n105 Try.prog Try.lays105_ren := {
 mixed := by kernel_rfl
 f99 := Try.func38.trans (congrArg some (by kernel_rfl))
 f105 := Try.func20.trans (congrArg some (by kernel_rfl))
 f165 := Try.func39.trans (congrArg some (by kernel_rfl))
 f166 := Try.func19.trans (congrArg some (by kernel_rfl))
 f169 := Try.func22.trans (congrArg some (by kernel_rfl))
 f170 := Try.func40.trans (congrArg some (by kernel_rfl))
 f206 := Try.func63.trans (congrArg some (by kernel_rfl))
 f212 := Try.func37.trans (congrArg some (by kernel_rfl))
 f240 := Try.func36.trans (congrArg some (by kernel_rfl))
 f241 := Try.func64.trans (congrArg some (by kernel_rfl))
 f263 := Try.func61.trans (congrArg some (by kernel_rfl))
 f264 := Try.func62.trans (congrArg some (by kernel_rfl))
 f276 := Try.func60.trans (congrArg some (by kernel_rfl))
 f277 := Try.func75.trans (congrArg some (by kernel_rfl))
 t0 := Try.underlying0
 a0 := Try.isAgg0
 z0 := Try.sizeOf0
 v0 := Try.zeroValue0
 t3 := Try.underlying3
 a3 := Try.isAgg3
 z3 := Try.sizeOf3
 v3 := Try.zeroValue3
 t4 := Try.underlying4
 a4 := Try.isAgg4
 z4 := Try.sizeOf4
 v4 := Try.zeroValue4
 t5 := Try.underlying5
 a5 := Try.isAgg5
 z5 := Try.sizeOf5
 v5 := Try.zeroValue5
 t9 := Try.underlying9
 a9 := Try.isAgg9
 z9 := Try.sizeOf9
 v9 := Try.zeroValue9
 t20 := Try.underlying20
 a20 := Try.isAgg20
 z20 := Try.sizeOf20
 v20 := Try.zeroValue20
 t37 := Try.underlying31
 a37 := Try.isAgg31
 z37 := Try.sizeOf31
 v37 := Try.zeroValue31
 t46 := Try.underlying76
 a46 := Try.isAgg76
 z46 := Try.sizeOf76
 v46 := Try.zeroValue76
 t51 := Try.underlying100
 a51 := Try.isAgg100
 z51 := Try.sizeOf100
 v51 := Try.zeroValue100
 t53 := Try.underlying103
 a53 := Try.isAgg103
 z53 := Try.sizeOf103
 v53 := Try.zeroValue103
 t70 := Try.underlying53
 a70 := Try.isAgg53
 z70 := Try.sizeOf53
 v70 := Try.zeroValue53
 t72 := Try.underlying55
 a72 := Try.isAgg55
 z72 := Try.sizeOf55
 v72 := Try.zeroValue55
 t75 := Try.underlying57
 a75 := Try.isAgg57
 z75 := Try.sizeOf57
 v75 := Try.zeroValue57
 t76 := Try.underlying58
 a76 := Try.isAgg58
 z76 := Try.sizeOf58
 v76 := Try.zeroValue58
 t109 := Try.underlying77
 a109 := Try.isAgg77
 z109 := Try.sizeOf77
 v109 := Try.zeroValue77
 t127 := Try.underlying81
 a127 := Try.isAgg81
 z127 := Try.sizeOf81
 v127 := Try.zeroValue81
 t146 := Try.underlying101
 a146 := Try.isAgg101
 z146 := Try.sizeOf101
 v146 := Try.zeroValue101
 t148 := Try.underlying104
 a148 := Try.isAgg104
 z148 := Try.sizeOf104
 v148 := Try.zeroValue104
 t164 := Try.underlying98
 a164 := Try.isAgg98
 z164 := Try.sizeOf98
 v164 := Try.zeroValue98 }
theorem Try.Builder_Extra_105 : Builder.Extra Try.prog Try.lays105_ren := {
 sizeBuilder := by kernel_rfl
 liesBuilder := by kernel_rfl
 t5 := Try.underlying5
 a5 := Try.isAgg5
 z5 := Try.sizeOf5
 v5 := Try.zeroValue5
 infoByte := by kernel_rfl
 cellsByte := by kernel_rfl
 sizeByte := by kernel_rfl
 neB5 := by decide }
theorem Try.rep (s : ByteArray) (c : Nat) (w : World) (hc : c ≤ 140737488355328) (hlen : s.size * c ≤ 140737488355328) : Calls Try.prog 20 #[.string s, .int .i64 c] w fun e w' => e = .returned (.string ⟨(Lib.repeatL s.data.toList c).toArray⟩) ∧ Below w.heap.size w w' := by
 by_cases h0 : c = 0
 ·subst h0
  exact (Any.strings_Repeat_zero Try.lays105 s w).mono fun e w' ⟨h1, h2⟩ => by subst h2; exact ⟨h1, Below.refl _ _⟩
 by_cases h1 : c = 1
 ·subst h1
  refine (Any.strings_Repeat_one Try.lays105 s w).mono fun e w' ⟨h1, h2⟩ => ?_
  subst h2
  refine ⟨?_, Below.refl _ _⟩
  rw [h1]
  congr 2
  simp [Lib.repeatL]
 by_cases h2 : s.size = 0
 ·refine (Any.strings_Repeat_empty Try.lays105 s c w (by omega) (by omega) h2).mono fun e w' ⟨h1, h3⟩ => ?_
  subst h3
  refine ⟨?_, Below.refl _ _⟩
  have : s.data.toList = [] := List.eq_nil_of_length_eq_zero (by rw [Array.length_toList]; exact h2)
  have nil : ∀ c, Lib.repeatL [] c = [] := fun c => by
   induction c with
   | zero => rfl
   | succ c ih => rw [Lib.repeatL, ih]; rfl
  rw [h1, this, nil]
 exact Any.strings_Repeat_main Try.lays105 Try.Builder_Extra_105 s c w (by omega) (by omega) hlen (by omega)
end Go.Proofs

end

section
namespace Go.Proofs.Ytgbialeahdoelaa.Eng
open Go Go.Proofs.Ytgbialeahdoelaa.Base
set_option linter.unusedVariables false
def F_rep : List AV → Option (Prop × AV)
 | [.d (.v (.string s)), .d (.v (.int .i64 c))] => some (0 ≤ c ∧ c ≤ 140737488355328 ∧ s.size * c.toNat ≤ 140737488355328, vStr ⟨(Lib.repeatL s.data.toList c.toNat).toArray⟩)
 | _ => none
theorem rep_calm : ∀ args sc res, F_rep args = some (sc, res) → sc → Calm Try.prog 20 args res := by
 intro args sc res h hs
 unfold F_rep at h
 split at h <;> cases h
 rename_i s c
 obtain ⟨h1, h2, h3⟩ := hs
 refine ⟨⟨_, Try.func20, by kernel_rfl, by kernel_rfl⟩, rfl, fun C m w hp vals I hsz hv => ?_⟩
 obtain ⟨u, v, rfl⟩ : ∃ u v, vals = #[u, v] := by
  have h1 : vals.size = 2 := hsz
  obtain ⟨l⟩ := vals
  match l, h1 with
  | [u, v], _ => exact ⟨u, v, rfl⟩
 have hu := hv 0 u _ rfl rfl
 have hw := hv 1 v _ rfl rfl
 cases hu with
 | d hu =>
 cases hu
 cases hw with
 | d hw =>
 cases hw
 obtain ⟨c, rfl⟩ := Int.eq_ofNat_of_zero_le h1
 refine (Try.rep s c w (by omega) (by simpa using h3)).mono fun e w' ⟨e1, b⟩ => ?_
 exact ⟨_, e1, b.os, b.tape, b.output, b.size, b.block, .d (.v rfl)⟩
end Go.Proofs.Ytgbialeahdoelaa.Eng

end

section
namespace Go.Proofs.Ytgbialeahdoelaa.Eng
open Go Go.RowKit
set_option maxHeartbeats 2000000 in
set_option maxRecDepth 100000 in
theorem bstr_row (b g : Nat) (p : Value) (cap : Nat) (cur : Array Value) (l : List UInt8) (w : World) (h0 : l ≠ []) (hbk : w.heap[b]? = some (.cells #[p, .slice (some ⟨g, 0, none⟩) l.length cap] 55 (0, 0))) (hg : w.heap[g]? = some (.cells cur 5 (0, 0)))
  (hc : l.length ≤ cap) (hcm : cap ≤ maxLen) (hcs : cur.size = cap) (hcell : ∀ j x, l[j]? = some x → w.cell? ⟨g, j, none⟩ = some (.int .u8 x.toNat)) :
  Calls Try.prog 22 #[.pointer (some ⟨b, 0, none⟩)] w fun e w' => e = .returned (.string ⟨l.toArray⟩) ∧ w' = w.drew.freeze ⟨g, 0, none⟩ l.length := by
 have hl0 : l.length ≠ 0 := by simpa using h0
 have c1 : w.drew.cell? ⟨b, 1, none⟩ = some (.slice (some ⟨g, 0, none⟩) l.length cap) := by
  have : w.drew.heap[b]? = some (.cells #[p, .slice (some ⟨g, 0, none⟩) l.length cap] 55 (0, 0)) := hbk
  rw [Lib.cell_of_heap this]; rfl
 have hSD : (Builtin.unsafeSliceData_ #[31] 81 #[.slice (some ⟨g, 0, none⟩) l.length cap]).run Try.prog w.drew = .ok (.pointer (some ⟨g, 0, none⟩)) w.drew :=
  Lib.run_unsafeSliceData_row _ _ _ _ _ _ (by omega)
 have hUS : (Builtin.unsafeString_ #[81, 3] 9 #[.pointer (some ⟨g, 0, none⟩), .int .i64 l.length]).run Try.prog w.drew = .ok (.string ⟨l.toArray⟩) (w.drew.freeze ⟨g, 0, none⟩ l.length) := by
  refine Lib.run_unsafeString_row w.drew 81 3 9 5 Try.underlying81 (by kernel_rfl) g cur.size (by have hg' : w.drew.heap[g]? = some (.cells cur 5 (0, 0)) := hg; simp [World.shape?, hg']) l h0 (by omega) (by unfold maxLen at hcm; omega) ?_
  intro j x hx
  have := hcell j x hx
  rw [addr_eta _ rfl, Nat.zero_add]; exact this
 have hmixed := mixed
 go_enter Try.func22, Try.ntmps22
 go_wp2
 go_region_o
 all_goals (go_wp2; go_ret; exact ⟨rfl, rfl⟩)
set_option maxHeartbeats 2000000 in
set_option maxRecDepth 100000 in
theorem bstr_nil (b : Nat) (p : Value) (w : World) (hbk : w.heap[b]? = some (.cells #[p, .slice none 0 0] 55 (0, 0))) :
  Calls Try.prog 22 #[.pointer (some ⟨b, 0, none⟩)] w fun e w' => e = .returned (.string ⟨#[]⟩) ∧ w' = w.drew := by
 have hUS := fun W q => Lib.run_unsafeString_none (P := Try.prog) W 81 3 9 q
 have c1 : w.drew.cell? ⟨b, 1, none⟩ = some (.slice none 0 0) := by
  have : w.drew.heap[b]? = some (.cells #[p, .slice none 0 0] 55 (0, 0)) := hbk
  rw [Lib.cell_of_heap this]; rfl
 have hSD : (Builtin.unsafeSliceData_ #[31] 81 #[.slice none 0 0]).run Try.prog w.drew = .ok (.pointer none) w.drew := rfl
 have hmixed := mixed
 go_enter Try.func22, Try.ntmps22
 go_wp2
 go_region_o
 all_goals (go_wp2; go_ret; exact ⟨rfl, rfl⟩)
set_option maxHeartbeats 2000000 in
set_option maxRecDepth 100000 in
theorem bstr_zero (b g : Nat) (p : Value) (cur : Array Value) (w : World) (hbk : w.heap[b]? = some (.cells #[p, .slice (some ⟨g, 0, none⟩) 0 0] 55 (0, 0))) (hg : w.heap[g]? = some (.cells cur 5 (0, 0))) :
  Calls Try.prog 22 #[.pointer (some ⟨b, 0, none⟩)] w fun e w' => e = .returned (.string ⟨#[]⟩) ∧ (w' = w.drew.alloc (.view ⟨g, 0, none⟩ 5) ∨ w' = (w.alloc (.view ⟨g, 0, none⟩ 5)).drew) := by
 have hUS := fun W q => Lib.run_unsafeString_none (P := Try.prog) W 81 3 9 q
 have hlt : b < w.heap.size := by
  rcases Nat.lt_or_ge b w.heap.size with h' | h'
  ·exact h'
  ·simp [Array.getElem?_eq_none h'] at hbk
 have c1 : w.drew.cell? ⟨b, 1, none⟩ = some (.slice (some ⟨g, 0, none⟩) 0 0) := by
  have : w.drew.heap[b]? = some (.cells #[p, .slice (some ⟨g, 0, none⟩) 0 0] 55 (0, 0)) := hbk
  rw [Lib.cell_of_heap this]; rfl
 have hSD : (Builtin.unsafeSliceData_ #[31] 81 #[.slice (some ⟨g, 0, none⟩) 0 0]).run Try.prog w.drew = .ok (.pointer (some ⟨w.drew.heap.size, 0, none⟩)) (w.drew.alloc (.view ⟨g, 0, none⟩ 5)) :=
  Lib.run_unsafeSliceData_zero w.drew _ _ 5 Try.underlying81 ⟨g, 0, none⟩ 0 (5, cur.size) (by have hg' : w.drew.heap[g]? = some (.cells cur 5 (0, 0)) := hg; simp [World.shape?, hg'])
 have c2 : (w.drew.alloc (.view ⟨g, 0, none⟩ 5)).cell? ⟨b, 1, none⟩ = some (.slice (some ⟨g, 0, none⟩) 0 0) := by
  have : (w.drew.alloc (.view ⟨g, 0, none⟩ 5)).heap[b]? = _ := (Lib.alloc_old w.drew _ b hlt).trans hbk
  rw [Lib.cell_of_heap this]; rfl
 have c3 : (w.alloc (.view ⟨g, 0, none⟩ 5)).drew.cell? ⟨b, 1, none⟩ = some (.slice (some ⟨g, 0, none⟩) 0 0) := c2
 have c0 : w.cell? ⟨b, 1, none⟩ = some (.slice (some ⟨g, 0, none⟩) 0 0) := c1
 have hmixed := mixed
 go_enter Try.func22, Try.ntmps22
 go_wp2
 go_region_o
 all_goals (go_wp2; go_ret; first | exact ⟨rfl, .inl rfl⟩ | exact ⟨rfl, .inr rfl⟩)
set_option maxHeartbeats 2000000 in
set_option maxRecDepth 100000 in
theorem bstr_room (b g cap : Nat) (p : Value) (w : World) (hc0 : cap ≠ 0) (hbk : w.heap[b]? = some (.cells #[p, .slice (some ⟨g, 0, none⟩) 0 cap] 55 (0, 0))) :
  Calls Try.prog 22 #[.pointer (some ⟨b, 0, none⟩)] w fun e w' => e = .returned (.string ⟨#[]⟩) ∧ w' = w.drew := by
 have hUS := fun W q => Lib.run_unsafeString_none (P := Try.prog) W 81 3 9 q
 have c1 : w.drew.cell? ⟨b, 1, none⟩ = some (.slice (some ⟨g, 0, none⟩) 0 cap) := by
  have : w.drew.heap[b]? = some (.cells #[p, .slice (some ⟨g, 0, none⟩) 0 cap] 55 (0, 0)) := hbk
  rw [Lib.cell_of_heap this]; rfl
 have hSD : (Builtin.unsafeSliceData_ #[31] 81 #[.slice (some ⟨g, 0, none⟩) 0 cap]).run Try.prog w.drew = .ok (.pointer (some ⟨g, 0, none⟩)) w.drew :=
  Lib.run_unsafeSliceData_row _ _ _ _ _ _ hc0
 clear hc0
 have hmixed := mixed
 go_enter Try.func22, Try.ntmps22
 go_wp2
 go_region_o
 all_goals (go_wp2; go_ret; exact ⟨rfl, rfl⟩)
set_option maxHeartbeats 2000000 in
set_option maxRecDepth 100000 in
theorem bcheck_used (b : Nat) (w : World) (h0 : w.cell? ⟨b, 0, none⟩ = some (.pointer (some ⟨b, 0, none⟩))) :
  Calls Try.prog 36 #[.pointer (some ⟨b, 0, none⟩)] w fun e w' => e = .returned (.tuple #[]) ∧ w' = w := by
 have hj : (Try.prog.info? 55).map (·.size) = some 2 := by kernel_rfl
 obtain ⟨j, hj, _⟩ := Option.map_eq_some_iff.1 hj
 have hmixed := mixed
 go_enter Try.func36, Try.ntmps36
 go_wp2
 rw [Lib.run_neq_ptr_same w _ Try.underlying53 hj]
 go_wp2
 go_end0
 exact ⟨rfl, rfl⟩
set_option maxHeartbeats 2000000 in
set_option maxRecDepth 100000 in
theorem bcheck_fresh (b : Nat) (w : World) (h0 : w.cell? ⟨b, 0, none⟩ = some (.pointer none)) (hsh : w.shape? b = some (55, 2)) (hfz : w.frozen? ⟨b, 0, none⟩ = false) :
  Calls Try.prog 36 #[.pointer (some ⟨b, 0, none⟩)] w fun e w' => e = .returned (.tuple #[]) ∧ w' = w.setCell ⟨b, 0, none⟩ (.pointer (some ⟨b, 0, none⟩)) := by
 have hj : (Try.prog.info? 55).map (·.size) = some 2 := by kernel_rfl
 obtain ⟨j, hj, hjs⟩ := Option.map_eq_some_iff.1 hj
 have hmixed := mixed
 go_enter Try.func36, Try.ntmps36
 go_wp2
 rw [Lib.run_to_unsafe w ⟨b, 0, none⟩ Try.underlying53 Try.underlying98 hj (by rw [hjs]; decide) hsh (Nat.zero_lt_succ 1)]
 simp only [Result.andThen]
 rw [Oper.upon_value]
 go_wp2
 rw [run_callFunc_extern Try.func60 (by kernel_rfl) (by kernel_rfl) (by kernel_rfl) (e := Extern.AbiNoEscape.same) (by kernel_rfl)]
 rw [Lib.run_noEscape]
 simp only [Result.andThen]
 rw [Oper.upon_value]
 go_wp2
 rw [Lib.run_from_unsafe w ⟨b, 0, none⟩ Try.underlying98 Try.underlying53 hj hsh (by kernel_rfl)]
 simp only [Result.andThen]
 rw [Oper.upon_value]
 go_wp2
 go_end0
 exact ⟨rfl, rfl⟩
def F_cc (h : Nat → Option AObj) (_ : Nat) : List AV → Option Eff
 | [.ptr o 0] => match h o with
  | some (.cells t [.d (.v (.pointer none)), c]) => if t = 55 then some { sc := True, val := .tup [], up := [(o, some (.cells t [.ptr o 0, c]))] } else none
  | some (.cells _ [.ptr o' 0, _]) => if o' = o then some { sc := True, val := .tup [] } else none
  | _ => none
 | _ => none
theorem setCell_same (w : World) (a : Addr) (v : Value) : (w.setCell a v).os = w.os ∧ (w.setCell a v).tape = w.tape ∧ (w.setCell a v).output = w.output ∧ (w.setCell a v).heap.size = w.heap.size ∧ ∀ k, k ≠ a.block → (w.setCell a v).heap[k]? = w.heap[k]? := by
 unfold World.setCell
 refine ⟨rfl, rfl, rfl, by simp, fun k hk => ?_⟩
 simp only [Array.getElem?_modify]
 rw [if_neg (fun e => hk e.symm)]
theorem setCell_at {w : World} {b : Nat} {us : Array Value} {t : Nat} (h : w.heap[b]? = some (.cells us t (0, 0))) (v : Value) : (w.setCell ⟨b, 0, none⟩ v).heap[b]? = some (.cells (us.setIfInBounds 0 v) t (0, 0)) := by
 unfold World.setCell
 simp only [Array.getElem?_modify, h]
 simp
theorem cc_ok {Γ : Gam} (hG : Gok Try.prog Γ) : Gok Try.prog (Γ.addH 36 F_cc) := by
 intro g h d args e he hsc C m w hp vals hh I hsz hv hf
 unfold Gam.addH at he
 split at he
 case isFalse => exact hG g h d args e he hsc C m w hp vals hh I hsz hv hf
 rename_i hg
 subst hg hh
 refine ⟨⟨_, Try.func36, by kernel_rfl, by kernel_rfl⟩, ?_⟩
 unfold F_cc at he
 split at he
 case h_2 => cases he
 rename_i o
 obtain ⟨u, rfl⟩ : ∃ u, vals = #[u] := by
  have h1 : vals.size = 1 := hsz
  obtain ⟨l⟩ := vals
  match l, h1 with
  | [u], _ => exact ⟨u, rfl⟩
 have hu := hv 0 u _ rfl rfl
 cases hu with
 | @ptr _ _ b hm =>
 split at he
 ·rename_i t c ho
  split at he
  case isFalse => cases he
  rename_i ht
  subst ht
  cases he
  obtain ⟨b', us, h1, h2, h3, h4, h5⟩ := I.live o _ ho
  rw [hm] at h1
  cases h1
  obtain ⟨us⟩ := us
  match us, h3 with
  | [u0, u1], _ =>
  have q0 := h4 0 u0 _ rfl rfl
  cases q0 with
  | d q0 =>
  cases q0
  refine (bcheck_fresh b w (by simp [World.cell?, h2]) (by simp [World.shape?, h2]) (by simp [World.frozen?, h2])).mono ?_
  rintro en w' ⟨rfl, rfl⟩
  refine ⟨_, rfl, m, fun _ _ => rfl, ?_⟩
  obtain ⟨f1, f2, f3, f4, f5⟩ := setCell_same w ⟨b, 0, none⟩ (.pointer (some ⟨b, 0, none⟩))
  have hbm : blk (m o) = some b := by rw [hm]; rfl
  obtain ⟨I', k⟩ := I.put (m' := m) (w' := w.setCell ⟨b, 0, none⟩ (.pointer (some ⟨b, 0, none⟩))) (hp1 := hp) (fun _ _ h => h) o (.cells 55 [.ptr o 0, c]) (fun _ _ => rfl) (.inl rfl) f1 f2 f3 (Nat.le_of_eq f4.symm)
   (fun k _ hk => f5 k fun e => hk (by rw [hbm, show k = b from e]))
   (fun b' hb' => by
    rw [hbm] at hb'
    cases hb'
    exact ⟨I.own o _ b ho hbm, I.not_im ho hbm, fun o' x' ho' hne e => I.sep o o' _ x' b ho ho' (fun q => hne q.symm) hbm e⟩)
   (fun im' hk => ⟨b, (⟨[.pointer none, u1]⟩ : Array Value).setIfInBounds 0 (.pointer (some ⟨b, 0, none⟩)), hm, setCell_at h2 _, by simp, fun i u' c' q1 q2 => by
    match i, q1, q2 with
    | 0, q1, q2 => cases q1; cases q2; exact .ptr hm
    | 1, q1, q2 => cases q1; cases q2; exact (h4 1 _ _ rfl rfl).mono hk (fun _ _ => rfl)
    | i + 2, q1, q2 => simp at q2, fun c' hc' => by
     rcases List.mem_cons.1 hc' with rfl | hc'
     ·rfl
     ·exact h5 c' (List.mem_cons_of_mem _ hc')⟩)
  exact ⟨I', .tup rfl (fun i u c h1 h2 => by simp at h2), k⟩
 ·rename_i t o' c ho
  split at he
  case isFalse => cases he
  rename_i ht
  subst ht
  cases he
  obtain ⟨b', us, h1, h2, h3, h4, h5⟩ := I.live o' _ ho
  rw [hm] at h1
  cases h1
  obtain ⟨us⟩ := us
  match us, h3 with
  | [u0, u1], _ =>
  have q0 := h4 0 u0 _ rfl rfl
  cases q0 with
  | ptr q0 =>
  rw [hm] at q0
  cases q0
  refine (bcheck_used b w (by simp [World.cell?, h2])).mono ?_
  rintro en w' ⟨rfl, rfl⟩
  exact ⟨_, rfl, m, fun _ _ => rfl, I, .tup rfl (fun i u c h1 h2 => by simp at h2), fun b h => ⟨h, rfl⟩⟩
 ·cases he
set_option maxRecDepth 100000
set_option linter.unusedSimpArgs false
noncomputable def G_cc : Gam := Gam.none.addH 36 F_cc
theorem G_cc_at (h : Nat → Option AObj) (d : Nat) (a : List AV) : G_cc 36 h d a = F_cc h d a := rfl
theorem known_cc : Known Try.prog G_cc := ⟨cc_ok (Known.none _).ok, (Known.none Try.prog).loc.addH _ fun d args h h' ha => by
 unfold F_cc
 split
 ·rw [ha _ (by simp [AV.ids.idsL, AV.ids])]
 ·rfl⟩
def bldH (a : AV) (xs : List (List Dat)) : Hp := [(10000, some (.cells 55 [a, .row 10001 xs.length])), (10001, some (.row 5 1 xs))]
def bldO (xs : List (List Dat)) : List (Nat × AObj) := [(10000, .cells 55 [.ptr 10000 0, .row 9000 xs.length]), (9000, .row 5 1 xs)]
theorem ws_body (a : AV) (ha : a = .d (.v (.pointer none)) ∨ a = .ptr 10000 0) (xs : List (List Dat)) (s : ByteArray) (hl : xs.length + s.size ≤ 140737488355328) :
  HBody Try.prog G_cc (DRun Try.prog G_cc) 19 [.ptr 10000 0, .d (.v (.string s))] (bldH a xs) (.tup [vInt .i64 s.size, .d (.v .nilIface)]) ((bldO (xs ++ s.data.toList.map byteRow)).map fun p => (p.1, some p.2)) := by
 rcases ha with rfl | rfl
 all_goals
  refine HBody.of Try.func19 Try.ntmps19 (by kernel_rfl) rfl rfl rfl rfl ?_
  simp only [bldH, bldO, G_cc_at, F_cc, goTG_val, goTG_new, goTG_up, goTG_none, goG_none, goG_new, goG_up, ne_eq, evK, evH, retHF, DRun_mk, runT_nil, runT_none, runT_guard, goT_val, goT_new, goT_store, goTH_true, goTH_false, evO, keys, Option.toList_some, Option.toList_none, nzL_nil, nzL_cons, nz_k, nz_sl, nz_nil, nz_agg, startL, evC, evV, goE_val, goE_new, goE_store, goH_true, goH_false, goG_val, lk_cons, lk_nil, lk_func, lk_int, lk_bool, lk_string, lk_slice, lk_agg, look_mk, St.effOf, eff, effCall, effBinC, isConst, effBin, effUn, effConv, effPick, effNil, effFold, fold1, effLoad, effStore, effFieldAddr, effField, fieldOf, sliceOf, effIndexAddr, effIndex, effLen, effExtract, effSlice, dats, bnd, effBuild, placesOf, effBuildSlice, effMakeSlice, effAppend, srcOf, fillA, chunk, seg, toD, toDs, put, eqAV, fieldsEq, leafEq, strip, unw, allB, selP_or, selP_and, tis, TyD.agg, AV.cells, AV.cell, allCell, vInt, vBool, vStr, subL_nil, subL_cons, upIds, AV.ids, AV.ids.idsL, AObj.ids, drops, Hp.get_cons, get_nil, retF, resL, one, fz, fz.fzL, List.map_cons, List.map_nil, List.nil_append, List.append_nil, List.cons_append, List.all_cons, List.all_nil, List.length_cons, List.length_nil, List.getElem?_cons_zero, List.getElem?_cons_succ, List.getD_cons_zero, List.getD_cons_succ, List.take_succ_cons, List.take_zero, List.drop_succ_cons, List.drop_zero, List.take_nil, List.drop_nil, List.contains_cons, List.contains_nil, Option.getD_some, Option.getD_none, Option.map_some, Option.map_none, if_true, if_false, true_and, and_true, and_self, or_self, or_false, false_or, false_and, and_false, reduceCtorEq, sel_and, sel_or, decide_eq_true_eq, Bool.and_eq_true, Bool.or_eq_true, Bool.and_true, Bool.true_and, Bool.or_false, Bool.false_or, Bool.true_or, Bool.or_true, Bool.not_true, Bool.not_false, Bool.false_eq_true, implies_true, not_false_eq_true, Nat.reduceLT, Nat.reduceEqDiff, Nat.reduceAdd, Nat.reduceMul, Nat.reduceMod, Nat.reduceLeDiff, Nat.reduceBEq, Nat.zero_add, Nat.add_zero, reduceIte, ↓reduceIte, List.not_mem_nil]
  refine ⟨by rw [List.length_map, Array.length_toList]; show (xs.length + s.size) * 1 ≤ _; omega, fun o => if o = 9000 then 14 else o, ?_⟩
  simp only [Mt_tup, Mt_agg, Mt_fn, forall_eq, forall_eq_or_imp, ne_eq, List.all_cons, List.all_nil, pr, Nat.reduceLeDiff, slR_nil, slR_cons, hpR_nil, hpR_cells, hpR_row, idsR_nil, idsR_cons, mtE_v, mtE_sl, mtE_nil, mtE_refl, mtE_row, mtE_born, mtE_ptr, mtE_rp, mtE_agg, mtE_tup, mtE_fn, mtE_ep, MtL_nil, MtL_cons, Mt_v, Mt_sl, Mt_nil, Mt_refl, Mt_row, Mt_born, Mt_ptr, MtO_cells, MtO_row, liveIds, distinct, Dat.v.injEq, Dat.sl.injEq, Value.int.injEq, Value.bool.injEq, Value.string.injEq, lk_cons, lk_nil, subL_nil, subL_cons, upIds, AV.ids, AV.ids.idsL, AObj.ids, Hp.get_cons, get_nil, allCell, AV.cell, vInt, vBool, vStr, id, true_and, and_true, and_self, List.append_nil, List.nil_append, List.not_mem_nil, List.mem_cons, or_false, false_or, or_self, not_true_eq_false, not_false_eq_true, false_imp_iff, false_implies, List.map_nil, not_false_eq_true, List.contains_cons, List.contains_nil, Bool.or_false, Bool.false_or, Bool.true_or, Bool.or_true, Bool.and_true, Bool.true_and, implies_true, if_true, if_false, reduceCtorEq, Nat.reduceEqDiff, Nat.reduceBEq, Nat.reduceAdd, reduceIte, ↓reduceIte]
def F_ws (h : Nat → Option AObj) (d : Nat) : List AV → Option Eff
 | [.ptr o 0, .d (.v (.string s))] => match h o with
  | some (.cells t [.d (.v (.pointer none)), .d (.v (.slice none 0 0))]) => if t = 55 then some { sc := s.size ≤ 140737488355328, val := .tup [vInt .i64 s.size, .d (.v .nilIface)], up := [(o, some (.cells t [.ptr o 0, .row d (s.data.toList.map byteRow).length])), (d, some (.row 5 1 (s.data.toList.map byteRow)))], new := true } else none
  | some (.cells t [.d (.v (.pointer none)), .row b n]) => match h b with
   | some (.row e sz xs) => if t = 55 ∧ e = 5 ∧ sz = 1 ∧ n = xs.length ∧ b ≠ o then some { sc := xs.length + s.size ≤ 140737488355328, val := .tup [vInt .i64 s.size, .d (.v .nilIface)], up := [(o, some (.cells t [.ptr o 0, .row d (xs ++ s.data.toList.map byteRow).length])), (d, some (.row 5 1 (xs ++ s.data.toList.map byteRow))), (b, none)], new := true } else none
   | _ => none
  | some (.cells t [.ptr o' 0, .row b n]) => match h b with
   | some (.row e sz xs) => if o' = o ∧ t = 55 ∧ e = 5 ∧ sz = 1 ∧ n = xs.length ∧ b ≠ o then some { sc := xs.length + s.size ≤ 140737488355328, val := .tup [vInt .i64 s.size, .d (.v .nilIface)], up := [(o, some (.cells t [.ptr o 0, .row d (xs ++ s.data.toList.map byteRow).length])), (d, some (.row 5 1 (xs ++ s.data.toList.map byteRow))), (b, none)], new := true } else none
   | _ => none
  | _ => none
 | _ => none
theorem ws_calm (a : AV) (ha : a = .d (.v (.pointer none)) ∨ a = .ptr 10000 0) (xs : List (List Dat)) (s : ByteArray) (hl : xs.length + s.size ≤ 140737488355328) :
  HCalm Try.prog 19 [.ptr 10000 0, .d (.v (.string s))] (bldH a xs) (.tup [vInt .i64 s.size, .d (.v .nilIface)]) ((bldO (xs ++ s.data.toList.map byteRow)).map fun p => (p.1, some p.2)) := by
 refine known_cc.hcalm mixed ?_ (ws_body a ha xs s hl)
 rcases ha with rfl | rfl <;> rfl
theorem ws_ok {Γ : Gam} (hG : Gok Try.prog Γ) : Gok Try.prog (Γ.addH 19 F_ws) := by
 refine hG.addH fun hp d args e he hsc => ?_
 unfold F_ws at he
 split at he
 case h_2 => cases he
 rename_i o s
 split at he
 ·rename_i t ho
  split at he
  case isFalse => cases he
  rename_i ht
  subst ht
  cases he
  refine ⟨⟨fun _ => o, [10001], [.ptr 10000 0, .d (.v (.string s))], bldH (.d (.v (.pointer none))) [], .tup [vInt .i64 s.size, .d (.v .nilIface)], bldO (s.data.toList.map byteRow), true⟩, rfl, ⟨⟨⟨by simp, rfl, rfl⟩, .inl rfl, trivial⟩, ?_, ?_⟩, ?_, rfl, fun _ => rfl, rfl⟩
  ·refine ⟨?_, ?_, trivial⟩
   ·rw [if_neg (by simp)]
    simp only [ho]
    exact ⟨rfl, ⟨.inl rfl, ⟨rfl, by simp, rfl⟩, trivial⟩, rfl⟩
   ·rw [if_pos (by simp)]
  ·exact ⟨fun _ b hb hb2 => by
    rcases List.mem_singleton.mp (show b ∈ [10001] from hb) with rfl
    exact absurd (List.mem_singleton.mpr rfl) hb2, fun h => absurd (List.mem_singleton.mpr rfl) h, trivial⟩
  ·have := ws_calm (.d (.v (.pointer none))) (.inl rfl) [] s (by simpa using hsc)
   rw [List.nil_append] at this
   exact this
 ·rename_i t b n ho
  split at he
  case h_2 => cases he
  rename_i e0 sz xs hb
  split at he
  case isFalse => cases he
  rename_i hc
  obtain ⟨rfl, rfl, rfl, rfl, hne⟩ := hc
  cases he
  refine ⟨⟨fun i => if i = 10001 then b else o, [], [.ptr 10000 0, .d (.v (.string s))], bldH (.d (.v (.pointer none))) xs, .tup [vInt .i64 s.size, .d (.v .nilIface)], bldO (xs ++ s.data.toList.map byteRow), true⟩, rfl, ⟨⟨⟨by simp, rfl, rfl⟩, .inl rfl, trivial⟩, ?_, ?_⟩, ws_calm (.d (.v (.pointer none))) (.inl rfl) xs s hsc, rfl, fun _ => rfl, rfl⟩
  ·refine ⟨?_, ?_, trivial⟩
   ·rw [if_neg (by simp)]
    simp only [show ((10000 : Nat) = 10001) = False by simp, if_false, ho]
    exact ⟨rfl, ⟨.inl rfl, ⟨by simp, rfl, rfl⟩, trivial⟩, rfl⟩
   ·rw [if_neg (by simp)]
    simp only [if_true, hb]
    exact ⟨rfl, rfl, rfl⟩
  ·exact ⟨fun _ b' hb' _ _ => by
    rcases List.mem_singleton.mp (show b' ∈ [10001] from hb') with rfl
    exact hne, (fun _ b' hb' => nomatch (show b' ∈ ([] : List Nat) from hb')), trivial⟩
 ·rename_i t o' b n ho
  split at he
  case h_2 => cases he
  rename_i e0 sz xs hb
  split at he
  case isFalse => cases he
  rename_i hc
  obtain ⟨rfl, rfl, rfl, rfl, rfl, hne⟩ := hc
  cases he
  refine ⟨⟨fun i => if i = 10001 then b else o', [], [.ptr 10000 0, .d (.v (.string s))], bldH (.ptr 10000 0) xs, .tup [vInt .i64 s.size, .d (.v .nilIface)], bldO (xs ++ s.data.toList.map byteRow), true⟩, rfl, ⟨⟨⟨by simp, rfl, rfl⟩, .inl rfl, trivial⟩, ?_, ?_⟩, ws_calm (.ptr 10000 0) (.inr rfl) xs s hsc, rfl, fun _ => rfl, rfl⟩
  ·refine ⟨?_, ?_, trivial⟩
   ·rw [if_neg (by simp)]
    simp only [show ((10000 : Nat) = 10001) = False by simp, if_false, ho]
    exact ⟨rfl, ⟨⟨by simp, rfl, rfl⟩, ⟨by simp, rfl, rfl⟩, trivial⟩, rfl⟩
   ·rw [if_neg (by simp)]
    simp only [if_true, hb]
    exact ⟨rfl, rfl, rfl⟩
  ·exact ⟨fun _ b' hb' _ _ => by
    rcases List.mem_singleton.mp (show b' ∈ [10001] from hb') with rfl
    exact hne, (fun _ b' hb' => nomatch (show b' ∈ ([] : List Nat) from hb')), trivial⟩
 ·cases he
def F_str (h : Nat → Option AObj) (_ : Nat) : List AV → Option Eff
 | [.ptr o 0] => match h o with
  | some (.cells t [_, .d (.v (.slice none 0 0))]) => if t = 55 then some { sc := True, val := vStr ⟨#[]⟩, up := [(o, none)] } else none
  | some (.cells t [_, .row b n]) => match h b with
   | some (.row e sz xs) => if t = 55 ∧ e = 5 ∧ sz = 1 ∧ n = xs.length ∧ b ≠ o then some { sc := ∀ r ∈ xs, r = byteRow (UInt8.ofNat (byteOf r).toNat), val := vStr ⟨(xs.map fun r => UInt8.ofNat (byteOf r).toNat).toArray⟩, up := [(o, none), (b, none)] } else none
   | _ => none
  | _ => none
 | _ => none
theorem get_none1 (o : Nat) (hp : Hp) (o' : Nat) (obj : AObj) (h : Hp.get ((o, none) :: hp) o' = some obj) : o' ≠ o ∧ hp.get o' = some obj := by
 rw [Hp.get_cons] at h
 split at h
 ·cases h
 ·exact ⟨by assumption, h⟩
theorem str_ok {Γ : Gam} (hG : Gok Try.prog Γ) : Gok Try.prog (Γ.addH 22 F_str) := by
 intro g h d args e he hsc C m w hp vals hh I hsz hv hf
 unfold Gam.addH at he
 split at he
 case isFalse => exact hG g h d args e he hsc C m w hp vals hh I hsz hv hf
 rename_i hg
 subst hg hh
 refine ⟨⟨_, Try.func22, by kernel_rfl, by kernel_rfl⟩, ?_⟩
 unfold F_str at he
 split at he
 case h_2 => cases he
 rename_i o
 obtain ⟨u, rfl⟩ : ∃ u, vals = #[u] := by
  have h1 : vals.size = 1 := hsz
  obtain ⟨l⟩ := vals
  match l, h1 with
  | [u], _ => exact ⟨u, rfl⟩
 have hu := hv 0 u _ rfl rfl
 cases hu with
 | @ptr _ _ b hm =>
 have same : ∀ (w' : World) (up : Hp) (v : Value) (c : AV), w'.os = w.os → w'.tape = w.tape → w'.output = w.output → w.heap.size ≤ w'.heap.size → (∀ k, k < w.heap.size → w'.heap[k]? = w.heap[k]?) → (∀ o obj, Hp.get (up ++ hp) o = some obj → hp.get o = some obj) → Val w' (im C m w' (up ++ hp)) m v c →
   Post C m w hp d { sc := True, val := c, up := up } v w' := fun w' up v c a1 a2 a3 a4 a5 a6 a7 => by
  obtain ⟨I1, k1⟩ := I.ext a1 a2 a3 a4 a5
  obtain ⟨I2, k2⟩ := I1.drop a6
  exact ⟨m, fun _ _ => rfl, I2, a7, fun b hb => ⟨(k2 b (k1 b hb).1).1, (k1 b hb).2⟩⟩
 split at he
 ·rename_i t c0 ho
  split at he
  case isFalse => cases he
  rename_i ht
  subst ht
  cases he
  obtain ⟨b', us, h1, h2, h3, h4, h5⟩ := I.live o _ ho
  rw [hm] at h1
  cases h1
  obtain ⟨us⟩ := us
  match us, h3 with
  | [u0, u1], _ =>
  have q1 := h4 1 u1 _ rfl rfl
  cases q1 with
  | d q1 =>
  cases q1
  refine (bstr_nil b u0 w h2).mono ?_
  rintro en w' ⟨rfl, rfl⟩
  obtain ⟨m', p1, p2, p3, p4⟩ := same w.drew [(o, none)] (.string ⟨#[]⟩) (vStr ⟨#[]⟩) rfl rfl rfl (Nat.le_refl _) (fun _ _ => rfl) (fun o' obj h => (get_none1 o hp o' obj h).2) (.d (.v rfl))
  exact ⟨_, rfl, m', p1, p2, p3, p4⟩
 ·rename_i t c0 bn n ho
  split at he
  case h_2 => cases he
  rename_i e0 sz xs hb
  split at he
  case isFalse => cases he
  rename_i hc
  obtain ⟨rfl, rfl, rfl, rfl, hne⟩ := hc
  cases he
  obtain ⟨b', us, h1, h2, h3, h4, h5⟩ := I.live o _ ho
  rw [hm] at h1
  cases h1
  obtain ⟨us⟩ := us
  match us, h3 with
  | [u0, u1], _ =>
  have q1 := h4 1 u1 _ rfl rfl
  have hgone : ∀ o' obj, Hp.get ([(o, none), (bn, none)] ++ hp) o' = some obj → o' ≠ o ∧ o' ≠ bn ∧ hp.get o' = some obj := fun o' obj h => by
   obtain ⟨g1, g2⟩ := get_none1 o _ o' obj h
   obtain ⟨g3, g4⟩ := get_none1 bn _ o' obj g2
   exact ⟨g1, g3, g4⟩
  cases q1 with
  | @row _ _ cap a hmb =>
  obtain ⟨vs, r1, r2, r3⟩ := I.live bn _ hb
  rcases r1.2 with ⟨hn, h0⟩ | ⟨gb, cap', cur, hvv, _, hh, hle, hcm, hcs, htk⟩
  ·have hx : xs = [] := List.eq_nil_of_length_eq_zero h0
   subst hx
   rw [hmb] at hn
   cases hn
   refine (bstr_nil b u0 w h2).mono ?_
   rintro en w' ⟨rfl, rfl⟩
   obtain ⟨m', p1, p2, p3, p4⟩ := same w.drew [(o, none), (bn, none)] (.string ⟨#[]⟩) (vStr ⟨#[]⟩) rfl rfl rfl (Nat.le_refl _) (fun _ _ => rfl) (fun o' obj h => (hgone o' obj h).2.2) (.d (.v rfl))
   exact ⟨_, rfl, m', p1, p2, p3, p4⟩
  ·rw [hmb] at hvv
   cases hvv
   by_cases hx : xs = []
   ·subst hx
    by_cases hc0 : cap = 0
    ·subst hc0
     refine (bstr_zero b gb u0 cur w h2 hh).mono ?_
     rintro en w' ⟨rfl, hw⟩
     have hal : ∀ k, k < w.heap.size → (w.heap.push (Obj.view ⟨gb, 0, none⟩ 5))[k]? = w.heap[k]? := fun k hk => by rw [Array.getElem?_push, if_neg (by omega)]
     have hsz' : w.heap.size ≤ (w.heap.push (Obj.view ⟨gb, 0, none⟩ 5)).size := by simp
     rcases hw with rfl | rfl
     ·obtain ⟨m', p1, p2, p3, p4⟩ := same (w.drew.alloc (.view ⟨gb, 0, none⟩ 5)) [(o, none), (bn, none)] (.string ⟨#[]⟩) (vStr ⟨#[]⟩) rfl rfl rfl hsz' hal (fun o' obj h => (hgone o' obj h).2.2) (.d (.v rfl))
      exact ⟨_, rfl, m', p1, p2, p3, p4⟩
     ·obtain ⟨m', p1, p2, p3, p4⟩ := same (w.alloc (.view ⟨gb, 0, none⟩ 5)).drew [(o, none), (bn, none)] (.string ⟨#[]⟩) (vStr ⟨#[]⟩) rfl rfl rfl hsz' hal (fun o' obj h => (hgone o' obj h).2.2) (.d (.v rfl))
      exact ⟨_, rfl, m', p1, p2, p3, p4⟩
    ·refine (bstr_room b gb cap u0 w hc0 h2).mono ?_
     rintro en w' ⟨rfl, rfl⟩
     obtain ⟨m', p1, p2, p3, p4⟩ := same w.drew [(o, none), (bn, none)] (.string ⟨#[]⟩) (vStr ⟨#[]⟩) rfl rfl rfl (Nat.le_refl _) (fun _ _ => rfl) (fun o' obj h => (hgone o' obj h).2.2) (.d (.v rfl))
     exact ⟨_, rfl, m', p1, p2, p3, p4⟩
   ·have hcell : ∀ j (x : UInt8), (xs.map fun r => UInt8.ofNat (byteOf r).toNat)[j]? = some x → w.cell? ⟨gb, j, none⟩ = some (.int .u8 x.toNat) := fun j x hj => by
     rw [List.getElem?_map] at hj
     cases hr : xs[j]? with
     | none => rw [hr] at hj; cases hj
     | some r =>
      rw [hr] at hj
      cases hj
      have hrow := hsc r (List.mem_of_getElem? hr)
      obtain ⟨v, s1, s2⟩ := r3 j 0 r (.v (.int .u8 (UInt8.ofNat (byteOf r).toNat).toNat)) hr (by rw [show r[0]? = (byteRow (UInt8.ofNat (byteOf r).toNat))[0]? from congrArg (fun l : List Dat => l[0]?) hrow]; rfl)
      cases s2
      rw [← htk, List.getElem?_take] at s1
      split at s1
      ·simp only [World.cell?, hh]
       simpa using s1
      ·cases s1
    refine (bstr_row b gb u0 cap cur (xs.map fun r => UInt8.ofNat (byteOf r).toNat) w (by simpa using hx) (by rw [List.length_map]; exact h2) hh (by rw [List.length_map]; exact hle) hcm (by omega) hcell).mono ?_
    rintro en w' ⟨rfl, rfl⟩
    have hfr := freeze_same w.drew ⟨gb, 0, none⟩ (xs.map fun r => UInt8.ofNat (byteOf r).toNat).length
    obtain ⟨f1, f2, f3, f4, f5⟩ := hfr
    have hgb : blk (m bn) = some gb := by rw [hmb]; rfl
    have hgo := I.own bn _ gb hb hgb
    have hnim : ¬ im C m w hp gb := I.not_im hb hgb
    have hk : ∀ b, im C m w hp b → im C m (w.drew.freeze ⟨gb, 0, none⟩ (xs.map fun r => UInt8.ofNat (byteOf r).toNat).length) ([(o, none), (bn, none)] ++ hp) b ∧ (w.drew.freeze ⟨gb, 0, none⟩ (xs.map fun r => UInt8.ofNat (byteOf r).toNat).length).heap[b]? = w.heap[b]? := fun b hb0 =>
     ⟨⟨by rw [f4]; exact hb0.1, hb0.2.1, fun o' obj h => hb0.2.2 o' obj (hgone o' obj h).2.2⟩, f5 b (fun e => hnim ((show b = gb from e) ▸ hb0))⟩
    refine ⟨_, rfl, m, fun _ _ => rfl, ⟨f1.trans I.os, f2.trans I.tape, f3.trans I.output, by rw [f4]; exact I.size, fun b0 g1 g2 => ?_, fun o' x ho' => ?_, fun o1 o2 x1 x2 b0 g1 g2 => I.sep o1 o2 x1 x2 b0 (hgone _ _ g1).2.2 (hgone _ _ g2).2.2, fun o' x b0 ho' => I.own o' x b0 (hgone _ _ ho').2.2⟩, .d (.v rfl), hk⟩
    ·rw [f5 b0 (fun e => by
      have e : b0 = gb := e
      rcases hgo with h | h
      ·exact g2 (e ▸ h)
      ·omega)]
     exact I.frame b0 g1 g2
    ·obtain ⟨g1, g2, g3⟩ := hgone o' x ho'
     exact (I.live o' x g3).mono hk (fun b0 hb0 => f5 b0 fun e => by
      have e : b0 = gb := e
      exact I.sep bn o' _ x gb hb g3 (fun q => g2 q.symm) hgb (e ▸ hb0)) rfl (fun _ _ => rfl)
 ·cases he
end Go.Proofs.Ytgbialeahdoelaa.Eng

end
