/- All code points of a text, on the small machine. -/
import Derived.Test.YtelgddealjbgiaaDoorSBy
namespace Go.Proofs.YtelgddealjbgiaaDoor.Eng
open Go Go.Proofs.YtelgddealjbgiaaDoor.Base
set_option maxRecDepth 100000
set_option linter.unusedSimpArgs false
/-- All code points. -/
def alls : Nat → List Int → List Int
  | 0, _ => []
  | n + 1, l => if l = [] then [] else (Utf.dec l).1 :: alls n (l.drop (Utf.dec l).2.1.toNat)
theorem alls_nil (n : Nat) : alls n [] = [] := by cases n <;> rfl
theorem alls_fuel : ∀ (n m : Nat) (l : List Int), Bytes l → l.length ≤ n → l.length ≤ m → alls n l = alls m l
  | 0, m, l, _, h, _ => by
    obtain rfl : l = [] := List.eq_nil_of_length_eq_zero (Nat.le_zero.mp h)
    rw [alls_nil, alls_nil]
  | n + 1, 0, l, _, _, h => by
    obtain rfl : l = [] := List.eq_nil_of_length_eq_zero (Nat.le_zero.mp h)
    rw [alls_nil, alls_nil]
  | n + 1, m + 1, l, hb, h1, h2 => by
    unfold alls
    by_cases h : l = []
    · rw [if_pos h, if_pos h]
    · have := Utf.dec_len hb h
      rw [if_neg h, if_neg h, alls_fuel n m _ (fun x hx => hb x (List.mem_of_mem_drop hx)) (by rw [List.length_drop]; omega) (by rw [List.length_drop]; omega)]
theorem alls_len : ∀ (n : Nat) (l : List Int), (alls n l).length ≤ n
  | 0, _ => Nat.le_refl 0
  | n + 1, l => by
    unfold alls
    split
    · exact Nat.zero_le _
    · simp only [List.length_cons]; have := alls_len n (l.drop (Utf.dec l).2.1.toNat); omega
def F_All : List AV → Option (Prop × AV)
  | [.d (.v (.string s))] => some (s.size ≤ 140737488355, .d (intsD (alls s.size (sB s))))
  | _ => none
noncomputable def G_all : Gam := Gam.none.add 58 fun a => F_Next (NT.nz.nzL [.s 1, .k] a)
theorem G_all_at (h : Nat → Option AObj) (d : Nat) (a : List AV) : G_all 58 h d a = calmE (fun a => F_Next (NT.nz.nzL [.s 1, .k] a)) h a := rfl
theorem known_all : Known Tryd.prog G_all := (Known.none _).addC _ Next_calm
theorem all_step {l o : List Int} {i : Nat} (hb : Bytes l) (h1 : i < l.length) (hr : ∀ n, l.length - i ≤ n → o ++ alls n (l.drop i) = alls l.length l) : ∃ r k ok, Utf.nx l i = (r, ((k : Nat) : Int), ok) ∧ 1 ≤ k ∧ i + k ≤ l.length ∧ ∀ n, l.length - (i + k) ≤ n → (o ++ [r]) ++ alls n (l.drop (i + k)) = alls l.length l := by
  have hne : l.drop i ≠ [] := fun h => by
    have := List.drop_eq_nil_iff.mp h
    omega
  have hbd : Bytes (l.drop i) := fun x hx => hb x (List.mem_of_mem_drop hx)
  have hd := Utf.dec_len hbd hne
  rw [List.length_drop] at hd
  have hnx : Utf.nx l i = Utf.dec (l.drop i) := by rw [Utf.nx, if_neg (by omega), Int.toNat_natCast]
  have hone : ∀ n, alls (n + 1) (l.drop i) = (Utf.dec (l.drop i)).1 :: alls n ((l.drop i).drop (Utf.dec (l.drop i)).2.1.toNat) := fun n => by rw [alls, if_neg hne]
  rw [hnx]
  generalize Utf.dec (l.drop i) = q at hd hone ⊢
  obtain ⟨r, n, ok⟩ := q
  simp only [] at hd hone
  obtain ⟨k, rfl⟩ := Int.eq_ofNat_of_zero_le (show 0 ≤ n by omega)
  refine ⟨r, k, ok, rfl, by omega, by omega, fun n hn => ?_⟩
  have := hr (l.length - i + n + 1) (by omega)
  rw [hone, Int.toNat_natCast, List.drop_drop] at this
  rw [List.append_assoc, List.singleton_append, ← this, alls_fuel n (l.length - i + n) _ (fun x hx => hb x (List.mem_of_mem_drop hx)) (by rw [List.length_drop]; omega) (by rw [List.length_drop]; omega)]
theorem All_body (s : ByteArray) (hl : s.size ≤ 140737488355) : Body Tryd.prog G_all (DRun Tryd.prog G_all) 41 [.d (.v (.string s))] (.d (intsD (alls s.size (sB s)))) := by
  refine Body.of Tryd.func41 Tryd.ntmps41 (by kernel_rfl) rfl rfl rfl ?_
  have hb := sB_bytes s
  have hn := sB_len s
  simp only [intsD, bytesD, sB_rows, G_all_at, calmE, F_Next, AV.flat, AV.flat.flatL, getD_iD, iD, num_iD, List.length_map, ← hn, goTG_val, goTG_new, goTG_up, goTG_none, goG_none, goG_new, goG_up, ne_eq, evK, evH, retHF, DRun_mk, runT_nil, runT_none, runT_guard, goT_val, goT_new, goT_store, goTH_true, goTH_false, evO, keys, Option.toList_some, Option.toList_none, nzL_nil, nzL_cons, nz_k, nz_sl, nz_nil, nz_agg, startL, evC, evV, goE_val, goE_new, goE_store, goH_true, goH_false, goG_val, lk_cons, lk_nil, lk_func, lk_int, lk_bool, lk_string, lk_slice, lk_agg, look_mk, St.effOf, eff, effCall, effBinC, isConst, effBin, effUn, effConv, effPick, effNil, effFold, fold1, effLoad, effStore, effFieldAddr, effField, fieldOf, sliceOf, effIndexAddr, effIndex, effLen, effExtract, effSlice, dats, bnd, effBuild, placesOf, effBuildSlice, effMakeSlice, effAppend, srcOf, fillA, chunk, seg, toD, toDs, put, eqAV, fieldsEq, leafEq, strip, unw, allB, selP_or, selP_and, tis, TyD.agg, AV.cells, AV.cell, allCell, vInt, vBool, vStr, subL_nil, subL_cons, upIds, AV.ids, AV.ids.idsL, AObj.ids, drops, Hp.get_cons, get_nil, retF, resL, one, fz, fz.fzL, List.map_cons, List.map_nil, List.nil_append, List.append_nil, List.cons_append, List.all_cons, List.all_nil, List.length_cons, List.length_nil, List.getElem?_cons_zero, List.getElem?_cons_succ, List.getD_cons_zero, List.getD_cons_succ, List.take_succ_cons, List.take_zero, List.drop_succ_cons, List.drop_zero, List.take_nil, List.drop_nil, List.contains_cons, List.contains_nil, Option.getD_some, Option.getD_none, Option.map_some, Option.map_none, if_true, if_false, true_and, and_true, and_self, or_self, or_false, false_or, false_and, and_false, reduceCtorEq, sel_and, sel_or, decide_eq_true_eq, Bool.and_eq_true, Bool.or_eq_true, Bool.and_true, Bool.true_and, Bool.or_false, Bool.false_or, Bool.true_or, Bool.or_true, Bool.not_true, Bool.not_false, Bool.false_eq_true, implies_true, not_false_eq_true, Nat.reduceLT, Nat.reduceEqDiff, Nat.reduceAdd, Nat.reduceMul, Nat.reduceMod, Nat.reduceLeDiff, Nat.reduceBEq, Nat.zero_add, Nat.add_zero, reduceIte, ↓reduceIte, List.not_mem_nil]
  rw [← hn] at hl
  generalize sB s = l at hb hn hl ⊢
  clear hn
  refine wpc_loop (fun p : List Int × Nat => ⟨30, [100], [(3, .d (bytesD l)), (4, .row 100 p.1.length), (5, vInt .i64 p.2)], [(100, some (.row 3 1 (p.1.map (iD .i64))))]⟩)
    (fun p => p.2 ≤ l.length ∧ p.1.length ≤ p.2 ∧ ∀ n, l.length - p.2 ≤ n → p.1 ++ alls n (l.drop p.2) = alls l.length l) (fun p => l.length - p.2) ([], 0) ⟨Nat.zero_le _, Nat.le_refl _, fun n hn => ?_⟩ ?_ ?_
  · rw [List.nil_append, List.drop_zero]
    exact alls_fuel _ _ _ hb hn (Nat.le_refl _)
  · refine Le.of id [100] ?_
    simp only [bytesD, List.length_nil, List.length_map, List.map_nil, Mt_tup, Mt_agg, Mt_fn, forall_eq, forall_eq_or_imp, ne_eq, List.all_cons, List.all_nil, pr, Nat.reduceLeDiff, slR_nil, slR_cons, hpR_nil, hpR_cells, hpR_row, idsR_nil, idsR_cons, mtE_v, mtE_sl, mtE_nil, mtE_refl, mtE_row, mtE_born, mtE_ptr, mtE_rp, mtE_agg, mtE_tup, mtE_fn, mtE_ep, MtL_nil, MtL_cons, Mt_v, Mt_sl, Mt_nil, Mt_refl, Mt_row, Mt_born, Mt_ptr, MtO_cells, MtO_row, liveIds, distinct, Dat.v.injEq, Dat.sl.injEq, Value.int.injEq, Value.bool.injEq, Value.string.injEq, lk_cons, lk_nil, subL_nil, subL_cons, upIds, AV.ids, AV.ids.idsL, AObj.ids, Hp.get_cons, get_nil, allCell, AV.cell, vInt, vBool, vStr, id, true_and, and_true, and_self, List.append_nil, List.nil_append, List.not_mem_nil, List.mem_cons, or_false, false_or, or_self, not_true_eq_false, not_false_eq_true, false_imp_iff, false_implies, List.map_nil, not_false_eq_true, List.contains_cons, List.contains_nil, Bool.or_false, Bool.false_or, Bool.true_or, Bool.or_true, Bool.and_true, Bool.true_and, implies_true, if_true, if_false, reduceCtorEq, Nat.reduceEqDiff, Nat.reduceBEq, Nat.reduceAdd, reduceIte, ↓reduceIte]
    rfl
  · rintro ⟨o, i⟩ ⟨hi, ho, hr⟩
    simp only [] at hi ho hr
    simp only [intsD, bytesD, G_all_at, calmE, F_Next, AV.flat, AV.flat.flatL, getD_iD, iD, num_iD, List.length_map, goTG_val, goTG_new, goTG_up, goTG_none, goG_none, goG_new, goG_up, ne_eq, evK, evH, retHF, DRun_mk, runT_nil, runT_none, runT_guard, goT_val, goT_new, goT_store, goTH_true, goTH_false, evO, keys, Option.toList_some, Option.toList_none, nzL_nil, nzL_cons, nz_k, nz_sl, nz_nil, nz_agg, startL, evC, evV, goE_val, goE_new, goE_store, goH_true, goH_false, goG_val, lk_cons, lk_nil, lk_func, lk_int, lk_bool, lk_string, lk_slice, lk_agg, look_mk, St.effOf, eff, effCall, effBinC, isConst, effBin, effUn, effConv, effPick, effNil, effFold, fold1, effLoad, effStore, effFieldAddr, effField, fieldOf, sliceOf, effIndexAddr, effIndex, effLen, effExtract, effSlice, dats, bnd, effBuild, placesOf, effBuildSlice, effMakeSlice, effAppend, srcOf, fillA, chunk, seg, toD, toDs, put, eqAV, fieldsEq, leafEq, strip, unw, allB, selP_or, selP_and, tis, TyD.agg, AV.cells, AV.cell, allCell, vInt, vBool, vStr, subL_nil, subL_cons, upIds, AV.ids, AV.ids.idsL, AObj.ids, drops, Hp.get_cons, get_nil, retF, resL, one, fz, fz.fzL, List.map_cons, List.map_nil, List.nil_append, List.append_nil, List.cons_append, List.all_cons, List.all_nil, List.length_cons, List.length_nil, List.getElem?_cons_zero, List.getElem?_cons_succ, List.getD_cons_zero, List.getD_cons_succ, List.take_succ_cons, List.take_zero, List.drop_succ_cons, List.drop_zero, List.take_nil, List.drop_nil, List.contains_cons, List.contains_nil, Option.getD_some, Option.getD_none, Option.map_some, Option.map_none, if_true, if_false, true_and, and_true, and_self, or_self, or_false, false_or, false_and, and_false, reduceCtorEq, sel_and, sel_or, decide_eq_true_eq, Bool.and_eq_true, Bool.or_eq_true, Bool.and_true, Bool.true_and, Bool.or_false, Bool.false_or, Bool.true_or, Bool.or_true, Bool.not_true, Bool.not_false, Bool.false_eq_true, implies_true, not_false_eq_true, Nat.reduceLT, Nat.reduceEqDiff, Nat.reduceAdd, Nat.reduceMul, Nat.reduceMod, Nat.reduceLeDiff, Nat.reduceBEq, Nat.zero_add, Nat.add_zero, reduceIte, ↓reduceIte, List.not_mem_nil]
    by_cases h1 : (i : Int) < l.length
    · rw [if_pos h1]
      refine ⟨⟨hb, by omega⟩, ?_⟩
      obtain ⟨r, k, ok, e, k1, k2, k3⟩ := all_step hb (by omega) hr
      simp only [e]
      refine ⟨by omega, (o ++ [r], i + k), by simp only []; omega, ⟨k2, by simp only [List.length_append, List.length_singleton]; omega, k3⟩, Le.of (fun _ => 25) [] ?_⟩
      simp only [List.map_append, List.map_cons, List.map_nil, List.length_append, List.length_map, List.length_cons, List.length_nil, iD, Mt_tup, Mt_agg, Mt_fn, forall_eq, forall_eq_or_imp, ne_eq, List.all_cons, List.all_nil, pr, Nat.reduceLeDiff, slR_nil, slR_cons, hpR_nil, hpR_cells, hpR_row, idsR_nil, idsR_cons, mtE_v, mtE_sl, mtE_nil, mtE_refl, mtE_row, mtE_born, mtE_ptr, mtE_rp, mtE_agg, mtE_tup, mtE_fn, mtE_ep, MtL_nil, MtL_cons, Mt_v, Mt_sl, Mt_nil, Mt_refl, Mt_row, Mt_born, Mt_ptr, MtO_cells, MtO_row, liveIds, distinct, Dat.v.injEq, Dat.sl.injEq, Value.int.injEq, Value.bool.injEq, Value.string.injEq, lk_cons, lk_nil, subL_nil, subL_cons, upIds, AV.ids, AV.ids.idsL, AObj.ids, Hp.get_cons, get_nil, allCell, AV.cell, vInt, vBool, vStr, id, true_and, and_true, and_self, List.append_nil, List.nil_append, List.not_mem_nil, List.mem_cons, or_false, false_or, or_self, not_true_eq_false, not_false_eq_true, false_imp_iff, false_implies, List.map_nil, not_false_eq_true, List.contains_cons, List.contains_nil, Bool.or_false, Bool.false_or, Bool.true_or, Bool.or_true, Bool.and_true, Bool.true_and, implies_true, if_true, if_false, reduceCtorEq, Nat.reduceEqDiff, Nat.reduceBEq, Nat.reduceAdd, reduceIte, ↓reduceIte]
      rw [w64 (by omega) (by omega)]
      omega
    · rw [if_neg h1]
      have h2 := hr 0 (by omega)
      rw [List.drop_eq_nil_of_le (by omega), alls_nil, List.append_nil] at h2
      rw [h2]
theorem All_calm : ∀ args sc res, F_All args = some (sc, res) → sc → Calm Tryd.prog 41 args res := by
  intro args sc res h hs
  unfold F_All at h
  split at h <;> cases h
  exact known_all.calm mixed rfl rfl (All_body _ hs)
end Go.Proofs.YtelgddealjbgiaaDoor.Eng
