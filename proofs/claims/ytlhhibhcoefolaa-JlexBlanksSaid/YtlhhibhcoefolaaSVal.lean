/- Is a text UTF-8, on the small machine. -/
import Derived.Test.YtlhhibhcoefolaaSRef2
import Derived.Test.YtlhhibhcoefolaaSBy
namespace Go.Proofs.Ytlhhibhcoefolaa.Eng
open Go Go.Proofs.Ytlhhibhcoefolaa.Base
set_option maxRecDepth 100000
set_option linter.unusedSimpArgs false
set_option linter.unusedVariables false
/-- How many bytes are UTF-8, and whether all are. -/
def vals : Nat → List Int → Nat × Bool
  | 0, l => (0, decide (l = []))
  | n + 1, l => if l = [] then (0, true) else if (Utf.dec l).2.2 = true then ((Utf.dec l).2.1.toNat + (vals n (l.drop (Utf.dec l).2.1.toNat)).1, (vals n (l.drop (Utf.dec l).2.1.toNat)).2) else (0, false)
theorem vals_nil (n : Nat) : vals n [] = (0, true) := by cases n <;> rfl
theorem vals_fuel : ∀ (n m : Nat) (l : List Int), Bytes l → l.length ≤ n → l.length ≤ m → vals n l = vals m l
  | 0, m, l, _, h, _ => by
    obtain rfl : l = [] := List.eq_nil_of_length_eq_zero (Nat.le_zero.mp h)
    rw [vals_nil, vals_nil]
  | n + 1, 0, l, _, _, h => by
    obtain rfl : l = [] := List.eq_nil_of_length_eq_zero (Nat.le_zero.mp h)
    rw [vals_nil, vals_nil]
  | n + 1, m + 1, l, hb, h1, h2 => by
    unfold vals
    by_cases h : l = []
    · rw [if_pos h, if_pos h]
    · have := Utf.dec_len hb h
      rw [if_neg h, if_neg h, vals_fuel n m _ (fun x hx => hb x (List.mem_of_mem_drop hx)) (by rw [List.length_drop]; omega) (by rw [List.length_drop]; omega)]
theorem vals_enc : ∀ (rs t : List Int) (n : Nat), (∀ r ∈ rs, Utf.isCp r) → (Utf.dec t).2.2 = false → (Utf.encAll rs ++ t).length ≤ n → vals n (Utf.encAll rs ++ t) = ((Utf.encAll rs).length, decide (t = []))
  | [], t, n, _, ht, hn => by
    rw [Utf.encAll_nil, List.nil_append]
    cases n with
    | zero => rfl
    | succ n =>
      unfold vals
      by_cases h : t = []
      · rw [if_pos h, decide_eq_true h]; rfl
      · rw [if_neg h, if_neg (by rw [ht]; exact Bool.false_ne_true), decide_eq_false h]; rfl
  | r :: rs, t, n, hr, ht, hn => by
    have h1 := hr r List.mem_cons_self
    have hs := Utf.size_range r
    have he := Utf.enc_size (r := r)
    rw [Utf.encAll_cons, List.append_assoc] at hn ⊢
    rw [List.length_append] at hn
    cases n with
    | zero => omega
    | succ n =>
      unfold vals
      rw [Utf.dec_enc h1, if_neg (fun h => by have := congrArg List.length h; simp only [List.length_append, List.length_nil] at this; omega)]
      simp only [if_true]
      rw [show (Utf.size r).toNat = (Utf.enc r).length by omega, List.drop_left, vals_enc rs t n (fun x hx => hr x (List.mem_cons_of_mem _ hx)) ht (by omega), List.length_append]
def F_val : List AV → Option (Prop × AV)
  | [.d (.sl 1 xs)] => some (xs = (xs.map numOf).map (iD .u8) ∧ Bytes (xs.map numOf) ∧ xs.length ≤ 140737488355, .tup [vInt .i64 ((vals xs.length (xs.map numOf)).1 : Nat), vBool (vals xs.length (xs.map numOf)).2])
  | _ => none
theorem val_step {l : List Int} {i : Nat} (hb : Bytes l) (h1 : i < l.length) (hr : ∀ n, l.length - i ≤ n → (i + (vals n (l.drop i)).1, (vals n (l.drop i)).2) = vals l.length l) :
    ∃ r k ok, Utf.nx l i = (r, ((k : Nat) : Int), ok) ∧ 1 ≤ k ∧ i + k ≤ l.length ∧ (ok = true → ∀ n, l.length - (i + k) ≤ n → (i + k + (vals n (l.drop (i + k))).1, (vals n (l.drop (i + k))).2) = vals l.length l) ∧ (ok = false → vals l.length l = (i, false)) := by
  have hne : l.drop i ≠ [] := fun h => by
    have := List.drop_eq_nil_iff.mp h
    omega
  have hbd : Bytes (l.drop i) := fun x hx => hb x (List.mem_of_mem_drop hx)
  have hd := Utf.dec_len hbd hne
  rw [List.length_drop] at hd
  have hnx : Utf.nx l i = Utf.dec (l.drop i) := by rw [Utf.nx, if_neg (by omega), Int.toNat_natCast]
  have hone : ∀ n, vals (n + 1) (l.drop i) = if (Utf.dec (l.drop i)).2.2 = true then ((Utf.dec (l.drop i)).2.1.toNat + (vals n ((l.drop i).drop (Utf.dec (l.drop i)).2.1.toNat)).1, (vals n ((l.drop i).drop (Utf.dec (l.drop i)).2.1.toNat)).2) else (0, false) := fun n => by rw [vals, if_neg hne]
  rw [hnx]
  generalize Utf.dec (l.drop i) = q at hd hone ⊢
  obtain ⟨r, n, ok⟩ := q
  simp only [] at hd hone
  obtain ⟨k, rfl⟩ := Int.eq_ofNat_of_zero_le (show 0 ≤ n by omega)
  refine ⟨r, k, ok, rfl, by omega, by omega, fun ho n hn => ?_, fun ho => ?_⟩
  · have := hr (l.length - i + n + 1) (by omega)
    rw [hone, if_pos ho, Int.toNat_natCast, List.drop_drop] at this
    rw [← this, vals_fuel n (l.length - i + n) _ (fun x hx => hb x (List.mem_of_mem_drop hx)) (by rw [List.length_drop]; omega) (by rw [List.length_drop]; omega), Nat.add_assoc]
  · have := hr (l.length - i + 1) (by omega)
    rw [hone, if_neg (by rw [ho]; exact Bool.false_ne_true)] at this
    rw [← this]; rfl
noncomputable def G_val : Gam := (Gam.none.add 20 fun a => F_Next (NT.nz.nzL [.s 1, .k] a))
theorem known_G_val : Known Try.prog G_val := (Known.none _).addC _ Next_calm
theorem G_val_at : (∀ h d a, G_val 20 h d a = calmE (fun a => F_Next (NT.nz.nzL [.s 1, .k] a)) h a) := fun _ _ _ => rfl
theorem val_body (l : List Int) (hb : Bytes l) (hl : l.length ≤ 140737488355) : Body Try.prog G_val (DRun Try.prog G_val) 11 [.d (bytesD l)] (.tup [vInt .i64 ((vals l.length l).1 : Nat), vBool (vals l.length l).2]) := by
  refine Body.of Try.func11 Try.ntmps11 (by kernel_rfl) rfl rfl rfl ?_
  simp only [bytesD, G_val_at, calmE, F_Next, AV.flat, AV.flat.flatL, getD_iD, iD, num_iD, List.length_map, goTG_val, goTG_new, goTG_up, goTG_none, goG_none, goG_new, goG_up, ne_eq, evK, evH, retHF, DRun_mk, runT_nil, runT_none, runT_guard, goT_val, goT_new, goT_store, goTH_true, goTH_false, evO, keys, Option.toList_some, Option.toList_none, nzL_nil, nzL_cons, nz_k, nz_sl, nz_nil, nz_agg, startL, evC, evV, goE_val, goE_new, goE_store, goH_true, goH_false, goG_val, lk_cons, lk_nil, lk_func, lk_int, lk_bool, lk_string, lk_slice, lk_agg, look_mk, St.effOf, eff, effCall, effBinC, isConst, effBin, effUn, effConv, effPick, effNil, effFold, fold1, effLoad, effStore, effFieldAddr, effField, fieldOf, sliceOf, effIndexAddr, effIndex, effLen, effExtract, effSlice, dats, bnd, effBuild, placesOf, effBuildSlice, effMakeSlice, effAppend, srcOf, fillA, chunk, seg, toD, toDs, put, eqAV, fieldsEq, leafEq, strip, unw, allB, selP_or, selP_and, tis, TyD.agg, AV.cells, AV.cell, allCell, vInt, vBool, vStr, subL_nil, subL_cons, upIds, AV.ids, AV.ids.idsL, AObj.ids, drops, Hp.get_cons, get_nil, retF, resL, one, fz, fz.fzL, List.map_cons, List.map_nil, List.nil_append, List.append_nil, List.cons_append, List.all_cons, List.all_nil, List.length_cons, List.length_nil, List.getElem?_cons_zero, List.getElem?_cons_succ, List.getD_cons_zero, List.getD_cons_succ, List.take_succ_cons, List.take_zero, List.drop_succ_cons, List.drop_zero, List.take_nil, List.drop_nil, List.contains_cons, List.contains_nil, Option.getD_some, Option.getD_none, Option.map_some, Option.map_none, if_true, if_false, true_and, and_true, and_self, or_self, or_false, false_or, false_and, and_false, reduceCtorEq, sel_and, sel_or, decide_eq_true_eq, Bool.and_eq_true, Bool.or_eq_true, Bool.and_true, Bool.true_and, Bool.or_false, Bool.false_or, Bool.true_or, Bool.or_true, Bool.not_true, Bool.not_false, Bool.false_eq_true, implies_true, not_false_eq_true, Nat.reduceLT, Nat.reduceEqDiff, Nat.reduceAdd, Nat.reduceMul, Nat.reduceMod, Nat.reduceLeDiff, Nat.reduceBEq, Nat.zero_add, Nat.add_zero, reduceIte, ↓reduceIte, List.not_mem_nil]
  refine wpc_loop (fun k : Nat => ⟨26, [], [(0, .d (bytesD l)), (4, vInt .i64 k)], []⟩) (fun k => k ≤ l.length ∧ ∀ n, l.length - k ≤ n → (k + (vals n (l.drop k)).1, (vals n (l.drop k)).2) = vals l.length l) (fun k => l.length - k) 0 ⟨Nat.zero_le _, fun n hn => by rw [List.drop_zero, vals_fuel n l.length l hb (by omega) (Nat.le_refl _), Nat.zero_add]⟩ ?_ ?_
  · refine Le.of id [] ?_
    simp only [bytesD, Mt_tup, Mt_agg, Mt_fn, forall_eq, forall_eq_or_imp, ne_eq, List.all_cons, List.all_nil, pr, Nat.reduceLeDiff, slR_nil, slR_cons, hpR_nil, hpR_cells, hpR_row, idsR_nil, idsR_cons, mtE_v, mtE_sl, mtE_nil, mtE_refl, mtE_row, mtE_born, mtE_ptr, mtE_rp, mtE_agg, mtE_tup, mtE_fn, mtE_ep, MtL_nil, MtL_cons, Mt_v, Mt_sl, Mt_nil, Mt_refl, Mt_row, Mt_born, Mt_ptr, MtO_cells, MtO_row, liveIds, distinct, Dat.v.injEq, Dat.sl.injEq, Value.int.injEq, Value.bool.injEq, Value.string.injEq, lk_cons, lk_nil, subL_nil, subL_cons, upIds, AV.ids, AV.ids.idsL, AObj.ids, Hp.get_cons, get_nil, allCell, AV.cell, vInt, vBool, vStr, id, true_and, and_true, and_self, List.append_nil, List.nil_append, List.not_mem_nil, List.mem_cons, or_false, false_or, or_self, not_true_eq_false, not_false_eq_true, false_imp_iff, false_implies, List.map_nil, not_false_eq_true, List.contains_cons, List.contains_nil, Bool.or_false, Bool.false_or, Bool.true_or, Bool.or_true, Bool.and_true, Bool.true_and, implies_true, if_true, if_false, reduceCtorEq, Nat.reduceEqDiff, Nat.reduceBEq, Nat.reduceAdd, reduceIte, ↓reduceIte]
    rfl
  · rintro k ⟨hk, hr⟩
    simp only [bytesD, G_val_at, calmE, F_Next, AV.flat, AV.flat.flatL, getD_iD, iD, num_iD, List.length_map, goTG_val, goTG_new, goTG_up, goTG_none, goG_none, goG_new, goG_up, ne_eq, evK, evH, retHF, DRun_mk, runT_nil, runT_none, runT_guard, goT_val, goT_new, goT_store, goTH_true, goTH_false, evO, keys, Option.toList_some, Option.toList_none, nzL_nil, nzL_cons, nz_k, nz_sl, nz_nil, nz_agg, startL, evC, evV, goE_val, goE_new, goE_store, goH_true, goH_false, goG_val, lk_cons, lk_nil, lk_func, lk_int, lk_bool, lk_string, lk_slice, lk_agg, look_mk, St.effOf, eff, effCall, effBinC, isConst, effBin, effUn, effConv, effPick, effNil, effFold, fold1, effLoad, effStore, effFieldAddr, effField, fieldOf, sliceOf, effIndexAddr, effIndex, effLen, effExtract, effSlice, dats, bnd, effBuild, placesOf, effBuildSlice, effMakeSlice, effAppend, srcOf, fillA, chunk, seg, toD, toDs, put, eqAV, fieldsEq, leafEq, strip, unw, allB, selP_or, selP_and, tis, TyD.agg, AV.cells, AV.cell, allCell, vInt, vBool, vStr, subL_nil, subL_cons, upIds, AV.ids, AV.ids.idsL, AObj.ids, drops, Hp.get_cons, get_nil, retF, resL, one, fz, fz.fzL, List.map_cons, List.map_nil, List.nil_append, List.append_nil, List.cons_append, List.all_cons, List.all_nil, List.length_cons, List.length_nil, List.getElem?_cons_zero, List.getElem?_cons_succ, List.getD_cons_zero, List.getD_cons_succ, List.take_succ_cons, List.take_zero, List.drop_succ_cons, List.drop_zero, List.take_nil, List.drop_nil, List.contains_cons, List.contains_nil, Option.getD_some, Option.getD_none, Option.map_some, Option.map_none, if_true, if_false, true_and, and_true, and_self, or_self, or_false, false_or, false_and, and_false, reduceCtorEq, sel_and, sel_or, decide_eq_true_eq, Bool.and_eq_true, Bool.or_eq_true, Bool.and_true, Bool.true_and, Bool.or_false, Bool.false_or, Bool.true_or, Bool.or_true, Bool.not_true, Bool.not_false, Bool.false_eq_true, implies_true, not_false_eq_true, Nat.reduceLT, Nat.reduceEqDiff, Nat.reduceAdd, Nat.reduceMul, Nat.reduceMod, Nat.reduceLeDiff, Nat.reduceBEq, Nat.zero_add, Nat.add_zero, reduceIte, ↓reduceIte, List.not_mem_nil]
    by_cases h1 : (k : Int) < l.length
    · rw [if_pos h1]
      refine ⟨⟨hb, by omega⟩, ?_⟩
      obtain ⟨r, n, ok, e, k1, k2, k3, k4⟩ := val_step hb (by omega) hr
      simp only [e]
      cases ok with
      | true =>
        rw [if_neg (by decide)]
        refine ⟨k + n, by omega, ⟨k2, k3 rfl⟩, Le.of id [] ?_⟩
        simp only [bytesD, Mt_tup, Mt_agg, Mt_fn, forall_eq, forall_eq_or_imp, ne_eq, List.all_cons, List.all_nil, pr, Nat.reduceLeDiff, slR_nil, slR_cons, hpR_nil, hpR_cells, hpR_row, idsR_nil, idsR_cons, mtE_v, mtE_sl, mtE_nil, mtE_refl, mtE_row, mtE_born, mtE_ptr, mtE_rp, mtE_agg, mtE_tup, mtE_fn, mtE_ep, MtL_nil, MtL_cons, Mt_v, Mt_sl, Mt_nil, Mt_refl, Mt_row, Mt_born, Mt_ptr, MtO_cells, MtO_row, liveIds, distinct, Dat.v.injEq, Dat.sl.injEq, Value.int.injEq, Value.bool.injEq, Value.string.injEq, lk_cons, lk_nil, subL_nil, subL_cons, upIds, AV.ids, AV.ids.idsL, AObj.ids, Hp.get_cons, get_nil, allCell, AV.cell, vInt, vBool, vStr, id, true_and, and_true, and_self, List.append_nil, List.nil_append, List.not_mem_nil, List.mem_cons, or_false, false_or, or_self, not_true_eq_false, not_false_eq_true, false_imp_iff, false_implies, List.map_nil, not_false_eq_true, List.contains_cons, List.contains_nil, Bool.or_false, Bool.false_or, Bool.true_or, Bool.or_true, Bool.and_true, Bool.true_and, implies_true, if_true, if_false, reduceCtorEq, Nat.reduceEqDiff, Nat.reduceBEq, Nat.reduceAdd, reduceIte, ↓reduceIte]
        rw [w64 (by omega) (by omega)]
        omega
      | false =>
        rw [k4 rfl]
        first | done | exact Sub.refl _
    · rw [if_neg h1]
      have h2 := hr 0 (by omega)
      rw [List.drop_eq_nil_of_le (by omega), vals_nil, Nat.add_zero] at h2
      rw [← h2]
theorem val_calm : ∀ args sc res, F_val args = some (sc, res) → sc → Calm Try.prog 11 args res := by
  intro args sc res h hs
  unfold F_val at h
  split at h <;> cases h
  rename_i xs
  obtain ⟨h1, h2, h3⟩ := hs
  have hq := val_body (xs.map numOf) h2 (by simpa using h3)
  rw [bytesD, ← h1, List.length_map] at hq
  exact known_G_val.calm mixed rfl rfl hq
noncomputable def G_rval : Gam := (Gam.none.add 26 fun a => F_Next (NT.nz.nzL [.s 1, .k] a))
theorem known_G_rval : Known Try.prog G_rval := (Known.none _).addC _ RNext_calm
theorem G_rval_at : (∀ h d a, G_rval 26 h d a = calmE (fun a => F_Next (NT.nz.nzL [.s 1, .k] a)) h a) := fun _ _ _ => rfl
theorem rval_body (l : List Int) (hb : Bytes l) (hl : l.length ≤ 140737488355) : Body Try.prog G_rval (DRun Try.prog G_rval) 15 [.d (bytesD l)] (.tup [vInt .i64 ((vals l.length l).1 : Nat), vBool (vals l.length l).2]) := by
  refine Body.of Try.func15 Try.ntmps15 (by kernel_rfl) rfl rfl rfl ?_
  simp only [bytesD, G_rval_at, calmE, F_Next, AV.flat, AV.flat.flatL, getD_iD, iD, num_iD, List.length_map, goTG_val, goTG_new, goTG_up, goTG_none, goG_none, goG_new, goG_up, ne_eq, evK, evH, retHF, DRun_mk, runT_nil, runT_none, runT_guard, goT_val, goT_new, goT_store, goTH_true, goTH_false, evO, keys, Option.toList_some, Option.toList_none, nzL_nil, nzL_cons, nz_k, nz_sl, nz_nil, nz_agg, startL, evC, evV, goE_val, goE_new, goE_store, goH_true, goH_false, goG_val, lk_cons, lk_nil, lk_func, lk_int, lk_bool, lk_string, lk_slice, lk_agg, look_mk, St.effOf, eff, effCall, effBinC, isConst, effBin, effUn, effConv, effPick, effNil, effFold, fold1, effLoad, effStore, effFieldAddr, effField, fieldOf, sliceOf, effIndexAddr, effIndex, effLen, effExtract, effSlice, dats, bnd, effBuild, placesOf, effBuildSlice, effMakeSlice, effAppend, srcOf, fillA, chunk, seg, toD, toDs, put, eqAV, fieldsEq, leafEq, strip, unw, allB, selP_or, selP_and, tis, TyD.agg, AV.cells, AV.cell, allCell, vInt, vBool, vStr, subL_nil, subL_cons, upIds, AV.ids, AV.ids.idsL, AObj.ids, drops, Hp.get_cons, get_nil, retF, resL, one, fz, fz.fzL, List.map_cons, List.map_nil, List.nil_append, List.append_nil, List.cons_append, List.all_cons, List.all_nil, List.length_cons, List.length_nil, List.getElem?_cons_zero, List.getElem?_cons_succ, List.getD_cons_zero, List.getD_cons_succ, List.take_succ_cons, List.take_zero, List.drop_succ_cons, List.drop_zero, List.take_nil, List.drop_nil, List.contains_cons, List.contains_nil, Option.getD_some, Option.getD_none, Option.map_some, Option.map_none, if_true, if_false, true_and, and_true, and_self, or_self, or_false, false_or, false_and, and_false, reduceCtorEq, sel_and, sel_or, decide_eq_true_eq, Bool.and_eq_true, Bool.or_eq_true, Bool.and_true, Bool.true_and, Bool.or_false, Bool.false_or, Bool.true_or, Bool.or_true, Bool.not_true, Bool.not_false, Bool.false_eq_true, implies_true, not_false_eq_true, Nat.reduceLT, Nat.reduceEqDiff, Nat.reduceAdd, Nat.reduceMul, Nat.reduceMod, Nat.reduceLeDiff, Nat.reduceBEq, Nat.zero_add, Nat.add_zero, reduceIte, ↓reduceIte, List.not_mem_nil]
  refine wpc_loop (fun k : Nat => ⟨26, [], [(0, .d (bytesD l)), (4, vInt .i64 k)], []⟩) (fun k => k ≤ l.length ∧ ∀ n, l.length - k ≤ n → (k + (vals n (l.drop k)).1, (vals n (l.drop k)).2) = vals l.length l) (fun k => l.length - k) 0 ⟨Nat.zero_le _, fun n hn => by rw [List.drop_zero, vals_fuel n l.length l hb (by omega) (Nat.le_refl _), Nat.zero_add]⟩ ?_ ?_
  · refine Le.of id [] ?_
    simp only [bytesD, Mt_tup, Mt_agg, Mt_fn, forall_eq, forall_eq_or_imp, ne_eq, List.all_cons, List.all_nil, pr, Nat.reduceLeDiff, slR_nil, slR_cons, hpR_nil, hpR_cells, hpR_row, idsR_nil, idsR_cons, mtE_v, mtE_sl, mtE_nil, mtE_refl, mtE_row, mtE_born, mtE_ptr, mtE_rp, mtE_agg, mtE_tup, mtE_fn, mtE_ep, MtL_nil, MtL_cons, Mt_v, Mt_sl, Mt_nil, Mt_refl, Mt_row, Mt_born, Mt_ptr, MtO_cells, MtO_row, liveIds, distinct, Dat.v.injEq, Dat.sl.injEq, Value.int.injEq, Value.bool.injEq, Value.string.injEq, lk_cons, lk_nil, subL_nil, subL_cons, upIds, AV.ids, AV.ids.idsL, AObj.ids, Hp.get_cons, get_nil, allCell, AV.cell, vInt, vBool, vStr, id, true_and, and_true, and_self, List.append_nil, List.nil_append, List.not_mem_nil, List.mem_cons, or_false, false_or, or_self, not_true_eq_false, not_false_eq_true, false_imp_iff, false_implies, List.map_nil, not_false_eq_true, List.contains_cons, List.contains_nil, Bool.or_false, Bool.false_or, Bool.true_or, Bool.or_true, Bool.and_true, Bool.true_and, implies_true, if_true, if_false, reduceCtorEq, Nat.reduceEqDiff, Nat.reduceBEq, Nat.reduceAdd, reduceIte, ↓reduceIte]
    rfl
  · rintro k ⟨hk, hr⟩
    simp only [bytesD, G_rval_at, calmE, F_Next, AV.flat, AV.flat.flatL, getD_iD, iD, num_iD, List.length_map, goTG_val, goTG_new, goTG_up, goTG_none, goG_none, goG_new, goG_up, ne_eq, evK, evH, retHF, DRun_mk, runT_nil, runT_none, runT_guard, goT_val, goT_new, goT_store, goTH_true, goTH_false, evO, keys, Option.toList_some, Option.toList_none, nzL_nil, nzL_cons, nz_k, nz_sl, nz_nil, nz_agg, startL, evC, evV, goE_val, goE_new, goE_store, goH_true, goH_false, goG_val, lk_cons, lk_nil, lk_func, lk_int, lk_bool, lk_string, lk_slice, lk_agg, look_mk, St.effOf, eff, effCall, effBinC, isConst, effBin, effUn, effConv, effPick, effNil, effFold, fold1, effLoad, effStore, effFieldAddr, effField, fieldOf, sliceOf, effIndexAddr, effIndex, effLen, effExtract, effSlice, dats, bnd, effBuild, placesOf, effBuildSlice, effMakeSlice, effAppend, srcOf, fillA, chunk, seg, toD, toDs, put, eqAV, fieldsEq, leafEq, strip, unw, allB, selP_or, selP_and, tis, TyD.agg, AV.cells, AV.cell, allCell, vInt, vBool, vStr, subL_nil, subL_cons, upIds, AV.ids, AV.ids.idsL, AObj.ids, drops, Hp.get_cons, get_nil, retF, resL, one, fz, fz.fzL, List.map_cons, List.map_nil, List.nil_append, List.append_nil, List.cons_append, List.all_cons, List.all_nil, List.length_cons, List.length_nil, List.getElem?_cons_zero, List.getElem?_cons_succ, List.getD_cons_zero, List.getD_cons_succ, List.take_succ_cons, List.take_zero, List.drop_succ_cons, List.drop_zero, List.take_nil, List.drop_nil, List.contains_cons, List.contains_nil, Option.getD_some, Option.getD_none, Option.map_some, Option.map_none, if_true, if_false, true_and, and_true, and_self, or_self, or_false, false_or, false_and, and_false, reduceCtorEq, sel_and, sel_or, decide_eq_true_eq, Bool.and_eq_true, Bool.or_eq_true, Bool.and_true, Bool.true_and, Bool.or_false, Bool.false_or, Bool.true_or, Bool.or_true, Bool.not_true, Bool.not_false, Bool.false_eq_true, implies_true, not_false_eq_true, Nat.reduceLT, Nat.reduceEqDiff, Nat.reduceAdd, Nat.reduceMul, Nat.reduceMod, Nat.reduceLeDiff, Nat.reduceBEq, Nat.zero_add, Nat.add_zero, reduceIte, ↓reduceIte, List.not_mem_nil]
    by_cases h1 : (k : Int) < l.length
    · rw [if_pos h1]
      refine ⟨⟨hb, by omega⟩, ?_⟩
      obtain ⟨r, n, ok, e, k1, k2, k3, k4⟩ := val_step hb (by omega) hr
      simp only [e]
      cases ok with
      | true =>
        rw [if_neg (by decide)]
        refine ⟨k + n, by omega, ⟨k2, k3 rfl⟩, Le.of id [] ?_⟩
        simp only [bytesD, Mt_tup, Mt_agg, Mt_fn, forall_eq, forall_eq_or_imp, ne_eq, List.all_cons, List.all_nil, pr, Nat.reduceLeDiff, slR_nil, slR_cons, hpR_nil, hpR_cells, hpR_row, idsR_nil, idsR_cons, mtE_v, mtE_sl, mtE_nil, mtE_refl, mtE_row, mtE_born, mtE_ptr, mtE_rp, mtE_agg, mtE_tup, mtE_fn, mtE_ep, MtL_nil, MtL_cons, Mt_v, Mt_sl, Mt_nil, Mt_refl, Mt_row, Mt_born, Mt_ptr, MtO_cells, MtO_row, liveIds, distinct, Dat.v.injEq, Dat.sl.injEq, Value.int.injEq, Value.bool.injEq, Value.string.injEq, lk_cons, lk_nil, subL_nil, subL_cons, upIds, AV.ids, AV.ids.idsL, AObj.ids, Hp.get_cons, get_nil, allCell, AV.cell, vInt, vBool, vStr, id, true_and, and_true, and_self, List.append_nil, List.nil_append, List.not_mem_nil, List.mem_cons, or_false, false_or, or_self, not_true_eq_false, not_false_eq_true, false_imp_iff, false_implies, List.map_nil, not_false_eq_true, List.contains_cons, List.contains_nil, Bool.or_false, Bool.false_or, Bool.true_or, Bool.or_true, Bool.and_true, Bool.true_and, implies_true, if_true, if_false, reduceCtorEq, Nat.reduceEqDiff, Nat.reduceBEq, Nat.reduceAdd, reduceIte, ↓reduceIte]
        rw [w64 (by omega) (by omega)]
        omega
      | false =>
        rw [k4 rfl]
        first | done | exact Sub.refl _
    · rw [if_neg h1]
      have h2 := hr 0 (by omega)
      rw [List.drop_eq_nil_of_le (by omega), vals_nil, Nat.add_zero] at h2
      rw [← h2]
theorem rval_calm : ∀ args sc res, F_val args = some (sc, res) → sc → Calm Try.prog 15 args res := by
  intro args sc res h hs
  unfold F_val at h
  split at h <;> cases h
  rename_i xs
  obtain ⟨h1, h2, h3⟩ := hs
  have hq := rval_body (xs.map numOf) h2 (by simpa using h3)
  rw [bytesD, ← h1, List.length_map] at hq
  exact known_G_rval.calm mixed rfl rfl hq
end Go.Proofs.Ytlhhibhcoefolaa.Eng
