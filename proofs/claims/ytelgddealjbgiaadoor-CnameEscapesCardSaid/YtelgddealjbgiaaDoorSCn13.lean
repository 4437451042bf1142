/- The input of a style sheet, read by the reference, on the small machine. -/
import Derived.Test.YtelgddealjbgiaaDoorSCn12
import Derived.Test.YtelgddealjbgiaaDoorCinput
namespace Go.Proofs.YtelgddealjbgiaaDoor.Eng
open Go Go.Proofs.YtelgddealjbgiaaDoor.Base Go.Proofs.YtelgddealjbgiaaDoor.Cinput
set_option maxRecDepth 100000
set_option linter.unusedSimpArgs false
set_option linter.unusedVariables false
theorem getD_rD (l : List (Int × Int)) (n : Nat) : (l.map rD).getD n [.v (.int .i64 0), .v (.int .i64 0)] = rD (l.getD n (0, 0)) := by
  simp only [List.getD_eq_getElem?_getD, List.getElem?_map]
  cases l[n]? <;> rfl
def F_Runes : List AV → Option (Prop × AV)
  | [.d (.sl 1 xs)] => some (xs = (xs.map numOf).map (iD .u8) ∧ Bytes (xs.map numOf) ∧ xs.length ≤ 1000000000, .d (runesD (runes xs.length (xs.map numOf) 0)))
  | _ => none
theorem cin_step {l : List Int} {i k : Nat} {o : List (Int × Int)} {x : Int × Int} {tot : List (Int × Int)} (hb : Bytes l) (hk : 1 ≤ k) (h : ∀ n, l.length - i ≤ n → o ++ runes n (l.drop i) i = tot)
    (e : ∀ n, runes (n + 1) (l.drop i) i = x :: runes n (l.drop (i + k)) ((i + k : Nat) : Int)) : ∀ n, l.length - (i + k) ≤ n → (o ++ [x]) ++ runes n (l.drop (i + k)) ((i + k : Nat) : Int) = tot := fun n hn => by
  have h1 := h (n + k + 1) (by omega)
  rw [e, runes_fuel n (n + k) _ _ (hb.drop _) (by rw [List.length_drop]; omega) (by omega)] at h1
  rw [List.append_assoc, List.singleton_append]
  exact h1
theorem Runes_body (l : List Int) (hb : Bytes l) (hl : l.length ≤ 1000000000) : Body Tryd.prog G_pts (DRun Tryd.prog G_pts) 25 [.d (bytesD l)] (.d (runesD (runes l.length l 0))) := by
  refine Body.of Tryd.func25 Tryd.ntmps25 (by kernel_rfl) rfl rfl rfl ?_
  simp only [intsD, bytesD, G_pts_at, calmE, F_Next, AV.flat, AV.flat.flatL, getD_iD, iD, num_iD, List.length_map, goTG_val, goTG_new, goTG_up, goTG_none, goG_none, goG_new, goG_up, ne_eq, evK, evH, retHF, DRun_mk, runT_nil, runT_none, runT_guard, goT_val, goT_new, goT_store, goTH_true, goTH_false, evO, keys, Option.toList_some, Option.toList_none, nzL_nil, nzL_cons, nz_k, nz_sl, nz_nil, nz_agg, startL, evC, evV, goE_val, goE_new, goE_store, goH_true, goH_false, goG_val, lk_cons, lk_nil, lk_func, lk_int, lk_bool, lk_string, lk_slice, lk_agg, look_mk, St.effOf, eff, effCall, effBinC, isConst, effBin, effUn, effConv, effPick, effNil, effFold, fold1, effLoad, effStore, effFieldAddr, effField, fieldOf, sliceOf, effIndexAddr, effIndex, effLen, effExtract, effSlice, dats, bnd, effBuild, placesOf, effBuildSlice, effMakeSlice, effAppend, srcOf, fillA, chunk, seg, toD, toDs, put, eqAV, fieldsEq, leafEq, strip, unw, allB, selP_or, selP_and, tis, TyD.agg, AV.cells, AV.cell, allCell, vInt, vBool, vStr, subL_nil, subL_cons, upIds, AV.ids, AV.ids.idsL, AObj.ids, drops, Hp.get_cons, get_nil, retF, resL, one, fz, fz.fzL, List.map_cons, List.map_nil, List.nil_append, List.append_nil, List.cons_append, List.all_cons, List.all_nil, List.length_cons, List.length_nil, List.getElem?_cons_zero, List.getElem?_cons_succ, List.getD_cons_zero, List.getD_cons_succ, List.take_succ_cons, List.take_zero, List.drop_succ_cons, List.drop_zero, List.take_nil, List.drop_nil, List.contains_cons, List.contains_nil, Option.getD_some, Option.getD_none, Option.map_some, Option.map_none, if_true, if_false, true_and, and_true, and_self, or_self, or_false, false_or, false_and, and_false, reduceCtorEq, sel_and, sel_or, decide_eq_true_eq, Bool.and_eq_true, Bool.or_eq_true, Bool.and_true, Bool.true_and, Bool.or_false, Bool.false_or, Bool.true_or, Bool.or_true, Bool.not_true, Bool.not_false, Bool.false_eq_true, implies_true, not_false_eq_true, Nat.reduceLT, Nat.reduceEqDiff, Nat.reduceAdd, Nat.reduceMul, Nat.reduceMod, Nat.reduceLeDiff, Nat.reduceBEq, Nat.zero_add, Nat.add_zero, reduceIte, ↓reduceIte, List.not_mem_nil]
  refine wpc_loop (fun p : List (Int × Int) × Nat => ⟨53, [100], [(3, .row 100 p.1.length), (0, .d (bytesD l)), (4, vInt .i64 p.2)], [(100, some (.row 41 2 (p.1.map rD)))]⟩)
    (fun p => p.2 ≤ l.length ∧ p.1.length ≤ p.2 ∧ ∀ n, l.length - p.2 ≤ n → p.1 ++ runes n (l.drop p.2) p.2 = runes l.length l 0) (fun p => l.length - p.2) ([], 0) ⟨Nat.zero_le _, Nat.le_refl _, fun n hn => ?_⟩ ?_ ?_
  · rw [List.nil_append, List.drop_zero]
    exact runes_fuel _ _ _ _ hb (Nat.le_refl _) hn
  · refine Le.of id [100] ?_
    simp only [bytesD, List.length_nil, List.length_map, Mt_tup, Mt_agg, Mt_fn, forall_eq, forall_eq_or_imp, ne_eq, List.all_cons, List.all_nil, pr, Nat.reduceLeDiff, slR_nil, slR_cons, hpR_nil, hpR_cells, hpR_row, idsR_nil, idsR_cons, mtE_v, mtE_sl, mtE_nil, mtE_refl, mtE_row, mtE_born, mtE_ptr, mtE_rp, mtE_agg, mtE_tup, mtE_fn, mtE_ep, MtL_nil, MtL_cons, Mt_v, Mt_sl, Mt_nil, Mt_refl, Mt_row, Mt_born, Mt_ptr, MtO_cells, MtO_row, liveIds, distinct, Dat.v.injEq, Dat.sl.injEq, Value.int.injEq, Value.bool.injEq, Value.string.injEq, lk_cons, lk_nil, subL_nil, subL_cons, upIds, AV.ids, AV.ids.idsL, AObj.ids, Hp.get_cons, get_nil, allCell, AV.cell, vInt, vBool, vStr, id, true_and, and_true, and_self, List.append_nil, List.nil_append, List.not_mem_nil, List.mem_cons, or_false, false_or, or_self, not_true_eq_false, not_false_eq_true, false_imp_iff, false_implies, List.map_nil, not_false_eq_true, List.contains_cons, List.contains_nil, Bool.or_false, Bool.false_or, Bool.true_or, Bool.or_true, Bool.and_true, Bool.true_and, implies_true, if_true, if_false, reduceCtorEq, Nat.reduceEqDiff, Nat.reduceBEq, Nat.reduceAdd, reduceIte, ↓reduceIte]
    rfl
  · rintro ⟨o, i⟩ ⟨hi, ho, hr⟩
    simp only [intsD, bytesD, G_pts_at, calmE, F_Next, AV.flat, AV.flat.flatL, getD_iD, iD, num_iD, List.length_map, goTG_val, goTG_new, goTG_up, goTG_none, goG_none, goG_new, goG_up, ne_eq, evK, evH, retHF, DRun_mk, runT_nil, runT_none, runT_guard, goT_val, goT_new, goT_store, goTH_true, goTH_false, evO, keys, Option.toList_some, Option.toList_none, nzL_nil, nzL_cons, nz_k, nz_sl, nz_nil, nz_agg, startL, evC, evV, goE_val, goE_new, goE_store, goH_true, goH_false, goG_val, lk_cons, lk_nil, lk_func, lk_int, lk_bool, lk_string, lk_slice, lk_agg, look_mk, St.effOf, eff, effCall, effBinC, isConst, effBin, effUn, effConv, effPick, effNil, effFold, fold1, effLoad, effStore, effFieldAddr, effField, fieldOf, sliceOf, effIndexAddr, effIndex, effLen, effExtract, effSlice, dats, bnd, effBuild, placesOf, effBuildSlice, effMakeSlice, effAppend, srcOf, fillA, chunk, seg, toD, toDs, put, eqAV, fieldsEq, leafEq, strip, unw, allB, selP_or, selP_and, tis, TyD.agg, AV.cells, AV.cell, allCell, vInt, vBool, vStr, subL_nil, subL_cons, upIds, AV.ids, AV.ids.idsL, AObj.ids, drops, Hp.get_cons, get_nil, retF, resL, one, fz, fz.fzL, List.map_cons, List.map_nil, List.nil_append, List.append_nil, List.cons_append, List.all_cons, List.all_nil, List.length_cons, List.length_nil, List.getElem?_cons_zero, List.getElem?_cons_succ, List.getD_cons_zero, List.getD_cons_succ, List.take_succ_cons, List.take_zero, List.drop_succ_cons, List.drop_zero, List.take_nil, List.drop_nil, List.contains_cons, List.contains_nil, Option.getD_some, Option.getD_none, Option.map_some, Option.map_none, if_true, if_false, true_and, and_true, and_self, or_self, or_false, false_or, false_and, and_false, reduceCtorEq, sel_and, sel_or, decide_eq_true_eq, Bool.and_eq_true, Bool.or_eq_true, Bool.and_true, Bool.true_and, Bool.or_false, Bool.false_or, Bool.true_or, Bool.or_true, Bool.not_true, Bool.not_false, Bool.false_eq_true, implies_true, not_false_eq_true, Nat.reduceLT, Nat.reduceEqDiff, Nat.reduceAdd, Nat.reduceMul, Nat.reduceMod, Nat.reduceLeDiff, Nat.reduceBEq, Nat.zero_add, Nat.add_zero, reduceIte, ↓reduceIte, List.not_mem_nil]
    simp only [] at hi ho hr
    by_cases h1 : (i : Int) < l.length
    · rw [if_pos h1]
      refine ⟨⟨hb, by omega⟩, ?_⟩
      have hne : l.drop i ≠ [] := by
        intro h
        have := List.drop_eq_nil_iff.mp h
        omega
      have hd := Utf.dec_len (hb.drop i) hne
      rw [List.length_drop] at hd
      have hnx : Utf.nx l i = Utf.dec (l.drop i) := by rw [Utf.nx, if_neg (by omega), Int.toNat_natCast]
      rw [hnx]
      have one := fun h13 n => runes_one (n := n) (i := (i : Int)) hne h13
      have pair := fun h13 n => runes_pair (n := n) (i := (i : Int)) hne h13
      generalize Utf.dec (l.drop i) = q at hd one pair ⊢
      obtain ⟨r, n, ok⟩ := q
      simp only [] at hd one pair ⊢
      obtain ⟨k, rfl⟩ := Int.eq_ofNat_of_zero_le (show 0 ≤ n by omega)
      have ew : IntKind.i64.wrap ((i : Int) + (k : Int)) = ((i + k : Nat) : Int) := by rw [w64 (by omega) (by omega)]; omega
      have hk1 : 1 ≤ k := by omega
      have hk2 : i + k ≤ l.length := by omega
      simp only [ew, Int.toNat_natCast, List.drop_drop] at one pair ⊢
      have solo : ∀ y : Int, ¬ (r = 13 ∧ (l.drop (i + k)).head? = some 10) → cr r = y →
          ∃ b : List (Int × Int) × Nat, l.length - b.2 < l.length - i ∧ (b.2 ≤ l.length ∧ b.1.length ≤ b.2 ∧ ∀ n, l.length - b.2 ≤ n → b.1 ++ runes n (l.drop b.2) b.2 = runes l.length l 0) ∧ b.1 = o ++ [(y, (i : Int))] ∧ b.2 = i + k := fun y h13 hy =>
        ⟨(o ++ [(y, (i : Int))], i + k), by simp only []; omega, ⟨hk2, by simp only [List.length_append, List.length_singleton]; omega, cin_step hb hk1 hr fun n => by rw [one h13, hy]; rfl⟩, rfl, rfl⟩
      by_cases c0 : r = 0
      · subst c0
        rw [if_pos (by decide)]
        refine ⟨by omega, ?_⟩
        obtain ⟨b, q1, q2, q3, q4⟩ := solo 65533 (fun h => by omega) rfl
        refine ⟨b, q1, q2, Le.of (fun _ => 51) [] ?_⟩
        simp only [q3, q4, rD, List.map_append, List.map_cons, List.length_append, List.length_map, List.length_cons, List.length_nil, Mt_tup, Mt_agg, Mt_fn, forall_eq, forall_eq_or_imp, ne_eq, List.all_cons, List.all_nil, pr, Nat.reduceLeDiff, slR_nil, slR_cons, hpR_nil, hpR_cells, hpR_row, idsR_nil, idsR_cons, mtE_v, mtE_sl, mtE_nil, mtE_refl, mtE_row, mtE_born, mtE_ptr, mtE_rp, mtE_agg, mtE_tup, mtE_fn, mtE_ep, MtL_nil, MtL_cons, Mt_v, Mt_sl, Mt_nil, Mt_refl, Mt_row, Mt_born, Mt_ptr, MtO_cells, MtO_row, liveIds, distinct, Dat.v.injEq, Dat.sl.injEq, Value.int.injEq, Value.bool.injEq, Value.string.injEq, lk_cons, lk_nil, subL_nil, subL_cons, upIds, AV.ids, AV.ids.idsL, AObj.ids, Hp.get_cons, get_nil, allCell, AV.cell, vInt, vBool, vStr, id, true_and, and_true, and_self, List.append_nil, List.nil_append, List.not_mem_nil, List.mem_cons, or_false, false_or, or_self, not_true_eq_false, not_false_eq_true, false_imp_iff, false_implies, List.map_nil, not_false_eq_true, List.contains_cons, List.contains_nil, Bool.or_false, Bool.false_or, Bool.true_or, Bool.or_true, Bool.and_true, Bool.true_and, implies_true, if_true, if_false, reduceCtorEq, Nat.reduceEqDiff, Nat.reduceBEq, Nat.reduceAdd, reduceIte, ↓reduceIte]
      · rw [if_neg (by simpa using c0)]
        by_cases c12 : r = 12
        · subst c12
          rw [if_pos (by decide)]
          refine ⟨by omega, ?_⟩
          obtain ⟨b, q1, q2, q3, q4⟩ := solo 10 (fun h => by omega) rfl
          refine ⟨b, q1, q2, Le.of (fun _ => 51) [] ?_⟩
          simp only [q3, q4, rD, List.map_append, List.map_cons, List.length_append, List.length_map, List.length_cons, List.length_nil, Mt_tup, Mt_agg, Mt_fn, forall_eq, forall_eq_or_imp, ne_eq, List.all_cons, List.all_nil, pr, Nat.reduceLeDiff, slR_nil, slR_cons, hpR_nil, hpR_cells, hpR_row, idsR_nil, idsR_cons, mtE_v, mtE_sl, mtE_nil, mtE_refl, mtE_row, mtE_born, mtE_ptr, mtE_rp, mtE_agg, mtE_tup, mtE_fn, mtE_ep, MtL_nil, MtL_cons, Mt_v, Mt_sl, Mt_nil, Mt_refl, Mt_row, Mt_born, Mt_ptr, MtO_cells, MtO_row, liveIds, distinct, Dat.v.injEq, Dat.sl.injEq, Value.int.injEq, Value.bool.injEq, Value.string.injEq, lk_cons, lk_nil, subL_nil, subL_cons, upIds, AV.ids, AV.ids.idsL, AObj.ids, Hp.get_cons, get_nil, allCell, AV.cell, vInt, vBool, vStr, id, true_and, and_true, and_self, List.append_nil, List.nil_append, List.not_mem_nil, List.mem_cons, or_false, false_or, or_self, not_true_eq_false, not_false_eq_true, false_imp_iff, false_implies, List.map_nil, not_false_eq_true, List.contains_cons, List.contains_nil, Bool.or_false, Bool.false_or, Bool.true_or, Bool.or_true, Bool.and_true, Bool.true_and, implies_true, if_true, if_false, reduceCtorEq, Nat.reduceEqDiff, Nat.reduceBEq, Nat.reduceAdd, reduceIte, ↓reduceIte]
        · rw [if_neg (by simpa using c12)]
          by_cases c13 : r = 13
          · subst c13
            rw [if_pos (by decide)]
            refine ⟨fun h => ⟨by omega, h⟩, ?_⟩
            by_cases ch : (l.drop (i + k)).head? = some 10
            · rw [List.head?_drop] at ch
              have hlt : i + k < l.length := (List.getElem?_eq_some_iff.mp ch).1
              rw [if_pos ⟨by omega, by rw [List.getD_eq_getElem?_getD, ch]; rfl⟩]
              refine ⟨by omega, (o ++ [(10, (i : Int))], i + (k + 1)), by simp only []; omega, ⟨by simp only []; omega, by simp only [List.length_append, List.length_singleton]; omega, cin_step hb (by omega) hr fun n => ?_⟩, Le.of (fun _ => 51) [] ?_⟩
              · rw [pair ⟨rfl, by rw [List.head?_drop]; exact ch⟩, Nat.add_assoc]
                congr 2
              · simp only [rD, List.map_append, List.map_cons, List.length_append, List.length_map, List.length_cons, List.length_nil, Mt_tup, Mt_agg, Mt_fn, forall_eq, forall_eq_or_imp, ne_eq, List.all_cons, List.all_nil, pr, Nat.reduceLeDiff, slR_nil, slR_cons, hpR_nil, hpR_cells, hpR_row, idsR_nil, idsR_cons, mtE_v, mtE_sl, mtE_nil, mtE_refl, mtE_row, mtE_born, mtE_ptr, mtE_rp, mtE_agg, mtE_tup, mtE_fn, mtE_ep, MtL_nil, MtL_cons, Mt_v, Mt_sl, Mt_nil, Mt_refl, Mt_row, Mt_born, Mt_ptr, MtO_cells, MtO_row, liveIds, distinct, Dat.v.injEq, Dat.sl.injEq, Value.int.injEq, Value.bool.injEq, Value.string.injEq, lk_cons, lk_nil, subL_nil, subL_cons, upIds, AV.ids, AV.ids.idsL, AObj.ids, Hp.get_cons, get_nil, allCell, AV.cell, vInt, vBool, vStr, id, true_and, and_true, and_self, List.append_nil, List.nil_append, List.not_mem_nil, List.mem_cons, or_false, false_or, or_self, not_true_eq_false, not_false_eq_true, false_imp_iff, false_implies, List.map_nil, not_false_eq_true, List.contains_cons, List.contains_nil, Bool.or_false, Bool.false_or, Bool.true_or, Bool.or_true, Bool.and_true, Bool.true_and, implies_true, if_true, if_false, reduceCtorEq, Nat.reduceEqDiff, Nat.reduceBEq, Nat.reduceAdd, reduceIte, ↓reduceIte]
                rw [w64 (by omega) (by omega)]
                omega
            · have ch' := ch
              rw [List.head?_drop] at ch'
              rw [if_neg (by
                rintro ⟨h2, h3⟩
                apply ch'
                rw [List.getD_eq_getElem?_getD, List.getElem?_eq_getElem (show i + k < l.length by omega)] at h3
                rw [List.getElem?_eq_getElem (show i + k < l.length by omega)]
                simpa using h3)]
              refine ⟨by omega, ?_⟩
              obtain ⟨b, q1, q2, q3, q4⟩ := solo 10 (fun h => ch h.2) rfl
              refine ⟨b, q1, q2, Le.of (fun _ => 51) [] ?_⟩
              simp only [q3, q4, rD, List.map_append, List.map_cons, List.length_append, List.length_map, List.length_cons, List.length_nil, Mt_tup, Mt_agg, Mt_fn, forall_eq, forall_eq_or_imp, ne_eq, List.all_cons, List.all_nil, pr, Nat.reduceLeDiff, slR_nil, slR_cons, hpR_nil, hpR_cells, hpR_row, idsR_nil, idsR_cons, mtE_v, mtE_sl, mtE_nil, mtE_refl, mtE_row, mtE_born, mtE_ptr, mtE_rp, mtE_agg, mtE_tup, mtE_fn, mtE_ep, MtL_nil, MtL_cons, Mt_v, Mt_sl, Mt_nil, Mt_refl, Mt_row, Mt_born, Mt_ptr, MtO_cells, MtO_row, liveIds, distinct, Dat.v.injEq, Dat.sl.injEq, Value.int.injEq, Value.bool.injEq, Value.string.injEq, lk_cons, lk_nil, subL_nil, subL_cons, upIds, AV.ids, AV.ids.idsL, AObj.ids, Hp.get_cons, get_nil, allCell, AV.cell, vInt, vBool, vStr, id, true_and, and_true, and_self, List.append_nil, List.nil_append, List.not_mem_nil, List.mem_cons, or_false, false_or, or_self, not_true_eq_false, not_false_eq_true, false_imp_iff, false_implies, List.map_nil, not_false_eq_true, List.contains_cons, List.contains_nil, Bool.or_false, Bool.false_or, Bool.true_or, Bool.or_true, Bool.and_true, Bool.true_and, implies_true, if_true, if_false, reduceCtorEq, Nat.reduceEqDiff, Nat.reduceBEq, Nat.reduceAdd, reduceIte, ↓reduceIte]
          · rw [if_neg (by simpa using c13)]
            refine ⟨by omega, ?_⟩
            obtain ⟨b, q1, q2, q3, q4⟩ := solo r (fun h => c13 h.1) (by unfold cr; rw [if_neg c0, if_neg c12, if_neg c13])
            refine ⟨b, q1, q2, Le.of (fun _ => 51) [] ?_⟩
            simp only [q3, q4, rD, List.map_append, List.map_cons, List.length_append, List.length_map, List.length_cons, List.length_nil, Mt_tup, Mt_agg, Mt_fn, forall_eq, forall_eq_or_imp, ne_eq, List.all_cons, List.all_nil, pr, Nat.reduceLeDiff, slR_nil, slR_cons, hpR_nil, hpR_cells, hpR_row, idsR_nil, idsR_cons, mtE_v, mtE_sl, mtE_nil, mtE_refl, mtE_row, mtE_born, mtE_ptr, mtE_rp, mtE_agg, mtE_tup, mtE_fn, mtE_ep, MtL_nil, MtL_cons, Mt_v, Mt_sl, Mt_nil, Mt_refl, Mt_row, Mt_born, Mt_ptr, MtO_cells, MtO_row, liveIds, distinct, Dat.v.injEq, Dat.sl.injEq, Value.int.injEq, Value.bool.injEq, Value.string.injEq, lk_cons, lk_nil, subL_nil, subL_cons, upIds, AV.ids, AV.ids.idsL, AObj.ids, Hp.get_cons, get_nil, allCell, AV.cell, vInt, vBool, vStr, id, true_and, and_true, and_self, List.append_nil, List.nil_append, List.not_mem_nil, List.mem_cons, or_false, false_or, or_self, not_true_eq_false, not_false_eq_true, false_imp_iff, false_implies, List.map_nil, not_false_eq_true, List.contains_cons, List.contains_nil, Bool.or_false, Bool.false_or, Bool.true_or, Bool.or_true, Bool.and_true, Bool.true_and, implies_true, if_true, if_false, reduceCtorEq, Nat.reduceEqDiff, Nat.reduceBEq, Nat.reduceAdd, reduceIte, ↓reduceIte]
    · rw [if_neg h1]
      have h2 := hr 0 (by omega)
      rw [List.drop_eq_nil_of_le (by omega), runes_nil, List.append_nil] at h2
      rw [h2]; rfl
theorem Runes_calm : ∀ args sc res, F_Runes args = some (sc, res) → sc → Calm Tryd.prog 25 args res := by
  intro args sc res h hs
  unfold F_Runes at h
  split at h <;> cases h
  rename_i xs
  obtain ⟨h1, h2, h3⟩ := hs
  have hb := Runes_body (xs.map numOf) h2 (by simpa using h3)
  rw [bytesD, ← h1, List.length_map] at hb
  exact known_pts.calm mixed rfl rfl hb
end Go.Proofs.YtelgddealjbgiaaDoor.Eng
