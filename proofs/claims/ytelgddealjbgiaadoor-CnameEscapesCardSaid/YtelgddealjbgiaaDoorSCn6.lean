/- Texts in marks, on the small machine. -/
import Derived.Test.YtelgddealjbgiaaDoorSCn5
namespace Go.Proofs.YtelgddealjbgiaaDoor.Eng
open Go Go.Proofs.YtelgddealjbgiaaDoor.Base
set_option maxRecDepth 100000
set_option linter.unusedSimpArgs false
set_option linter.unusedVariables false
/-- Would the text ahead go on with a number. -/
def aheadQ : List Int → Prop
  | [] => False
  | x :: _ => hexP x ∨ blankC x ∨ x = 12 ∨ x = 13
instance (l : List Int) : Decidable (aheadQ l) := by cases l <;> (unfold aheadQ; infer_instance)
/-- One code point in marks. -/
def quo1 (g r : Int) (l : List Int) : List Int := if r = g ∨ r = 92 then 92 :: Utf.put r else if r = 10 ∨ r = 12 ∨ r = 13 then numL r ++ (if aheadQ l then [32] else []) else if r = 0 then Utf.put 65533 else Utf.put r
def quoL (g : Int) : List Int → List Int
  | [] => []
  | r :: l => quo1 g r l ++ quoL g l
def quoted (g : Int) (l : List Int) : List Int := g :: quoL g (alls l.length l) ++ [g]
theorem quo1_le (g r : Int) (l : List Int) : (quo1 g r l).length ≤ 6 := by
  have h1 := put_le r
  have h2 := put_le 65533
  have h3 := numL_le r
  unfold quo1
  repeat' split
  all_goals
    try simp only [List.length_append, List.length_cons, List.length_nil]
    omega
def F_quo : List AV → Option (Prop × AV)
  | [.d (.v (.string s)), .d (.v (.int .i64 g))] => some (s.size ≤ 1000000000 ∧ (g = 34 ∨ g = 39), vStr (strOfNums (quoted g (sB s))))
  | _ => none
noncomputable def G_quo : Gam := (((((((Gam.none.addH 42 F_ws).addH 60 F_wr).addH 44 F_str).add 41 fun a => F_All (NT.nz.nzL [] a)).add 39 fun a => F_num (NT.nz.nzL [] a)).add 48 fun a => F_hexc (NT.nz.nzL [] a)).add 50 fun a => F_blankc (NT.nz.nzL [] a)).add 29 fun a => F_Text (NT.nz.nzL [.s 1] a)
theorem gok_quo : Gok Tryd.prog G_quo := by
  refine (((((str_ok (wr_ok (ws_ok (Known.none _).ok))).add fun args sc res h hs _ => ?_).add fun args sc res h hs _ => ?_).add fun args sc res h hs _ => ?_).add fun args sc res h hs _ => ?_).add fun args sc res h hs _ => ?_
  · exact (All_calm _ sc res h hs).nz
  · exact (num_calm _ sc res h hs).nz
  · exact (hexI_calm _ sc res h hs).nz
  · exact (blankI_calm _ sc res h hs).nz
  · exact (Text_calm _ sc res h hs).nz
theorem G_quo_at : (∀ h d a, G_quo 42 h d a = F_ws h d a) ∧ (∀ h d a, G_quo 60 h d a = F_wr h d a) ∧ (∀ h d a, G_quo 44 h d a = F_str h d a) ∧ (∀ h d a, G_quo 41 h d a = calmE (fun a => F_All (NT.nz.nzL [] a)) h a) ∧ (∀ h d a, G_quo 39 h d a = calmE (fun a => F_num (NT.nz.nzL [] a)) h a) ∧ (∀ h d a, G_quo 48 h d a = calmE (fun a => F_hexc (NT.nz.nzL [] a)) h a) ∧ (∀ h d a, G_quo 50 h d a = calmE (fun a => F_blankc (NT.nz.nzL [] a)) h a) ∧ (∀ h d a, G_quo 29 h d a = calmE (fun a => F_Text (NT.nz.nzL [.s 1] a)) h a) := ⟨fun _ _ _ => rfl, fun _ _ _ => rfl, fun _ _ _ => rfl, fun _ _ _ => rfl, fun _ _ _ => rfl, fun _ _ _ => rfl, fun _ _ _ => rfl, fun _ _ _ => rfl⟩
theorem quo_body (s : ByteArray) (g : Int) (hl : s.size ≤ 1000000000) (hgs : g = 34 ∨ g = 39) : Body Tryd.prog G_quo (DRun Tryd.prog Gam.none) 45 [vStr s, vInt .i64 g] (vStr (strOfNums (quoted g (sB s)))) := by
  refine Body.of Tryd.func45 Tryd.ntmps45 (by kernel_rfl) rfl rfl rfl ?_
  have hn := sB_len s
  have wg : IntKind.i32.wrap g = g := by rcases hgs with rfl | rfl <;> decide
  simp only [intsD, wg, G_quo_at, calmE, F_All, F_num, F_hexc, F_blankc, F_Text, F_ws, F_wr, F_str, AV.flat, AV.flat.flatL, List.length_map, Int.reduceLE, Int.reduceLT, Int.reduceGT, Int.reduceGE, Int.reduceBEq, Int.reduceBNe, Int.reduceEq, Int.reduceToNat, Int.reduceSub, Int.reduceAdd, Int.reduceMul, Int.reducePow, goTG_val, goTG_new, goTG_up, goTG_none, goG_none, goG_new, goG_up, ne_eq, evK, evH, retHF, DRun_mk, runT_nil, runT_none, runT_guard, goT_val, goT_new, goT_store, goTH_true, goTH_false, evO, keys, Option.toList_some, Option.toList_none, nzL_nil, nzL_cons, nz_k, nz_sl, nz_nil, nz_agg, startL, evC, evV, goE_val, goE_new, goE_store, goH_true, goH_false, goG_val, lk_cons, lk_nil, lk_func, lk_int, lk_bool, lk_string, lk_slice, lk_agg, look_mk, St.effOf, eff, effCall, effBinC, isConst, effBin, effUn, effConv, effPick, effNil, effFold, fold1, effLoad, effStore, effFieldAddr, effField, fieldOf, sliceOf, effIndexAddr, effIndex, effLen, effExtract, effSlice, dats, bnd, effBuild, placesOf, effBuildSlice, effMakeSlice, effAppend, srcOf, fillA, chunk, seg, toD, toDs, put, eqAV, fieldsEq, leafEq, strip, unw, allB, selP_or, selP_and, tis, TyD.agg, AV.cells, AV.cell, allCell, vInt, vBool, vStr, subL_nil, subL_cons, upIds, AV.ids, AV.ids.idsL, AObj.ids, drops, Hp.get_cons, get_nil, retF, resL, one, fz, fz.fzL, List.map_cons, List.map_nil, List.nil_append, List.append_nil, List.cons_append, List.all_cons, List.all_nil, List.length_cons, List.length_nil, List.getElem?_cons_zero, List.getElem?_cons_succ, List.getD_cons_zero, List.getD_cons_succ, List.take_succ_cons, List.take_zero, List.drop_succ_cons, List.drop_zero, List.take_nil, List.drop_nil, List.contains_cons, List.contains_nil, Option.getD_some, Option.getD_none, Option.map_some, Option.map_none, if_true, if_false, true_and, and_true, and_self, or_self, or_false, false_or, false_and, and_false, reduceCtorEq, sel_and, sel_or, decide_eq_true_eq, Bool.and_eq_true, Bool.or_eq_true, Bool.and_true, Bool.true_and, Bool.or_false, Bool.false_or, Bool.true_or, Bool.or_true, Bool.not_true, Bool.not_false, Bool.false_eq_true, implies_true, not_false_eq_true, Nat.reduceLT, Nat.reduceEqDiff, Nat.reduceAdd, Nat.reduceMul, Nat.reduceMod, Nat.reduceLeDiff, Nat.reduceBEq, Nat.zero_add, Nat.add_zero, reduceIte, ↓reduceIte, List.not_mem_nil]
  refine ⟨by rcases hgs with rfl | rfl <;> decide, by omega, ?_⟩
  have hpr := alls_range s.size (sB s) (sB_bytes s)
  have hpl := alls_len s.size (sB s)
  unfold quoted
  rw [hn]
  generalize alls s.size (sB s) = ps at hpr hpl ⊢
  refine wpc_loop (fun q : Nat × List Int => ⟨101, [105, 100], [(1, vInt .i64 g), (5, .ptr 105 0), (6, .d (intsD ps)), (14, .d (intsD ps)), (15, vInt .i64 ps.length), (16, vInt .i64 q.1)], [(105, some (.cells 53 [.ptr 105 0, .row 100 ((u8s q.2).map byteRow).length])), (100, some (.row 5 1 ((u8s q.2).map byteRow)))]⟩) (fun q => q.1 ≤ ps.length ∧ q.2.length ≤ 6 * q.1 + 1 ∧ g :: quoL g ps = q.2 ++ quoL g (ps.drop q.1)) (fun q => ps.length - q.1) (0, [g]) ⟨Nat.zero_le _, Nat.le_refl _, rfl⟩ ?_ ?_
  · refine Le.of (fun o => if o = 100 then 11 else 5) [] ?_
    simp only [intsD, u8s, List.map_cons, List.map_nil, List.length_cons, List.length_nil, Mt_tup, Mt_agg, Mt_fn, forall_eq, forall_eq_or_imp, ne_eq, List.all_cons, List.all_nil, pr, Nat.reduceLeDiff, slR_nil, slR_cons, hpR_nil, hpR_cells, hpR_row, idsR_nil, idsR_cons, mtE_v, mtE_sl, mtE_nil, mtE_refl, mtE_row, mtE_born, mtE_ptr, mtE_rp, mtE_agg, mtE_tup, mtE_fn, mtE_ep, MtL_nil, MtL_cons, Mt_v, Mt_sl, Mt_nil, Mt_refl, Mt_row, Mt_born, Mt_ptr, MtO_cells, MtO_row, liveIds, distinct, Dat.v.injEq, Dat.sl.injEq, Value.int.injEq, Value.bool.injEq, Value.string.injEq, lk_cons, lk_nil, subL_nil, subL_cons, upIds, AV.ids, AV.ids.idsL, AObj.ids, Hp.get_cons, get_nil, allCell, AV.cell, vInt, vBool, vStr, id, true_and, and_true, and_self, List.append_nil, List.nil_append, List.not_mem_nil, List.mem_cons, or_false, false_or, or_self, not_true_eq_false, not_false_eq_true, false_imp_iff, false_implies, List.map_nil, not_false_eq_true, List.contains_cons, List.contains_nil, Bool.or_false, Bool.false_or, Bool.true_or, Bool.or_true, Bool.and_true, Bool.true_and, implies_true, if_true, if_false, reduceCtorEq, Nat.reduceEqDiff, Nat.reduceBEq, Nat.reduceAdd, reduceIte, ↓reduceIte]
    refine ⟨rfl, ?_, rfl⟩
    rcases hgs with rfl | rfl <;> rfl
  · rintro ⟨j, o⟩ ⟨hj, ho, he⟩
    simp only [] at hj ho he
    by_cases hj2 : (j : Int) < ps.length
    · obtain ⟨p, hp⟩ : ∃ p, ps[j]? = some p := ⟨_, List.getElem?_eq_getElem (by omega)⟩
      have hg : ps.getD (j : Int).toNat 0 = p := by rw [Int.toNat_natCast, List.getD_eq_getElem?_getD, hp]; rfl
      have h3 := hpr p (List.mem_of_getElem? hp)
      have ew : IntKind.i64.wrap ((j : Int) + 1) = ((j + 1 : Nat) : Int) := by rw [w64 (by omega) (by omega)]; omega
      have ep : ∀ x, strOfNums (puts [x]) = ⟨(u8s (Utf.put x)).toArray⟩ := fun x => by rw [str_u8s]; simp [puts]
      have e92 : ∀ l : List Int, (⟨#[92]⟩ : ByteArray) ++ ⟨(u8s l).toArray⟩ = ⟨(u8s (92 :: l)).toArray⟩ := fun l => by rw [← str_u8s, ← str_u8s, show (92 : Int) :: l = [92] ++ l from rfl, str_append]; rfl
      have step : ∀ w, quo1 g p (ps.drop (j + 1)) = w → (j + 1 ≤ ps.length ∧ (o ++ w).length ≤ 6 * (j + 1) + 1 ∧ g :: quoL g ps = (o ++ w) ++ quoL g (ps.drop (j + 1))) := fun w hw => by
        refine ⟨by omega, ?_, ?_⟩
        · have := quo1_le g p (ps.drop (j + 1))
          rw [hw] at this
          rw [List.length_append]; omega
        · rw [he, drop_at hp, quoL, hw, List.append_assoc]
      have haq : aheadQ (ps.drop (j + 1)) ↔ (((j + 1 : Nat) : Int) < ps.length ∧ (hexP (ps.getD (j + 1) 0) ∨ blankC (ps.getD (j + 1) 0) ∨ ps.getD (j + 1) 0 = 12 ∨ ps.getD (j + 1) 0 = 13)) := by
        cases hx : ps[j + 1]? with
        | none =>
          have hlen := List.getElem?_eq_none_iff.mp hx
          rw [List.drop_eq_nil_of_le hlen]
          constructor
          · intro h; exact h.elim
          · intro h; omega
        | some x =>
          have hlen := (List.getElem?_eq_some_iff.mp hx).1
          rw [drop_at hx, List.getD_eq_getElem?_getD, hx]
          constructor
          · intro h; exact ⟨by omega, h⟩
          · intro h; exact h.2
      have hsn : strOfNums (numL p) = ⟨(u8s (numL p)).toArray⟩ := rfl
      have hgp : ((j + 1 : Nat) : Int).toNat = j + 1 := Int.toNat_natCast _
      simp only [intsD, getD_iD, hg, iD, numOf, wg, ew, ep, e92, hgp, hsn, ba_size, u8s_len, G_quo_at, calmE, F_All, F_num, F_hexc, F_blankc, F_Text, F_ws, F_wr, F_str, AV.flat, AV.flat.flatL, List.length_map, Int.reduceLE, Int.reduceLT, Int.reduceGT, Int.reduceGE, Int.reduceBEq, Int.reduceBNe, Int.reduceEq, Int.reduceToNat, Int.reduceSub, Int.reduceAdd, Int.reduceMul, Int.reducePow, goTG_val, goTG_new, goTG_up, goTG_none, goG_none, goG_new, goG_up, ne_eq, evK, evH, retHF, DRun_mk, runT_nil, runT_none, runT_guard, goT_val, goT_new, goT_store, goTH_true, goTH_false, evO, keys, Option.toList_some, Option.toList_none, nzL_nil, nzL_cons, nz_k, nz_sl, nz_nil, nz_agg, startL, evC, evV, goE_val, goE_new, goE_store, goH_true, goH_false, goG_val, lk_cons, lk_nil, lk_func, lk_int, lk_bool, lk_string, lk_slice, lk_agg, look_mk, St.effOf, eff, effCall, effBinC, isConst, effBin, effUn, effConv, effPick, effNil, effFold, fold1, effLoad, effStore, effFieldAddr, effField, fieldOf, sliceOf, effIndexAddr, effIndex, effLen, effExtract, effSlice, dats, bnd, effBuild, placesOf, effBuildSlice, effMakeSlice, effAppend, srcOf, fillA, chunk, seg, toD, toDs, put, eqAV, fieldsEq, leafEq, strip, unw, allB, selP_or, selP_and, tis, TyD.agg, AV.cells, AV.cell, allCell, vInt, vBool, vStr, subL_nil, subL_cons, upIds, AV.ids, AV.ids.idsL, AObj.ids, drops, Hp.get_cons, get_nil, retF, resL, one, fz, fz.fzL, List.map_cons, List.map_nil, List.nil_append, List.append_nil, List.cons_append, List.all_cons, List.all_nil, List.length_cons, List.length_nil, List.getElem?_cons_zero, List.getElem?_cons_succ, List.getD_cons_zero, List.getD_cons_succ, List.take_succ_cons, List.take_zero, List.drop_succ_cons, List.drop_zero, List.take_nil, List.drop_nil, List.contains_cons, List.contains_nil, Option.getD_some, Option.getD_none, Option.map_some, Option.map_none, if_true, if_false, true_and, and_true, and_self, or_self, or_false, false_or, false_and, and_false, reduceCtorEq, sel_and, sel_or, decide_eq_true_eq, Bool.and_eq_true, Bool.or_eq_true, Bool.and_true, Bool.true_and, Bool.or_false, Bool.false_or, Bool.true_or, Bool.or_true, Bool.not_true, Bool.not_false, Bool.false_eq_true, implies_true, not_false_eq_true, Nat.reduceLT, Nat.reduceEqDiff, Nat.reduceAdd, Nat.reduceMul, Nat.reduceMod, Nat.reduceLeDiff, Nat.reduceBEq, Nat.zero_add, Nat.add_zero, reduceIte, ↓reduceIte, List.not_mem_nil]
      rw [if_pos hj2]
      refine ⟨by omega, ?_⟩
      have sp := put_le p
      have sn := numL_le p
      have s5 := put_le 65533
      by_cases c1 : p = g ∨ p = 92
      · rw [if_pos (by simpa using c1)]
        refine ⟨by show ((1 + (Utf.put p).length : Nat) : Int) ≤ _; omega, by omega, (j + 1, o ++ 92 :: Utf.put p), by simp only []; omega, step _ (by unfold quo1; rw [if_pos c1]), Le.of (fun o => if o = 100 then 37 else o) [] ?_⟩
        simp only [intsD, u8s_app, u8s_len, List.map_append, List.length_append, List.length_map, Mt_tup, Mt_agg, Mt_fn, forall_eq, forall_eq_or_imp, ne_eq, List.all_cons, List.all_nil, pr, Nat.reduceLeDiff, slR_nil, slR_cons, hpR_nil, hpR_cells, hpR_row, idsR_nil, idsR_cons, mtE_v, mtE_sl, mtE_nil, mtE_refl, mtE_row, mtE_born, mtE_ptr, mtE_rp, mtE_agg, mtE_tup, mtE_fn, mtE_ep, MtL_nil, MtL_cons, Mt_v, Mt_sl, Mt_nil, Mt_refl, Mt_row, Mt_born, Mt_ptr, MtO_cells, MtO_row, liveIds, distinct, Dat.v.injEq, Dat.sl.injEq, Value.int.injEq, Value.bool.injEq, Value.string.injEq, lk_cons, lk_nil, subL_nil, subL_cons, upIds, AV.ids, AV.ids.idsL, AObj.ids, Hp.get_cons, get_nil, allCell, AV.cell, vInt, vBool, vStr, id, true_and, and_true, and_self, List.append_nil, List.nil_append, List.not_mem_nil, List.mem_cons, or_false, false_or, or_self, not_true_eq_false, not_false_eq_true, false_imp_iff, false_implies, List.map_nil, not_false_eq_true, List.contains_cons, List.contains_nil, Bool.or_false, Bool.false_or, Bool.true_or, Bool.or_true, Bool.and_true, Bool.true_and, implies_true, if_true, if_false, reduceCtorEq, Nat.reduceEqDiff, Nat.reduceBEq, Nat.reduceAdd, reduceIte, ↓reduceIte]
        rfl
      rw [if_neg (by simpa using c1)]
      by_cases c2 : (p = 10 ∨ p = 12) ∨ p = 13
      · have c2' : p = 10 ∨ p = 12 ∨ p = 13 := by omega
        rw [if_pos (by simpa using c2)]
        refine ⟨by omega, by omega, fun h => ⟨by omega, h⟩, fun h => ⟨by omega, h.1⟩, fun h => ⟨by omega, h.1⟩, fun h => ⟨by omega, h.1⟩, ?_⟩
        by_cases c3 : aheadQ (ps.drop (j + 1))
        · have c4 := haq.mp c3
          rw [if_pos ⟨c4.1, by simpa [or_assoc] using c4.2⟩]
          refine ⟨by simp only [List.length_append, List.length_map, u8s_len]; omega, (j + 1, o ++ (numL p ++ [32])), by simp only []; omega, step _ (by unfold quo1; rw [if_neg c1, if_pos c2', if_pos c3]), Le.of (fun o => if o = 100 then 89 else o) [] ?_⟩
          simp only [intsD, u8s_app, u8s_len, List.map_append, List.length_append, List.length_map, Mt_tup, Mt_agg, Mt_fn, forall_eq, forall_eq_or_imp, ne_eq, List.all_cons, List.all_nil, pr, Nat.reduceLeDiff, slR_nil, slR_cons, hpR_nil, hpR_cells, hpR_row, idsR_nil, idsR_cons, mtE_v, mtE_sl, mtE_nil, mtE_refl, mtE_row, mtE_born, mtE_ptr, mtE_rp, mtE_agg, mtE_tup, mtE_fn, mtE_ep, MtL_nil, MtL_cons, Mt_v, Mt_sl, Mt_nil, Mt_refl, Mt_row, Mt_born, Mt_ptr, MtO_cells, MtO_row, liveIds, distinct, Dat.v.injEq, Dat.sl.injEq, Value.int.injEq, Value.bool.injEq, Value.string.injEq, lk_cons, lk_nil, subL_nil, subL_cons, upIds, AV.ids, AV.ids.idsL, AObj.ids, Hp.get_cons, get_nil, allCell, AV.cell, vInt, vBool, vStr, id, true_and, and_true, and_self, List.append_nil, List.nil_append, List.not_mem_nil, List.mem_cons, or_false, false_or, or_self, not_true_eq_false, not_false_eq_true, false_imp_iff, false_implies, List.map_nil, not_false_eq_true, List.contains_cons, List.contains_nil, Bool.or_false, Bool.false_or, Bool.true_or, Bool.or_true, Bool.and_true, Bool.true_and, implies_true, if_true, if_false, reduceCtorEq, Nat.reduceEqDiff, Nat.reduceBEq, Nat.reduceAdd, reduceIte, ↓reduceIte]
          exact ⟨⟨by simp only [List.length_cons, List.length_nil]; omega, by rw [List.append_assoc]; rfl⟩, rfl⟩
        · rw [if_neg (fun h => c3 (haq.mpr ⟨h.1, by simpa [or_assoc] using h.2⟩))]
          refine ⟨(j + 1, o ++ numL p), by simp only []; omega, step _ (by unfold quo1; rw [if_neg c1, if_pos c2', if_neg c3, List.append_nil]), Le.of (fun o => if o = 100 then 51 else o) [] ?_⟩
          simp only [intsD, u8s_app, u8s_len, List.map_append, List.length_append, List.length_map, Mt_tup, Mt_agg, Mt_fn, forall_eq, forall_eq_or_imp, ne_eq, List.all_cons, List.all_nil, pr, Nat.reduceLeDiff, slR_nil, slR_cons, hpR_nil, hpR_cells, hpR_row, idsR_nil, idsR_cons, mtE_v, mtE_sl, mtE_nil, mtE_refl, mtE_row, mtE_born, mtE_ptr, mtE_rp, mtE_agg, mtE_tup, mtE_fn, mtE_ep, MtL_nil, MtL_cons, Mt_v, Mt_sl, Mt_nil, Mt_refl, Mt_row, Mt_born, Mt_ptr, MtO_cells, MtO_row, liveIds, distinct, Dat.v.injEq, Dat.sl.injEq, Value.int.injEq, Value.bool.injEq, Value.string.injEq, lk_cons, lk_nil, subL_nil, subL_cons, upIds, AV.ids, AV.ids.idsL, AObj.ids, Hp.get_cons, get_nil, allCell, AV.cell, vInt, vBool, vStr, id, true_and, and_true, and_self, List.append_nil, List.nil_append, List.not_mem_nil, List.mem_cons, or_false, false_or, or_self, not_true_eq_false, not_false_eq_true, false_imp_iff, false_implies, List.map_nil, not_false_eq_true, List.contains_cons, List.contains_nil, Bool.or_false, Bool.false_or, Bool.true_or, Bool.or_true, Bool.and_true, Bool.true_and, implies_true, if_true, if_false, reduceCtorEq, Nat.reduceEqDiff, Nat.reduceBEq, Nat.reduceAdd, reduceIte, ↓reduceIte]
          rfl
      have c2' : ¬ (p = 10 ∨ p = 12 ∨ p = 13) := by omega
      rw [if_neg (by simpa using c2)]
      by_cases c3 : p = 0
      · rw [if_pos (by simpa using c3)]
        refine ⟨by omega, (j + 1, o ++ Utf.put 65533), by simp only []; omega, step _ (by unfold quo1; rw [if_neg c1, if_neg c2', if_pos c3]), Le.of (fun o => if o = 100 then 95 else o) [] ?_⟩
        simp only [intsD, u8s_app, u8s_len, List.map_append, List.length_append, List.length_map, Mt_tup, Mt_agg, Mt_fn, forall_eq, forall_eq_or_imp, ne_eq, List.all_cons, List.all_nil, pr, Nat.reduceLeDiff, slR_nil, slR_cons, hpR_nil, hpR_cells, hpR_row, idsR_nil, idsR_cons, mtE_v, mtE_sl, mtE_nil, mtE_refl, mtE_row, mtE_born, mtE_ptr, mtE_rp, mtE_agg, mtE_tup, mtE_fn, mtE_ep, MtL_nil, MtL_cons, Mt_v, Mt_sl, Mt_nil, Mt_refl, Mt_row, Mt_born, Mt_ptr, MtO_cells, MtO_row, liveIds, distinct, Dat.v.injEq, Dat.sl.injEq, Value.int.injEq, Value.bool.injEq, Value.string.injEq, lk_cons, lk_nil, subL_nil, subL_cons, upIds, AV.ids, AV.ids.idsL, AObj.ids, Hp.get_cons, get_nil, allCell, AV.cell, vInt, vBool, vStr, id, true_and, and_true, and_self, List.append_nil, List.nil_append, List.not_mem_nil, List.mem_cons, or_false, false_or, or_self, not_true_eq_false, not_false_eq_true, false_imp_iff, false_implies, List.map_nil, not_false_eq_true, List.contains_cons, List.contains_nil, Bool.or_false, Bool.false_or, Bool.true_or, Bool.or_true, Bool.and_true, Bool.true_and, implies_true, if_true, if_false, reduceCtorEq, Nat.reduceEqDiff, Nat.reduceBEq, Nat.reduceAdd, reduceIte, ↓reduceIte]
        rfl
      · rw [if_neg (by simpa using c3)]
        refine ⟨by omega, (j + 1, o ++ Utf.put p), by simp only []; omega, step _ (by unfold quo1; rw [if_neg c1, if_neg c2', if_neg c3]), Le.of (fun o => if o = 100 then 24 else o) [] ?_⟩
        simp only [intsD, u8s_app, u8s_len, List.map_append, List.length_append, List.length_map, Mt_tup, Mt_agg, Mt_fn, forall_eq, forall_eq_or_imp, ne_eq, List.all_cons, List.all_nil, pr, Nat.reduceLeDiff, slR_nil, slR_cons, hpR_nil, hpR_cells, hpR_row, idsR_nil, idsR_cons, mtE_v, mtE_sl, mtE_nil, mtE_refl, mtE_row, mtE_born, mtE_ptr, mtE_rp, mtE_agg, mtE_tup, mtE_fn, mtE_ep, MtL_nil, MtL_cons, Mt_v, Mt_sl, Mt_nil, Mt_refl, Mt_row, Mt_born, Mt_ptr, MtO_cells, MtO_row, liveIds, distinct, Dat.v.injEq, Dat.sl.injEq, Value.int.injEq, Value.bool.injEq, Value.string.injEq, lk_cons, lk_nil, subL_nil, subL_cons, upIds, AV.ids, AV.ids.idsL, AObj.ids, Hp.get_cons, get_nil, allCell, AV.cell, vInt, vBool, vStr, id, true_and, and_true, and_self, List.append_nil, List.nil_append, List.not_mem_nil, List.mem_cons, or_false, false_or, or_self, not_true_eq_false, not_false_eq_true, false_imp_iff, false_implies, List.map_nil, not_false_eq_true, List.contains_cons, List.contains_nil, Bool.or_false, Bool.false_or, Bool.true_or, Bool.or_true, Bool.and_true, Bool.true_and, implies_true, if_true, if_false, reduceCtorEq, Nat.reduceEqDiff, Nat.reduceBEq, Nat.reduceAdd, reduceIte, ↓reduceIte]
        rfl
    · simp only [intsD, wg, G_quo_at, calmE, F_All, F_num, F_hexc, F_blankc, F_Text, F_ws, F_wr, F_str, AV.flat, AV.flat.flatL, List.length_map, Int.reduceLE, Int.reduceLT, Int.reduceGT, Int.reduceGE, Int.reduceBEq, Int.reduceBNe, Int.reduceEq, Int.reduceToNat, Int.reduceSub, Int.reduceAdd, Int.reduceMul, Int.reducePow, goTG_val, goTG_new, goTG_up, goTG_none, goG_none, goG_new, goG_up, ne_eq, evK, evH, retHF, DRun_mk, runT_nil, runT_none, runT_guard, goT_val, goT_new, goT_store, goTH_true, goTH_false, evO, keys, Option.toList_some, Option.toList_none, nzL_nil, nzL_cons, nz_k, nz_sl, nz_nil, nz_agg, startL, evC, evV, goE_val, goE_new, goE_store, goH_true, goH_false, goG_val, lk_cons, lk_nil, lk_func, lk_int, lk_bool, lk_string, lk_slice, lk_agg, look_mk, St.effOf, eff, effCall, effBinC, isConst, effBin, effUn, effConv, effPick, effNil, effFold, fold1, effLoad, effStore, effFieldAddr, effField, fieldOf, sliceOf, effIndexAddr, effIndex, effLen, effExtract, effSlice, dats, bnd, effBuild, placesOf, effBuildSlice, effMakeSlice, effAppend, srcOf, fillA, chunk, seg, toD, toDs, put, eqAV, fieldsEq, leafEq, strip, unw, allB, selP_or, selP_and, tis, TyD.agg, AV.cells, AV.cell, allCell, vInt, vBool, vStr, subL_nil, subL_cons, upIds, AV.ids, AV.ids.idsL, AObj.ids, drops, Hp.get_cons, get_nil, retF, resL, one, fz, fz.fzL, List.map_cons, List.map_nil, List.nil_append, List.append_nil, List.cons_append, List.all_cons, List.all_nil, List.length_cons, List.length_nil, List.getElem?_cons_zero, List.getElem?_cons_succ, List.getD_cons_zero, List.getD_cons_succ, List.take_succ_cons, List.take_zero, List.drop_succ_cons, List.drop_zero, List.take_nil, List.drop_nil, List.contains_cons, List.contains_nil, Option.getD_some, Option.getD_none, Option.map_some, Option.map_none, if_true, if_false, true_and, and_true, and_self, or_self, or_false, false_or, false_and, and_false, reduceCtorEq, sel_and, sel_or, decide_eq_true_eq, Bool.and_eq_true, Bool.or_eq_true, Bool.and_true, Bool.true_and, Bool.or_false, Bool.false_or, Bool.true_or, Bool.or_true, Bool.not_true, Bool.not_false, Bool.false_eq_true, implies_true, not_false_eq_true, Nat.reduceLT, Nat.reduceEqDiff, Nat.reduceAdd, Nat.reduceMul, Nat.reduceMod, Nat.reduceLeDiff, Nat.reduceBEq, Nat.zero_add, Nat.add_zero, reduceIte, ↓reduceIte, List.not_mem_nil]
      rw [if_neg hj2]
      obtain rfl : j = ps.length := by omega
      rw [List.drop_eq_nil_of_le (Nat.le_refl _), quoL, List.append_nil] at he
      have e : (u8s o).map byteRow ++ [iD .u8 g] = (u8s (o ++ [g])).map byteRow := by
        rw [u8s_app, List.map_append]; rcases hgs with rfl | rfl <;> rfl
      rw [e]
      refine ⟨⟨by rcases hgs with rfl | rfl <;> decide, by rw [u8s_len]; omega⟩, (byteRows_ok _).1, ?_⟩
      rw [(byteRows_ok _).2, ← str_u8s, ← he, List.cons_append]
theorem quo_calm : ∀ args sc res, F_quo args = some (sc, res) → sc → Calm Tryd.prog 45 args res := by
  intro args sc res h hs
  unfold F_quo at h
  split at h <;> cases h
  exact Body.calm gok_quo (draws0 _) rfl rfl (quo_body _ _ hs.1 hs.2)
/-- In the marks that cost less. -/
def textL (l : List Int) : List Int := if (quoted 39 l).length < (quoted 34 l).length then quoted 39 l else quoted 34 l
def F_txt : List AV → Option (Prop × AV)
  | [.d (.v (.string s))] => some (s.size ≤ 1000000000, vStr (strOfNums (textL (sB s))))
  | _ => none
noncomputable def G_txt : Gam := Gam.none.add 45 fun a => F_quo (NT.nz.nzL [] a)
theorem known_txt : Known Tryd.prog G_txt := (Known.none _).addC _ quo_calm
theorem G_txt_at (h : Nat → Option AObj) (d : Nat) (a : List AV) : G_txt 45 h d a = calmE (fun a => F_quo (NT.nz.nzL [] a)) h a := rfl
theorem txt_body (s : ByteArray) (hl : s.size ≤ 1000000000) : Body Tryd.prog G_txt (DRun Tryd.prog G_txt) 22 [vStr s] (vStr (strOfNums (textL (sB s)))) := by
  refine Body.of Tryd.func22 Tryd.ntmps22 (by kernel_rfl) rfl rfl rfl ?_
  simp only [str_size, G_txt_at, calmE, F_quo, AV.flat, AV.flat.flatL, goTG_val, goTG_new, goTG_up, goTG_none, goG_none, goG_new, goG_up, ne_eq, evK, evH, retHF, DRun_mk, runT_nil, runT_none, runT_guard, goT_val, goT_new, goT_store, goTH_true, goTH_false, evO, keys, Option.toList_some, Option.toList_none, nzL_nil, nzL_cons, nz_k, nz_sl, nz_nil, nz_agg, startL, evC, evV, goE_val, goE_new, goE_store, goH_true, goH_false, goG_val, lk_cons, lk_nil, lk_func, lk_int, lk_bool, lk_string, lk_slice, lk_agg, look_mk, St.effOf, eff, effCall, effBinC, isConst, effBin, effUn, effConv, effPick, effNil, effFold, fold1, effLoad, effStore, effFieldAddr, effField, fieldOf, sliceOf, effIndexAddr, effIndex, effLen, effExtract, effSlice, dats, bnd, effBuild, placesOf, effBuildSlice, effMakeSlice, effAppend, srcOf, fillA, chunk, seg, toD, toDs, put, eqAV, fieldsEq, leafEq, strip, unw, allB, selP_or, selP_and, tis, TyD.agg, AV.cells, AV.cell, allCell, vInt, vBool, vStr, subL_nil, subL_cons, upIds, AV.ids, AV.ids.idsL, AObj.ids, drops, Hp.get_cons, get_nil, retF, resL, one, fz, fz.fzL, List.map_cons, List.map_nil, List.nil_append, List.append_nil, List.cons_append, List.all_cons, List.all_nil, List.length_cons, List.length_nil, List.getElem?_cons_zero, List.getElem?_cons_succ, List.getD_cons_zero, List.getD_cons_succ, List.take_succ_cons, List.take_zero, List.drop_succ_cons, List.drop_zero, List.take_nil, List.drop_nil, List.contains_cons, List.contains_nil, Option.getD_some, Option.getD_none, Option.map_some, Option.map_none, if_true, if_false, true_and, and_true, and_self, or_self, or_false, false_or, false_and, and_false, reduceCtorEq, sel_and, sel_or, decide_eq_true_eq, Bool.and_eq_true, Bool.or_eq_true, Bool.and_true, Bool.true_and, Bool.or_false, Bool.false_or, Bool.true_or, Bool.or_true, Bool.not_true, Bool.not_false, Bool.false_eq_true, implies_true, not_false_eq_true, Nat.reduceLT, Nat.reduceEqDiff, Nat.reduceAdd, Nat.reduceMul, Nat.reduceMod, Nat.reduceLeDiff, Nat.reduceBEq, Nat.zero_add, Nat.add_zero, reduceIte, ↓reduceIte, List.not_mem_nil]
  unfold textL
  refine ⟨⟨hl, .inl trivial⟩, ⟨hl, .inr trivial⟩, ?_⟩
  by_cases c : (quoted 39 (sB s)).length < (quoted 34 (sB s)).length
  · rw [if_pos (by omega), if_pos c]
  · rw [if_neg (by omega), if_neg c]
theorem txt_calm : ∀ args sc res, F_txt args = some (sc, res) → sc → Calm Tryd.prog 22 args res := by
  intro args sc res h hs
  unfold F_txt at h
  split at h <;> cases h
  exact known_txt.calm mixed rfl rfl (txt_body _ hs)
end Go.Proofs.YtelgddealjbgiaaDoor.Eng
