/- Names of CSS, taken, on the small machine. -/
import Derived.Test.YtelgddealjbgiaaDoorSCn8
namespace Go.Proofs.YtelgddealjbgiaaDoor.Eng
open Go Go.Proofs.YtelgddealjbgiaaDoor.Base
set_option maxRecDepth 100000
set_option linter.unusedSimpArgs false
set_option linter.unusedVariables false
/-- The code points of the name that stands at a place, and the place behind it. -/
def takeN (l : List (Int × Int)) : Nat → Int → List Int × Int
  | 0, i => ([], i)
  | f + 1, i => if i ≥ l.length then ([], i) else if inP (atR l i) then (atR l i :: (takeN l f (i + 1)).1, (takeN l f (i + 1)).2) else if escP l i then ((escV l i).1 :: (takeN l f (escV l i).2).1, (takeN l f (escV l i).2).2) else ([], i)
def clampR (l : List (Int × Int)) (i : Int) : Int := if i < 0 then 0 else if i > l.length then l.length else i
def takeV (l : List (Int × Int)) (i : Int) : List Int × Int := takeN l l.length (clampR l i)
theorem atR_in {l : List (Int × Int)} {i : Int} (h : atR l i ≠ -1) : 0 ≤ i ∧ i < l.length := by
  unfold atR at h
  split at h
  · exact absurd rfl h
  · omega
theorem hexN_bound (l : List (Int × Int)) : ∀ (f : Nat) (n e : Int), 0 ≤ e → e ≤ l.length → e ≤ (hexN l f n e).2 ∧ (hexN l f n e).2 ≤ l.length
  | 0, n, e, h0, h => ⟨Int.le_refl _, h⟩
  | f + 1, n, e, h0, h => by
    unfold hexN
    split
    · rename_i hx
      have : e < l.length := by
        exact (atR_in (fun h => by rw [h] at hx; exact absurd hx (by decide))).2
      have := hexN_bound l f (16 * n + hexV (atR l e)) (e + 1) (by omega) (by omega)
      omega
    · exact ⟨Int.le_refl _, h⟩
theorem escV_bound {l : List (Int × Int)} {i : Int} (h0 : 0 ≤ i) (h : i < l.length) : i < (escV l i).2 ∧ (escV l i).2 ≤ l.length := by
  unfold escV
  split
  · simp only []; omega
  · have hb := hexN_bound l 6 0 (i + 1) (by omega) (by omega)
    simp only []
    split
    · simp only []; omega
    · simp only []
      split
      · rename_i hx
        have : (hexN l 6 0 (i + 1)).2 < l.length := by
          exact (atR_in (fun h => by rw [h] at hx; exact absurd hx (by decide))).2
        omega
      · omega
theorem takeN_fuel (l : List (Int × Int)) : ∀ (f g : Nat) (i : Int), 0 ≤ i → (l.length : Int) - i ≤ f → (l.length : Int) - i ≤ g → takeN l f i = takeN l g i
  | 0, 0, _, _, _, _ => rfl
  | 0, g + 1, i, _, h, _ => by rw [takeN, takeN, if_pos (by omega)]
  | f + 1, 0, i, _, _, h => by rw [takeN, takeN, if_pos (by omega)]
  | f + 1, g + 1, i, h0, h1, h2 => by
    unfold takeN
    by_cases c : i ≥ l.length
    · rw [if_pos c, if_pos c]
    · rw [if_neg c, if_neg c]
      have hb := escV_bound h0 (by omega : i < l.length)
      rw [takeN_fuel l f g (i + 1) (by omega) (by omega) (by omega), takeN_fuel l f g (escV l i).2 (by omega) (by omega) (by omega)]
def F_take : List AV → Option (Prop × AV)
  | [.d (.sl 2 xs), .d (.v (.int .i64 i))] => some (xs = (xs.map runeOf).map rD ∧ xs.length ≤ 1000000 ∧ okR (xs.map runeOf), .tup [vStr (strOfNums (puts (takeV (xs.map runeOf) i).1)), vInt .i64 (takeV (xs.map runeOf) i).2])
  | _ => none
noncomputable def Gc_take : Gam := (((Gam.none.add 14 fun a => F_in (NT.nz.nzL [] a)).add 27 fun a => F_esc (NT.nz.nzL [.s 2] a)).add 28 fun a => F_escd (NT.nz.nzL [.s 2] a)).add 29 fun a => F_Text (NT.nz.nzL [.s 1] a)
theorem known_Gc_take : Known Tryd.prog Gc_take := ((((Known.none _).addC _ inI_calm).addC _ escI_calm).addC _ escd_calm).addC _ Text_calm
theorem Gc_take_at : (∀ h d a, Gc_take 14 h d a = calmE (fun a => F_in (NT.nz.nzL [] a)) h a) ∧ (∀ h d a, Gc_take 27 h d a = calmE (fun a => F_esc (NT.nz.nzL [.s 2] a)) h a) ∧ (∀ h d a, Gc_take 28 h d a = calmE (fun a => F_escd (NT.nz.nzL [.s 2] a)) h a) ∧ (∀ h d a, Gc_take 29 h d a = calmE (fun a => F_Text (NT.nz.nzL [.s 1] a)) h a) := ⟨fun _ _ _ => rfl, fun _ _ _ => rfl, fun _ _ _ => rfl, fun _ _ _ => rfl⟩
theorem take_step {l : List (Int × Int)} {o : List Int} {a : Nat} {tot : List Int × Int} (h : (o ++ (takeN l (l.length - a) a).1, (takeN l (l.length - a) a).2) = tot) (ha : a < l.length) :
    (inP (atR l a) → ((o ++ [atR l a]) ++ (takeN l (l.length - (a + 1)) ((a + 1 : Nat) : Int)).1, (takeN l (l.length - (a + 1)) ((a + 1 : Nat) : Int)).2) = tot) ∧
    (¬ inP (atR l a) → escP l a → ∀ k : Nat, (escV l a).2 = k → ((o ++ [(escV l a).1]) ++ (takeN l (l.length - k) (k : Int)).1, (takeN l (l.length - k) (k : Int)).2) = tot) ∧
    (¬ inP (atR l a) → ¬ escP l a → (o, (a : Int)) = tot) := by
  obtain ⟨f, hf⟩ : ∃ f, l.length - a = f + 1 := ⟨l.length - a - 1, by omega⟩
  rw [hf, takeN, if_neg (by omega)] at h
  refine ⟨fun h1 => ?_, fun h1 h2 k hk => ?_, fun h1 h2 => ?_⟩
  · rw [if_pos h1] at h
    rw [← h, show l.length - (a + 1) = f by omega]
    simp [Int.natCast_add]
  · rw [if_neg h1, if_pos h2] at h
    have hb := escV_bound (l := l) (i := a) (by omega) (by omega)
    rw [takeN_fuel l f (l.length - k) _ (by omega) (by omega) (by omega)] at h
    rw [← h, hk]
    simp
  · rw [if_neg h1, if_neg h2] at h
    rw [← h, List.append_nil]
theorem takeI_body (l : List (Int × Int)) (i : Int) (hl : l.length ≤ 1000000) (hr : okR l) : Body Tryd.prog Gc_take (DRun Tryd.prog Gc_take) 10 [.d (runesD l), vInt .i64 i] (.tup [vStr (strOfNums (puts (takeV l i).1)), vInt .i64 (takeV l i).2]) := by
  refine Body.of Tryd.func10 Tryd.ntmps10 (by kernel_rfl) rfl rfl rfl ?_
  have nz2 : ∀ xs, (NT.s 2).nz (.d (.sl 2 xs)) = .d (.sl 2 xs) := fun xs => rfl
  obtain ⟨a0, ha0⟩ : ∃ a : Nat, clampR l i = a := Int.eq_ofNat_of_zero_le (by unfold clampR; (repeat' split) <;> omega)
  simp only [runesD, rD_runeOf, nz2, Gc_take_at, calmE, F_in, F_esc, F_escd, F_Text, AV.flat, AV.flat.flatL, List.length_map, Int.reduceLE, Int.reduceLT, Int.reduceGT, Int.reduceGE, Int.reduceBEq, Int.reduceBNe, Int.reduceEq, Int.reduceToNat, Int.reduceSub, Int.reduceAdd, Int.reduceMul, Int.reducePow, Int.reduceNeg, goTG_val, goTG_new, goTG_up, goTG_none, goG_none, goG_new, goG_up, ne_eq, evK, evH, retHF, DRun_mk, runT_nil, runT_none, runT_guard, goT_val, goT_new, goT_store, goTH_true, goTH_false, evO, keys, Option.toList_some, Option.toList_none, nzL_nil, nzL_cons, nz_k, nz_sl, nz_nil, nz_agg, startL, evC, evV, goE_val, goE_new, goE_store, goH_true, goH_false, goG_val, lk_cons, lk_nil, lk_func, lk_int, lk_bool, lk_string, lk_slice, lk_agg, look_mk, St.effOf, eff, effCall, effBinC, isConst, effBin, effUn, effConv, effPick, effNil, effFold, fold1, effLoad, effStore, effFieldAddr, effField, fieldOf, sliceOf, effIndexAddr, effIndex, effLen, effExtract, effSlice, dats, bnd, effBuild, placesOf, effBuildSlice, effMakeSlice, effAppend, srcOf, fillA, chunk, seg, toD, toDs, put, eqAV, fieldsEq, leafEq, strip, unw, allB, selP_or, selP_and, tis, TyD.agg, AV.cells, AV.cell, allCell, vInt, vBool, vStr, subL_nil, subL_cons, upIds, AV.ids, AV.ids.idsL, AObj.ids, drops, Hp.get_cons, get_nil, retF, resL, one, fz, fz.fzL, List.map_cons, List.map_nil, List.nil_append, List.append_nil, List.cons_append, List.all_cons, List.all_nil, List.length_cons, List.length_nil, List.getElem?_cons_zero, List.getElem?_cons_succ, List.getD_cons_zero, List.getD_cons_succ, List.take_succ_cons, List.take_zero, List.drop_succ_cons, List.drop_zero, List.take_nil, List.drop_nil, List.contains_cons, List.contains_nil, Option.getD_some, Option.getD_none, Option.map_some, Option.map_none, if_true, if_false, true_and, and_true, and_self, or_self, or_false, false_or, false_and, and_false, reduceCtorEq, sel_and, sel_or, decide_eq_true_eq, Bool.and_eq_true, Bool.or_eq_true, Bool.and_true, Bool.true_and, Bool.or_false, Bool.false_or, Bool.true_or, Bool.or_true, Bool.not_true, Bool.not_false, Bool.false_eq_true, implies_true, not_false_eq_true, Nat.reduceLT, Nat.reduceEqDiff, Nat.reduceAdd, Nat.reduceMul, Nat.reduceMod, Nat.reduceLeDiff, Nat.reduceBEq, Nat.zero_add, Nat.add_zero, reduceIte, ↓reduceIte, List.not_mem_nil]
  have hcl : mx 0 (mn i l.length) = a0 := by
    rw [← ha0]; unfold mx mn clampR
    (repeat' split) <;> omega
  have ha1 : a0 ≤ l.length := by
    have : clampR l i ≤ l.length := by unfold clampR; (repeat' split) <;> omega
    omega
  rw [hcl]
  have htot : takeV l i = takeN l (l.length - a0) a0 := by
    unfold takeV; rw [ha0]; exact takeN_fuel l _ _ _ (by omega) (by omega) (by omega)
  refine wpc_loop (fun q : List Int × Nat => ⟨56, [100], [(0, .d (runesD l)), (1, vInt .i64 q.2), (6, .row 100 q.1.length)], [(100, some (.row 3 1 (q.1.map (iD .i64))))]⟩) (fun q => q.2 ≤ l.length ∧ q.1.length ≤ q.2 ∧ (q.1 ++ (takeN l (l.length - q.2) q.2).1, (takeN l (l.length - q.2) q.2).2) = takeV l i) (fun q => l.length - q.2) ([], a0) ⟨ha1, Nat.zero_le _, by simp only []; rw [List.nil_append, htot]⟩ ?_ ?_
  · refine Le.of id [100] ?_
    simp only [runesD, List.map_nil, List.length_nil, Mt_tup, Mt_agg, Mt_fn, forall_eq, forall_eq_or_imp, ne_eq, List.all_cons, List.all_nil, pr, Nat.reduceLeDiff, slR_nil, slR_cons, hpR_nil, hpR_cells, hpR_row, idsR_nil, idsR_cons, mtE_v, mtE_sl, mtE_nil, mtE_refl, mtE_row, mtE_born, mtE_ptr, mtE_rp, mtE_agg, mtE_tup, mtE_fn, mtE_ep, MtL_nil, MtL_cons, Mt_v, Mt_sl, Mt_nil, Mt_refl, Mt_row, Mt_born, Mt_ptr, MtO_cells, MtO_row, liveIds, distinct, Dat.v.injEq, Dat.sl.injEq, Value.int.injEq, Value.bool.injEq, Value.string.injEq, lk_cons, lk_nil, subL_nil, subL_cons, upIds, AV.ids, AV.ids.idsL, AObj.ids, Hp.get_cons, get_nil, allCell, AV.cell, vInt, vBool, vStr, id, true_and, and_true, and_self, List.append_nil, List.nil_append, List.not_mem_nil, List.mem_cons, or_false, false_or, or_self, not_true_eq_false, not_false_eq_true, false_imp_iff, false_implies, List.map_nil, not_false_eq_true, List.contains_cons, List.contains_nil, Bool.or_false, Bool.false_or, Bool.true_or, Bool.or_true, Bool.and_true, Bool.true_and, implies_true, if_true, if_false, reduceCtorEq, Nat.reduceEqDiff, Nat.reduceBEq, Nat.reduceAdd, reduceIte, ↓reduceIte]
  · rintro ⟨o, a⟩ ⟨ha, ho, he⟩
    simp only [] at ha ho he
    by_cases c0 : (a : Int) < l.length
    · obtain ⟨x, hx⟩ : ∃ x, l[a]? = some x := ⟨_, List.getElem?_eq_getElem (by omega)⟩
      have hg : ∀ z, (l.map rD).getD (a : Int).toNat z = rD x := getD_map hx
      have hat : atR l (a : Int) = x.1 := by
        unfold atR
        rw [if_neg (by omega), Int.toNat_natCast, List.getD_eq_getElem?_getD, hx]; rfl
      obtain ⟨s1, s2, s3⟩ := take_step he (by omega)
      rw [hat] at s1 s2 s3
      have w1 : IntKind.i64.wrap ((a : Int) + 1) = ((a + 1 : Nat) : Int) := by rw [w64 (by omega) (by omega)]; omega
      have hb := escV_bound (l := l) (i := a) (by omega) c0
      obtain ⟨k, hk⟩ := Int.eq_ofNat_of_zero_le (show 0 ≤ (escV l a).2 by omega)
      have hxr := hr x (List.mem_of_getElem? hx)
      simp only [runesD, rD_runeOf, nz2, hg, rD, w1, hk, num_iD, Gc_take_at, calmE, F_in, F_esc, F_escd, F_Text, AV.flat, AV.flat.flatL, List.length_map, Int.reduceLE, Int.reduceLT, Int.reduceGT, Int.reduceGE, Int.reduceBEq, Int.reduceBNe, Int.reduceEq, Int.reduceToNat, Int.reduceSub, Int.reduceAdd, Int.reduceMul, Int.reducePow, Int.reduceNeg, goTG_val, goTG_new, goTG_up, goTG_none, goG_none, goG_new, goG_up, ne_eq, evK, evH, retHF, DRun_mk, runT_nil, runT_none, runT_guard, goT_val, goT_new, goT_store, goTH_true, goTH_false, evO, keys, Option.toList_some, Option.toList_none, nzL_nil, nzL_cons, nz_k, nz_sl, nz_nil, nz_agg, startL, evC, evV, goE_val, goE_new, goE_store, goH_true, goH_false, goG_val, lk_cons, lk_nil, lk_func, lk_int, lk_bool, lk_string, lk_slice, lk_agg, look_mk, St.effOf, eff, effCall, effBinC, isConst, effBin, effUn, effConv, effPick, effNil, effFold, fold1, effLoad, effStore, effFieldAddr, effField, fieldOf, sliceOf, effIndexAddr, effIndex, effLen, effExtract, effSlice, dats, bnd, effBuild, placesOf, effBuildSlice, effMakeSlice, effAppend, srcOf, fillA, chunk, seg, toD, toDs, put, eqAV, fieldsEq, leafEq, strip, unw, allB, selP_or, selP_and, tis, TyD.agg, AV.cells, AV.cell, allCell, vInt, vBool, vStr, subL_nil, subL_cons, upIds, AV.ids, AV.ids.idsL, AObj.ids, drops, Hp.get_cons, get_nil, retF, resL, one, fz, fz.fzL, List.map_cons, List.map_nil, List.nil_append, List.append_nil, List.cons_append, List.all_cons, List.all_nil, List.length_cons, List.length_nil, List.getElem?_cons_zero, List.getElem?_cons_succ, List.getD_cons_zero, List.getD_cons_succ, List.take_succ_cons, List.take_zero, List.drop_succ_cons, List.drop_zero, List.take_nil, List.drop_nil, List.contains_cons, List.contains_nil, Option.getD_some, Option.getD_none, Option.map_some, Option.map_none, if_true, if_false, true_and, and_true, and_self, or_self, or_false, false_or, false_and, and_false, reduceCtorEq, sel_and, sel_or, decide_eq_true_eq, Bool.and_eq_true, Bool.or_eq_true, Bool.and_true, Bool.true_and, Bool.or_false, Bool.false_or, Bool.true_or, Bool.or_true, Bool.not_true, Bool.not_false, Bool.false_eq_true, implies_true, not_false_eq_true, Nat.reduceLT, Nat.reduceEqDiff, Nat.reduceAdd, Nat.reduceMul, Nat.reduceMod, Nat.reduceLeDiff, Nat.reduceBEq, Nat.zero_add, Nat.add_zero, reduceIte, ↓reduceIte, List.not_mem_nil]
      rw [if_pos c0]
      refine ⟨⟨by omega, by omega⟩, ?_⟩
      by_cases c1 : inP x.1
      · rw [if_pos c1]
        refine ⟨⟨by omega, by omega⟩, by omega, (o ++ [x.1], a + 1), by simp only []; omega, ⟨by simp only []; omega, by simp only [List.length_append, List.length_cons, List.length_nil]; omega, s1 c1⟩, Le.of (fun _ => 35) [] ?_⟩
        simp only [runesD, List.map_append, List.map_cons, List.map_nil, List.length_append, List.length_cons, List.length_nil, List.length_map, iD, Mt_tup, Mt_agg, Mt_fn, forall_eq, forall_eq_or_imp, ne_eq, List.all_cons, List.all_nil, pr, Nat.reduceLeDiff, slR_nil, slR_cons, hpR_nil, hpR_cells, hpR_row, idsR_nil, idsR_cons, mtE_v, mtE_sl, mtE_nil, mtE_refl, mtE_row, mtE_born, mtE_ptr, mtE_rp, mtE_agg, mtE_tup, mtE_fn, mtE_ep, MtL_nil, MtL_cons, Mt_v, Mt_sl, Mt_nil, Mt_refl, Mt_row, Mt_born, Mt_ptr, MtO_cells, MtO_row, liveIds, distinct, Dat.v.injEq, Dat.sl.injEq, Value.int.injEq, Value.bool.injEq, Value.string.injEq, lk_cons, lk_nil, subL_nil, subL_cons, upIds, AV.ids, AV.ids.idsL, AObj.ids, Hp.get_cons, get_nil, allCell, AV.cell, vInt, vBool, vStr, id, true_and, and_true, and_self, List.append_nil, List.nil_append, List.not_mem_nil, List.mem_cons, or_false, false_or, or_self, not_true_eq_false, not_false_eq_true, false_imp_iff, false_implies, List.map_nil, not_false_eq_true, List.contains_cons, List.contains_nil, Bool.or_false, Bool.false_or, Bool.true_or, Bool.or_true, Bool.and_true, Bool.true_and, implies_true, if_true, if_false, reduceCtorEq, Nat.reduceEqDiff, Nat.reduceBEq, Nat.reduceAdd, reduceIte, ↓reduceIte]
      rw [if_neg c1]
      refine ⟨hl, ?_⟩
      by_cases c2 : escP l (a : Int)
      · rw [if_pos c2]
        refine ⟨⟨hl, hr, by omega, by omega⟩, by omega, (o ++ [(escV l a).1], k), by simp only []; omega, ⟨by simp only []; omega, by simp only [List.length_append, List.length_cons, List.length_nil]; omega, s2 c1 c2 k hk⟩, Le.of (fun _ => 51) [] ?_⟩
        simp only [runesD, List.map_append, List.map_cons, List.map_nil, List.length_append, List.length_cons, List.length_nil, List.length_map, iD, Mt_tup, Mt_agg, Mt_fn, forall_eq, forall_eq_or_imp, ne_eq, List.all_cons, List.all_nil, pr, Nat.reduceLeDiff, slR_nil, slR_cons, hpR_nil, hpR_cells, hpR_row, idsR_nil, idsR_cons, mtE_v, mtE_sl, mtE_nil, mtE_refl, mtE_row, mtE_born, mtE_ptr, mtE_rp, mtE_agg, mtE_tup, mtE_fn, mtE_ep, MtL_nil, MtL_cons, Mt_v, Mt_sl, Mt_nil, Mt_refl, Mt_row, Mt_born, Mt_ptr, MtO_cells, MtO_row, liveIds, distinct, Dat.v.injEq, Dat.sl.injEq, Value.int.injEq, Value.bool.injEq, Value.string.injEq, lk_cons, lk_nil, subL_nil, subL_cons, upIds, AV.ids, AV.ids.idsL, AObj.ids, Hp.get_cons, get_nil, allCell, AV.cell, vInt, vBool, vStr, id, true_and, and_true, and_self, List.append_nil, List.nil_append, List.not_mem_nil, List.mem_cons, or_false, false_or, or_self, not_true_eq_false, not_false_eq_true, false_imp_iff, false_implies, List.map_nil, not_false_eq_true, List.contains_cons, List.contains_nil, Bool.or_false, Bool.false_or, Bool.true_or, Bool.or_true, Bool.and_true, Bool.true_and, implies_true, if_true, if_false, reduceCtorEq, Nat.reduceEqDiff, Nat.reduceBEq, Nat.reduceAdd, reduceIte, ↓reduceIte]
      · rw [if_neg c2]
        have e3 := s3 c1 c2
        rw [← e3]
        exact ⟨by omega, Sub.refl _⟩
    · simp only [runesD, rD_runeOf, nz2, num_iD, Gc_take_at, calmE, F_in, F_esc, F_escd, F_Text, AV.flat, AV.flat.flatL, List.length_map, Int.reduceLE, Int.reduceLT, Int.reduceGT, Int.reduceGE, Int.reduceBEq, Int.reduceBNe, Int.reduceEq, Int.reduceToNat, Int.reduceSub, Int.reduceAdd, Int.reduceMul, Int.reducePow, Int.reduceNeg, goTG_val, goTG_new, goTG_up, goTG_none, goG_none, goG_new, goG_up, ne_eq, evK, evH, retHF, DRun_mk, runT_nil, runT_none, runT_guard, goT_val, goT_new, goT_store, goTH_true, goTH_false, evO, keys, Option.toList_some, Option.toList_none, nzL_nil, nzL_cons, nz_k, nz_sl, nz_nil, nz_agg, startL, evC, evV, goE_val, goE_new, goE_store, goH_true, goH_false, goG_val, lk_cons, lk_nil, lk_func, lk_int, lk_bool, lk_string, lk_slice, lk_agg, look_mk, St.effOf, eff, effCall, effBinC, isConst, effBin, effUn, effConv, effPick, effNil, effFold, fold1, effLoad, effStore, effFieldAddr, effField, fieldOf, sliceOf, effIndexAddr, effIndex, effLen, effExtract, effSlice, dats, bnd, effBuild, placesOf, effBuildSlice, effMakeSlice, effAppend, srcOf, fillA, chunk, seg, toD, toDs, put, eqAV, fieldsEq, leafEq, strip, unw, allB, selP_or, selP_and, tis, TyD.agg, AV.cells, AV.cell, allCell, vInt, vBool, vStr, subL_nil, subL_cons, upIds, AV.ids, AV.ids.idsL, AObj.ids, drops, Hp.get_cons, get_nil, retF, resL, one, fz, fz.fzL, List.map_cons, List.map_nil, List.nil_append, List.append_nil, List.cons_append, List.all_cons, List.all_nil, List.length_cons, List.length_nil, List.getElem?_cons_zero, List.getElem?_cons_succ, List.getD_cons_zero, List.getD_cons_succ, List.take_succ_cons, List.take_zero, List.drop_succ_cons, List.drop_zero, List.take_nil, List.drop_nil, List.contains_cons, List.contains_nil, Option.getD_some, Option.getD_none, Option.map_some, Option.map_none, if_true, if_false, true_and, and_true, and_self, or_self, or_false, false_or, false_and, and_false, reduceCtorEq, sel_and, sel_or, decide_eq_true_eq, Bool.and_eq_true, Bool.or_eq_true, Bool.and_true, Bool.true_and, Bool.or_false, Bool.false_or, Bool.true_or, Bool.or_true, Bool.not_true, Bool.not_false, Bool.false_eq_true, implies_true, not_false_eq_true, Nat.reduceLT, Nat.reduceEqDiff, Nat.reduceAdd, Nat.reduceMul, Nat.reduceMod, Nat.reduceLeDiff, Nat.reduceBEq, Nat.zero_add, Nat.add_zero, reduceIte, ↓reduceIte, List.not_mem_nil]
      rw [if_neg c0]
      have e0 : takeN l (l.length - a) a = ([], (a : Int)) := by
        rw [show l.length - a = 0 by omega]; rfl
      rw [e0, List.append_nil] at he
      rw [← he]
      exact ⟨by omega, Sub.refl _⟩
theorem takeI_calm : ∀ args sc res, F_take args = some (sc, res) → sc → Calm Tryd.prog 10 args res := by
  intro args sc res h hs
  unfold F_take at h
  split at h <;> cases h
  rename_i xs i
  obtain ⟨h1, h2, h3⟩ := hs
  have hb := takeI_body (xs.map runeOf) i (by simpa using h2) h3
  rw [runesD, ← h1] at hb
  exact known_Gc_take.calm mixed rfl rfl hb
/- The reference's. -/
theorem cap_body {Γ : Gam} (n a b : Int) : Body Tryd.prog Γ (DRun Tryd.prog Γ) 30 [vInt .i64 n, vInt .i64 a, vInt .i64 b] (vInt .i64 (if n < a then a else if n > b then b else n)) := by
  refine Body.of Tryd.func30 Tryd.ntmps30 (by kernel_rfl) rfl rfl rfl ?_
  simp only [goTG_val, goTG_new, goTG_up, goTG_none, goG_none, goG_new, goG_up, ne_eq, evK, evH, retHF, DRun_mk, runT_nil, runT_none, runT_guard, goT_val, goT_new, goT_store, goTH_true, goTH_false, evO, keys, Option.toList_some, Option.toList_none, nzL_nil, nzL_cons, nz_k, nz_sl, nz_nil, nz_agg, startL, evC, evV, goE_val, goE_new, goE_store, goH_true, goH_false, goG_val, lk_cons, lk_nil, lk_func, lk_int, lk_bool, lk_string, lk_slice, lk_agg, look_mk, St.effOf, eff, effCall, effBinC, isConst, effBin, effUn, effConv, effPick, effNil, effFold, fold1, effLoad, effStore, effFieldAddr, effField, fieldOf, sliceOf, effIndexAddr, effIndex, effLen, effExtract, effSlice, dats, bnd, effBuild, placesOf, effBuildSlice, effMakeSlice, effAppend, srcOf, fillA, chunk, seg, toD, toDs, put, eqAV, fieldsEq, leafEq, strip, unw, allB, selP_or, selP_and, tis, TyD.agg, AV.cells, AV.cell, allCell, vInt, vBool, vStr, subL_nil, subL_cons, upIds, AV.ids, AV.ids.idsL, AObj.ids, drops, Hp.get_cons, get_nil, retF, resL, one, fz, fz.fzL, List.map_cons, List.map_nil, List.nil_append, List.append_nil, List.cons_append, List.all_cons, List.all_nil, List.length_cons, List.length_nil, List.getElem?_cons_zero, List.getElem?_cons_succ, List.getD_cons_zero, List.getD_cons_succ, List.take_succ_cons, List.take_zero, List.drop_succ_cons, List.drop_zero, List.take_nil, List.drop_nil, List.contains_cons, List.contains_nil, Option.getD_some, Option.getD_none, Option.map_some, Option.map_none, if_true, if_false, true_and, and_true, and_self, or_self, or_false, false_or, false_and, and_false, reduceCtorEq, sel_and, sel_or, decide_eq_true_eq, Bool.and_eq_true, Bool.or_eq_true, Bool.and_true, Bool.true_and, Bool.or_false, Bool.false_or, Bool.true_or, Bool.or_true, Bool.not_true, Bool.not_false, Bool.false_eq_true, implies_true, not_false_eq_true, Nat.reduceLT, Nat.reduceEqDiff, Nat.reduceAdd, Nat.reduceMul, Nat.reduceMod, Nat.reduceLeDiff, Nat.reduceBEq, Nat.zero_add, Nat.add_zero, reduceIte, ↓reduceIte, List.not_mem_nil]
  (repeat' split) <;> first | exact Sub.refl _ | omega
def F_cap : List AV → Option (Prop × AV)
  | [.d (.v (.int .i64 n)), .d (.v (.int .i64 a)), .d (.v (.int .i64 b))] => some (True, vInt .i64 (if n < a then a else if n > b then b else n))
  | _ => none
theorem cap_calm : ∀ args sc res, F_cap args = some (sc, res) → sc → Calm Tryd.prog 30 args res := by
  intro args sc res h hs
  unfold F_cap at h
  split at h <;> cases h
  exact (Known.none _).calm mixed rfl rfl (cap_body _ _ _)
noncomputable def Gr_take : Gam := ((((Gam.none.addH 31 F_RPut).add 30 fun a => F_cap (NT.nz.nzL [] a)).add 15 fun a => F_in (NT.nz.nzL [] a)).add 32 fun a => F_esc (NT.nz.nzL [.s 2] a)).add 33 fun a => F_escd (NT.nz.nzL [.s 2] a)
theorem gok_rtake : Gok Tryd.prog Gr_take := by
  refine (((RPut_ok (Known.none _).ok).add fun args sc res h hs _ => ?_).add fun args sc res h hs _ => ?_).add (fun args sc res h hs _ => ?_) |>.add fun args sc res h hs _ => ?_
  · exact (cap_calm _ sc res h hs).nz
  · exact (inR_calm _ sc res h hs).nz
  · exact (escR_calm _ sc res h hs).nz
  · exact (escdR_calm _ sc res h hs).nz
theorem Gr_take_at : (∀ h d a, Gr_take 31 h d a = F_RPut h d a) ∧ (∀ h d a, Gr_take 30 h d a = calmE (fun a => F_cap (NT.nz.nzL [] a)) h a) ∧ (∀ h d a, Gr_take 15 h d a = calmE (fun a => F_in (NT.nz.nzL [] a)) h a) ∧ (∀ h d a, Gr_take 32 h d a = calmE (fun a => F_esc (NT.nz.nzL [.s 2] a)) h a) ∧ (∀ h d a, Gr_take 33 h d a = calmE (fun a => F_escd (NT.nz.nzL [.s 2] a)) h a) := ⟨fun _ _ _ => rfl, fun _ _ _ => rfl, fun _ _ _ => rfl, fun _ _ _ => rfl, fun _ _ _ => rfl⟩
theorem puts_sn (o : List Int) (x : Int) : puts (o ++ [x]) = puts o ++ Utf.put x := by simp [puts]
theorem putB (l : List Int) : (∀ r ∈ (puts l).map (iD .u8), r = [Dat.v (.int .u8 (byteOf r))]) ∧ ((puts l).map (iD .u8)).map byteOf = puts l := by
  refine ⟨fun r hr => ?_, ?_⟩
  · obtain ⟨x, -, rfl⟩ := List.mem_map.mp hr
    rfl
  · rw [List.map_map]; exact (List.map_congr_left fun x _ => rfl).trans (List.map_id _)
theorem put_le' (r : Int) : (Utf.put r).length ≤ 4 := by
  unfold Utf.put Utf.enc
  repeat' split
  all_goals simp
theorem puts_le (l : List Int) : (puts l).length ≤ 4 * l.length := by
  induction l with
  | nil => exact Nat.le_refl _
  | cons a l ih => have := put_le' a; simp only [puts, List.flatMap_cons, List.length_append, List.length_cons] at *; omega
theorem takeR_body (l : List (Int × Int)) (i : Int) (hl : l.length ≤ 1000000) (hr : okR l) : Body Tryd.prog Gr_take (DRun Tryd.prog Gam.none) 11 [.d (runesD l), vInt .i64 i] (.tup [vStr (strOfNums (puts (takeV l i).1)), vInt .i64 (takeV l i).2]) := by
  refine Body.of Tryd.func11 Tryd.ntmps11 (by kernel_rfl) rfl rfl rfl ?_
  have nz2 : ∀ xs, (NT.s 2).nz (.d (.sl 2 xs)) = .d (.sl 2 xs) := fun xs => rfl
  obtain ⟨a0, ha0⟩ : ∃ a : Nat, clampR l i = a := Int.eq_ofNat_of_zero_le (by unfold clampR; (repeat' split) <;> omega)
  simp only [runesD, rD_runeOf, nz2, Gr_take_at, calmE, F_RPut, F_cap, F_in, F_esc, F_escd, AV.flat, AV.flat.flatL, List.length_map, Int.reduceLE, Int.reduceLT, Int.reduceGT, Int.reduceGE, Int.reduceBEq, Int.reduceBNe, Int.reduceEq, Int.reduceToNat, Int.reduceSub, Int.reduceAdd, Int.reduceMul, Int.reducePow, Int.reduceNeg, goTG_val, goTG_new, goTG_up, goTG_none, goG_none, goG_new, goG_up, ne_eq, evK, evH, retHF, DRun_mk, runT_nil, runT_none, runT_guard, goT_val, goT_new, goT_store, goTH_true, goTH_false, evO, keys, Option.toList_some, Option.toList_none, nzL_nil, nzL_cons, nz_k, nz_sl, nz_nil, nz_agg, startL, evC, evV, goE_val, goE_new, goE_store, goH_true, goH_false, goG_val, lk_cons, lk_nil, lk_func, lk_int, lk_bool, lk_string, lk_slice, lk_agg, look_mk, St.effOf, eff, effCall, effBinC, isConst, effBin, effUn, effConv, effPick, effNil, effFold, fold1, effLoad, effStore, effFieldAddr, effField, fieldOf, sliceOf, effIndexAddr, effIndex, effLen, effExtract, effSlice, dats, bnd, effBuild, placesOf, effBuildSlice, effMakeSlice, effAppend, srcOf, fillA, chunk, seg, toD, toDs, put, eqAV, fieldsEq, leafEq, strip, unw, allB, selP_or, selP_and, tis, TyD.agg, AV.cells, AV.cell, allCell, vInt, vBool, vStr, subL_nil, subL_cons, upIds, AV.ids, AV.ids.idsL, AObj.ids, drops, Hp.get_cons, get_nil, retF, resL, one, fz, fz.fzL, List.map_cons, List.map_nil, List.nil_append, List.append_nil, List.cons_append, List.all_cons, List.all_nil, List.length_cons, List.length_nil, List.getElem?_cons_zero, List.getElem?_cons_succ, List.getD_cons_zero, List.getD_cons_succ, List.take_succ_cons, List.take_zero, List.drop_succ_cons, List.drop_zero, List.take_nil, List.drop_nil, List.contains_cons, List.contains_nil, Option.getD_some, Option.getD_none, Option.map_some, Option.map_none, if_true, if_false, true_and, and_true, and_self, or_self, or_false, false_or, false_and, and_false, reduceCtorEq, sel_and, sel_or, decide_eq_true_eq, Bool.and_eq_true, Bool.or_eq_true, Bool.and_true, Bool.true_and, Bool.or_false, Bool.false_or, Bool.true_or, Bool.or_true, Bool.not_true, Bool.not_false, Bool.false_eq_true, implies_true, not_false_eq_true, Nat.reduceLT, Nat.reduceEqDiff, Nat.reduceAdd, Nat.reduceMul, Nat.reduceMod, Nat.reduceLeDiff, Nat.reduceBEq, Nat.zero_add, Nat.add_zero, reduceIte, ↓reduceIte, List.not_mem_nil]
  have hcl : (if i < 0 then 0 else if i > (l.length : Int) then (l.length : Int) else i) = a0 := ha0
  have ha1 : a0 ≤ l.length := by
    have : clampR l i ≤ l.length := by unfold clampR; (repeat' split) <;> omega
    omega
  rw [hcl]
  have htot : takeV l i = takeN l (l.length - a0) a0 := by
    unfold takeV; rw [ha0]; exact takeN_fuel l _ _ _ (by omega) (by omega) (by omega)
  refine wpc_loop (fun q : List Int × Nat => ⟨53, [100], [(0, .d (runesD l)), (1, vInt .i64 q.2), (6, .row 100 (puts q.1).length)], [(100, some (.row 5 1 ((puts q.1).map (iD .u8))))]⟩) (fun q => q.2 ≤ l.length ∧ q.1.length ≤ q.2 ∧ (q.1 ++ (takeN l (l.length - q.2) q.2).1, (takeN l (l.length - q.2) q.2).2) = takeV l i) (fun q => l.length - q.2) ([], a0) ⟨ha1, Nat.zero_le _, by simp only []; rw [List.nil_append, htot]⟩ ?_ ?_
  · refine Le.of id [100] ?_
    simp only [runesD, puts, List.flatMap_nil, List.map_nil, List.length_nil, Mt_tup, Mt_agg, Mt_fn, forall_eq, forall_eq_or_imp, ne_eq, List.all_cons, List.all_nil, pr, Nat.reduceLeDiff, slR_nil, slR_cons, hpR_nil, hpR_cells, hpR_row, idsR_nil, idsR_cons, mtE_v, mtE_sl, mtE_nil, mtE_refl, mtE_row, mtE_born, mtE_ptr, mtE_rp, mtE_agg, mtE_tup, mtE_fn, mtE_ep, MtL_nil, MtL_cons, Mt_v, Mt_sl, Mt_nil, Mt_refl, Mt_row, Mt_born, Mt_ptr, MtO_cells, MtO_row, liveIds, distinct, Dat.v.injEq, Dat.sl.injEq, Value.int.injEq, Value.bool.injEq, Value.string.injEq, lk_cons, lk_nil, subL_nil, subL_cons, upIds, AV.ids, AV.ids.idsL, AObj.ids, Hp.get_cons, get_nil, allCell, AV.cell, vInt, vBool, vStr, id, true_and, and_true, and_self, List.append_nil, List.nil_append, List.not_mem_nil, List.mem_cons, or_false, false_or, or_self, not_true_eq_false, not_false_eq_true, false_imp_iff, false_implies, List.map_nil, not_false_eq_true, List.contains_cons, List.contains_nil, Bool.or_false, Bool.false_or, Bool.true_or, Bool.or_true, Bool.and_true, Bool.true_and, implies_true, if_true, if_false, reduceCtorEq, Nat.reduceEqDiff, Nat.reduceBEq, Nat.reduceAdd, reduceIte, ↓reduceIte]
  · rintro ⟨o, a⟩ ⟨ha, ho, he⟩
    simp only [] at ha ho he
    have hpl := puts_le o
    by_cases c0 : (a : Int) < l.length
    · obtain ⟨x, hx⟩ : ∃ x, l[a]? = some x := ⟨_, List.getElem?_eq_getElem (by omega)⟩
      have hg : ∀ z, (l.map rD).getD (a : Int).toNat z = rD x := getD_map hx
      have hat : atR l (a : Int) = x.1 := by
        unfold atR
        rw [if_neg (by omega), Int.toNat_natCast, List.getD_eq_getElem?_getD, hx]; rfl
      obtain ⟨s1, s2, s3⟩ := take_step he (by omega)
      rw [hat] at s1 s2 s3
      have w1 : IntKind.i64.wrap ((a : Int) + 1) = ((a + 1 : Nat) : Int) := by rw [w64 (by omega) (by omega)]; omega
      have hb := escV_bound (l := l) (i := a) (by omega) c0
      obtain ⟨k, hk⟩ := Int.eq_ofNat_of_zero_le (show 0 ≤ (escV l a).2 by omega)
      have hxr := hr x (List.mem_of_getElem? hx)
      simp only [runesD, rD_runeOf, nz2, hg, rD, w1, hk, Gr_take_at, calmE, F_RPut, F_cap, F_in, F_esc, F_escd, AV.flat, AV.flat.flatL, List.length_map, Int.reduceLE, Int.reduceLT, Int.reduceGT, Int.reduceGE, Int.reduceBEq, Int.reduceBNe, Int.reduceEq, Int.reduceToNat, Int.reduceSub, Int.reduceAdd, Int.reduceMul, Int.reducePow, Int.reduceNeg, goTG_val, goTG_new, goTG_up, goTG_none, goG_none, goG_new, goG_up, ne_eq, evK, evH, retHF, DRun_mk, runT_nil, runT_none, runT_guard, goT_val, goT_new, goT_store, goTH_true, goTH_false, evO, keys, Option.toList_some, Option.toList_none, nzL_nil, nzL_cons, nz_k, nz_sl, nz_nil, nz_agg, startL, evC, evV, goE_val, goE_new, goE_store, goH_true, goH_false, goG_val, lk_cons, lk_nil, lk_func, lk_int, lk_bool, lk_string, lk_slice, lk_agg, look_mk, St.effOf, eff, effCall, effBinC, isConst, effBin, effUn, effConv, effPick, effNil, effFold, fold1, effLoad, effStore, effFieldAddr, effField, fieldOf, sliceOf, effIndexAddr, effIndex, effLen, effExtract, effSlice, dats, bnd, effBuild, placesOf, effBuildSlice, effMakeSlice, effAppend, srcOf, fillA, chunk, seg, toD, toDs, put, eqAV, fieldsEq, leafEq, strip, unw, allB, selP_or, selP_and, tis, TyD.agg, AV.cells, AV.cell, allCell, vInt, vBool, vStr, subL_nil, subL_cons, upIds, AV.ids, AV.ids.idsL, AObj.ids, drops, Hp.get_cons, get_nil, retF, resL, one, fz, fz.fzL, List.map_cons, List.map_nil, List.nil_append, List.append_nil, List.cons_append, List.all_cons, List.all_nil, List.length_cons, List.length_nil, List.getElem?_cons_zero, List.getElem?_cons_succ, List.getD_cons_zero, List.getD_cons_succ, List.take_succ_cons, List.take_zero, List.drop_succ_cons, List.drop_zero, List.take_nil, List.drop_nil, List.contains_cons, List.contains_nil, Option.getD_some, Option.getD_none, Option.map_some, Option.map_none, if_true, if_false, true_and, and_true, and_self, or_self, or_false, false_or, false_and, and_false, reduceCtorEq, sel_and, sel_or, decide_eq_true_eq, Bool.and_eq_true, Bool.or_eq_true, Bool.and_true, Bool.true_and, Bool.or_false, Bool.false_or, Bool.true_or, Bool.or_true, Bool.not_true, Bool.not_false, Bool.false_eq_true, implies_true, not_false_eq_true, Nat.reduceLT, Nat.reduceEqDiff, Nat.reduceAdd, Nat.reduceMul, Nat.reduceMod, Nat.reduceLeDiff, Nat.reduceBEq, Nat.zero_add, Nat.add_zero, reduceIte, ↓reduceIte, List.not_mem_nil]
      rw [if_pos c0]
      refine ⟨⟨by omega, by omega⟩, ?_⟩
      by_cases c1 : inP x.1
      · rw [if_pos c1]
        refine ⟨⟨by omega, by omega⟩, by omega, (o ++ [x.1], a + 1), by simp only []; omega, ⟨by simp only []; omega, by simp only [List.length_append, List.length_cons, List.length_nil]; omega, s1 c1⟩, Le.of (fun _ => 33) [] ?_⟩
        simp only [runesD, puts_sn, List.map_append, List.map_cons, List.map_nil, List.length_append, List.length_cons, List.length_nil, List.length_map, Mt_tup, Mt_agg, Mt_fn, forall_eq, forall_eq_or_imp, ne_eq, List.all_cons, List.all_nil, pr, Nat.reduceLeDiff, slR_nil, slR_cons, hpR_nil, hpR_cells, hpR_row, idsR_nil, idsR_cons, mtE_v, mtE_sl, mtE_nil, mtE_refl, mtE_row, mtE_born, mtE_ptr, mtE_rp, mtE_agg, mtE_tup, mtE_fn, mtE_ep, MtL_nil, MtL_cons, Mt_v, Mt_sl, Mt_nil, Mt_refl, Mt_row, Mt_born, Mt_ptr, MtO_cells, MtO_row, liveIds, distinct, Dat.v.injEq, Dat.sl.injEq, Value.int.injEq, Value.bool.injEq, Value.string.injEq, lk_cons, lk_nil, subL_nil, subL_cons, upIds, AV.ids, AV.ids.idsL, AObj.ids, Hp.get_cons, get_nil, allCell, AV.cell, vInt, vBool, vStr, id, true_and, and_true, and_self, List.append_nil, List.nil_append, List.not_mem_nil, List.mem_cons, or_false, false_or, or_self, not_true_eq_false, not_false_eq_true, false_imp_iff, false_implies, List.map_nil, not_false_eq_true, List.contains_cons, List.contains_nil, Bool.or_false, Bool.false_or, Bool.true_or, Bool.or_true, Bool.and_true, Bool.true_and, implies_true, if_true, if_false, reduceCtorEq, Nat.reduceEqDiff, Nat.reduceBEq, Nat.reduceAdd, reduceIte, ↓reduceIte]
      rw [if_neg c1]
      refine ⟨hl, ?_⟩
      by_cases c2 : escP l (a : Int)
      · rw [if_pos c2]
        refine ⟨⟨hl, hr, by omega, by omega⟩, by omega, (o ++ [(escV l a).1], k), by simp only []; omega, ⟨by simp only []; omega, by simp only [List.length_append, List.length_cons, List.length_nil]; omega, s2 c1 c2 k hk⟩, Le.of (fun _ => 48) [] ?_⟩
        simp only [runesD, puts_sn, List.map_append, List.map_cons, List.map_nil, List.length_append, List.length_cons, List.length_nil, List.length_map, Mt_tup, Mt_agg, Mt_fn, forall_eq, forall_eq_or_imp, ne_eq, List.all_cons, List.all_nil, pr, Nat.reduceLeDiff, slR_nil, slR_cons, hpR_nil, hpR_cells, hpR_row, idsR_nil, idsR_cons, mtE_v, mtE_sl, mtE_nil, mtE_refl, mtE_row, mtE_born, mtE_ptr, mtE_rp, mtE_agg, mtE_tup, mtE_fn, mtE_ep, MtL_nil, MtL_cons, Mt_v, Mt_sl, Mt_nil, Mt_refl, Mt_row, Mt_born, Mt_ptr, MtO_cells, MtO_row, liveIds, distinct, Dat.v.injEq, Dat.sl.injEq, Value.int.injEq, Value.bool.injEq, Value.string.injEq, lk_cons, lk_nil, subL_nil, subL_cons, upIds, AV.ids, AV.ids.idsL, AObj.ids, Hp.get_cons, get_nil, allCell, AV.cell, vInt, vBool, vStr, id, true_and, and_true, and_self, List.append_nil, List.nil_append, List.not_mem_nil, List.mem_cons, or_false, false_or, or_self, not_true_eq_false, not_false_eq_true, false_imp_iff, false_implies, List.map_nil, not_false_eq_true, List.contains_cons, List.contains_nil, Bool.or_false, Bool.false_or, Bool.true_or, Bool.or_true, Bool.and_true, Bool.true_and, implies_true, if_true, if_false, reduceCtorEq, Nat.reduceEqDiff, Nat.reduceBEq, Nat.reduceAdd, reduceIte, ↓reduceIte]
      · rw [if_neg c2]
        have e3 := s3 c1 c2
        rw [← e3]
        refine ⟨(putB o).1, ?_⟩
        rw [(putB o).2]
    · simp only [runesD, rD_runeOf, nz2, Gr_take_at, calmE, F_RPut, F_cap, F_in, F_esc, F_escd, AV.flat, AV.flat.flatL, List.length_map, Int.reduceLE, Int.reduceLT, Int.reduceGT, Int.reduceGE, Int.reduceBEq, Int.reduceBNe, Int.reduceEq, Int.reduceToNat, Int.reduceSub, Int.reduceAdd, Int.reduceMul, Int.reducePow, Int.reduceNeg, goTG_val, goTG_new, goTG_up, goTG_none, goG_none, goG_new, goG_up, ne_eq, evK, evH, retHF, DRun_mk, runT_nil, runT_none, runT_guard, goT_val, goT_new, goT_store, goTH_true, goTH_false, evO, keys, Option.toList_some, Option.toList_none, nzL_nil, nzL_cons, nz_k, nz_sl, nz_nil, nz_agg, startL, evC, evV, goE_val, goE_new, goE_store, goH_true, goH_false, goG_val, lk_cons, lk_nil, lk_func, lk_int, lk_bool, lk_string, lk_slice, lk_agg, look_mk, St.effOf, eff, effCall, effBinC, isConst, effBin, effUn, effConv, effPick, effNil, effFold, fold1, effLoad, effStore, effFieldAddr, effField, fieldOf, sliceOf, effIndexAddr, effIndex, effLen, effExtract, effSlice, dats, bnd, effBuild, placesOf, effBuildSlice, effMakeSlice, effAppend, srcOf, fillA, chunk, seg, toD, toDs, put, eqAV, fieldsEq, leafEq, strip, unw, allB, selP_or, selP_and, tis, TyD.agg, AV.cells, AV.cell, allCell, vInt, vBool, vStr, subL_nil, subL_cons, upIds, AV.ids, AV.ids.idsL, AObj.ids, drops, Hp.get_cons, get_nil, retF, resL, one, fz, fz.fzL, List.map_cons, List.map_nil, List.nil_append, List.append_nil, List.cons_append, List.all_cons, List.all_nil, List.length_cons, List.length_nil, List.getElem?_cons_zero, List.getElem?_cons_succ, List.getD_cons_zero, List.getD_cons_succ, List.take_succ_cons, List.take_zero, List.drop_succ_cons, List.drop_zero, List.take_nil, List.drop_nil, List.contains_cons, List.contains_nil, Option.getD_some, Option.getD_none, Option.map_some, Option.map_none, if_true, if_false, true_and, and_true, and_self, or_self, or_false, false_or, false_and, and_false, reduceCtorEq, sel_and, sel_or, decide_eq_true_eq, Bool.and_eq_true, Bool.or_eq_true, Bool.and_true, Bool.true_and, Bool.or_false, Bool.false_or, Bool.true_or, Bool.or_true, Bool.not_true, Bool.not_false, Bool.false_eq_true, implies_true, not_false_eq_true, Nat.reduceLT, Nat.reduceEqDiff, Nat.reduceAdd, Nat.reduceMul, Nat.reduceMod, Nat.reduceLeDiff, Nat.reduceBEq, Nat.zero_add, Nat.add_zero, reduceIte, ↓reduceIte, List.not_mem_nil]
      rw [if_neg c0]
      have e0 : takeN l (l.length - a) a = ([], (a : Int)) := by
        rw [show l.length - a = 0 by omega]; rfl
      rw [e0, List.append_nil] at he
      rw [← he]
      refine ⟨(putB o).1, ?_⟩
      rw [(putB o).2]
theorem takeR_calm : ∀ args sc res, F_take args = some (sc, res) → sc → Calm Tryd.prog 11 args res := by
  intro args sc res h hs
  unfold F_take at h
  split at h <;> cases h
  rename_i xs i
  obtain ⟨h1, h2, h3⟩ := hs
  have hb := takeR_body (xs.map runeOf) i (by simpa using h2) h3
  rw [runesD, ← h1] at hb
  exact Body.calm gok_rtake (draws0 _) rfl rfl hb
end Go.Proofs.YtelgddealjbgiaaDoor.Eng
