/- SmapJson: part 12 of 15. -/
import Derived.Test.YtgbialeahdoelaaBSmapJsonk
import Derived.ChangeArms
import Derived.DataReads
import Derived.Below
section
namespace Go.Proofs.Ytgbialeahdoelaa.Eng
open Go Go.Proofs.Ytgbialeahdoelaa.Base
set_option maxRecDepth 100000
set_option linter.unusedSimpArgs false
set_option linter.unusedVariables false
def F_within : List AV → Option (Prop × AV)
 | [.d (.v (.int .i64 n))] => some (True, vBool (decide (0 ≤ n ∧ n ≤ 1073741824)))
 | _ => none
theorem within_body (n : Int) : Body Try.prog Gam.none (DRun Try.prog Gam.none) 23 [vInt .i64 n] (vBool (decide (0 ≤ n ∧ n ≤ 1073741824))) := by
 refine Body.of Try.func23 Try.ntmps23 (by kernel_rfl) rfl rfl rfl ?_
 simp only [goTG_val, goTG_new, goTG_up, goTG_none, goG_none, goG_new, goG_up, ne_eq, evK, evH, retHF, DRun_mk, runT_nil, runT_none, runT_guard, goT_val, goT_new, goT_store, goTH_true, goTH_false, evO, keys, Option.toList_some, Option.toList_none, nzL_nil, nzL_cons, nz_k, nz_sl, nz_nil, nz_agg, startL, evC, evV, goE_val, goE_new, goE_store, goH_true, goH_false, goG_val, lk_cons, lk_nil, lk_func, lk_int, lk_bool, lk_string, lk_slice, lk_agg, look_mk, St.effOf, eff, effCall, effBinC, isConst, effBin, effUn, effConv, effPick, effNil, effFold, fold1, effLoad, effStore, effFieldAddr, effField, fieldOf, sliceOf, effIndexAddr, effIndex, effLen, effExtract, effSlice, dats, bnd, effBuild, placesOf, effBuildSlice, effMakeSlice, effAppend, srcOf, fillA, chunk, seg, toD, toDs, put, eqAV, fieldsEq, leafEq, strip, unw, allB, selP_or, selP_and, tis, TyD.agg, AV.cells, AV.cell, allCell, vInt, vBool, vStr, subL_nil, subL_cons, upIds, AV.ids, AV.ids.idsL, AObj.ids, drops, Hp.get_cons, get_nil, retF, resL, one, fz, fz.fzL, List.map_cons, List.map_nil, List.nil_append, List.append_nil, List.cons_append, List.all_cons, List.all_nil, List.length_cons, List.length_nil, List.getElem?_cons_zero, List.getElem?_cons_succ, List.getD_cons_zero, List.getD_cons_succ, List.take_succ_cons, List.take_zero, List.drop_succ_cons, List.drop_zero, List.take_nil, List.drop_nil, List.contains_cons, List.contains_nil, Option.getD_some, Option.getD_none, Option.map_some, Option.map_none, if_true, if_false, true_and, and_true, and_self, or_self, or_false, false_or, false_and, and_false, reduceCtorEq, sel_and, sel_or, decide_eq_true_eq, Bool.and_eq_true, Bool.or_eq_true, Bool.and_true, Bool.true_and, Bool.or_false, Bool.false_or, Bool.true_or, Bool.or_true, Bool.not_true, Bool.not_false, Bool.false_eq_true, implies_true, not_false_eq_true, Nat.reduceLT, Nat.reduceEqDiff, Nat.reduceAdd, Nat.reduceMul, Nat.reduceMod, Nat.reduceLeDiff, Nat.reduceBEq, Nat.zero_add, Nat.add_zero, reduceIte, ↓reduceIte, List.not_mem_nil]
 refine Sub.eq ?_
 congr 3
 by_cases h : n ≥ 0 <;> simp [h] <;> omega
theorem within_calm : ∀ args sc res, F_within args = some (sc, res) → sc → Calm Try.prog 23 args res := by
 intro args sc res h _
 unfold F_within at h
 split at h <;> cases h
 exact (Known.none _).calm mixed rfl rfl (within_body _)
noncomputable def G_rmap : Gam := (Gam.none.add 23 fun a => F_within (NT.nz.nzL [] a)).add 24 fun a => F_vput (NT.nz.nzL [] a)
theorem known_rmap : Known Try.prog G_rmap := ((Known.none _).addC _ within_calm).addC _ rvput_calm
theorem G_rmap_at : (∀ h d a, G_rmap 23 h d a = calmE (fun a => F_within (NT.nz.nzL [] a)) h a) ∧ (∀ h d a, G_rmap 24 h d a = calmE (fun a => F_vput (NT.nz.nzL [] a)) h a) := ⟨fun _ _ _ => rfl, fun _ _ _ => rfl⟩
def far (s : Sg) : Int := s.a * 1073741825 + s.b
theorem far_up {l : List Sg} : ∀ {j : Nat}, okS l j → ∀ {i : Nat} {s : Sg}, i < j → l[i]? = some s → (i : Int) ≤ far s := fun {j} hok {i} => by
 induction i with
 | zero =>
  intro s hj hs
  obtain ⟨⟨k1, k2, k3, k4⟩, _⟩ := hok 0 hj s hs
  unfold far
  omega
 | succ i ih =>
  intro s hj hs
  have hlt := (List.getElem?_eq_some_iff.mp hs).1
  obtain ⟨p, hp⟩ : ∃ p, l[i]? = some p := ⟨_, List.getElem?_eq_getElem (by omega)⟩
  have h1 := ih (by omega) hp
  obtain ⟨⟨k1, k2, k3, k4⟩, hu⟩ := hok (i + 1) hj s hs
  obtain ⟨⟨m1, m2, m3, m4⟩, _⟩ := hok i (by omega) p hp
  have := hu p (by omega) hp
  unfold upS at this
  unfold far at h1 ⊢
  rcases this with h | ⟨h, h2⟩
  ·omega
  ·omega
theorem okS_le {l : List Sg} {j : Nat} (h : okS l j) (hj : j ≤ l.length) : j ≤ 107400000000000 := by
 rcases Nat.eq_zero_or_pos j with h0 | h0
 ·omega
 ·obtain ⟨s, hs⟩ : ∃ s, l[j - 1]? = some s := ⟨_, List.getElem?_eq_getElem (by omega)⟩
  have := far_up h (i := j - 1) (by omega) hs
  obtain ⟨⟨k1, k2, k3, k4⟩, _⟩ := h (j - 1) (by omega) s hs
  unfold far at this
  omega
def R_in (l : List Sg) (j : Nat) (p : Sg) (col : Int) (s : Sg) (t0 : List UInt8) (q : Nat) : St :=
 ⟨110, [10], [(0, .d (sgsD l)), (4, vStr ⟨(t0 ++ List.replicate q 59).toArray⟩), (5, vInt .i64 (p.a + q)), (6, vInt .i64 col), (7, vInt .i64 p.c), (8, vInt .i64 p.d), (9, vInt .i64 j), (10, .ptr 10 0)], [(10, some (.cells 47 ((sgD s).map .d)))]⟩
theorem okS_snoc {l : List Sg} {j : Nat} {s : Sg} (hok : okS l j) (hs : l[j]? = some s) (h : inS s) (hu : 0 < j → upS (lastS (l.take j)) s) : okS l (j + 1) := by
 intro i hi t ht
 by_cases hij : i = j
 ·subst hij
  rw [hs] at ht
  cases ht
  exact ⟨h, fun p h0 hp => by have := hu h0; rw [last_at h0 hp] at this; exact this⟩
 ·exact hok i (by omega) t ht
theorem seg_len (i : Nat) (p s : Sg) (h : p.a ≤ s.a) : ((segB i p s).length : Int) ≤ 37 + (s.a - p.a) := by
 have h1 := flat_take_len p s 4
 rw [List.take_of_length_le (by simp [numsB])] at h1
 unfold segB aheadB
 rw [List.length_append]
 by_cases c : s.a > p.a
 ·rw [if_pos c, List.length_replicate]; omega
 ·rw [if_neg c]
  by_cases c2 : i > 0
  ·rw [if_pos c2, List.length_singleton]; omega
  ·rw [if_neg c2, List.length_nil]; omega
theorem seg_app {A : List UInt8} {p s : Sg} {a c d : Int} (eN : numsB p s = [a, 0, c, d]) : (⟨A.toArray⟩ : ByteArray) ++ vq a ++ vq 0 ++ vq c ++ vq d = ⟨(A ++ (numsB p s).flatMap fun n => (vq n).data.toList).toArray⟩ := by
 rw [eN]
 simp only [List.flatMap_cons, List.flatMap_nil, List.append_nil]
 rw [← ba_app, ← ba_app, ← ba_app, ← ba_app, ba_self, ba_self, ba_self, ba_self]
 simp only [app_assoc]
theorem semi_app (A : List UInt8) (q : Nat) : (⟨(A ++ List.replicate q 59).toArray⟩ : ByteArray) ++ ⟨#[59]⟩ = ⟨(A ++ List.replicate (q + 1) 59).toArray⟩ := by
 rw [show (⟨#[59]⟩ : ByteArray) = ⟨[59].toArray⟩ from rfl, ba_app, List.append_assoc, ← List.replicate_succ']
theorem RMap_body (l : List Sg) (hl : l.length ≤ maxLen) : Body Try.prog G_rmap (DRun Try.prog G_rmap) 10 [.d (sgsD l)] (mapS l) := by
 refine Body.of Try.func10 Try.ntmps10 (by kernel_rfl) rfl rfl rfl ?_
 have hl : l.length ≤ 9223372036854775807 := hl
 simp only [sgsD, G_rmap_at, calmE, F_within, F_vput, AV.flat, AV.flat.flatL, List.length_map, goTG_val, goTG_new, goTG_up, goTG_none, goG_none, goG_new, goG_up, ne_eq, evK, evH, retHF, DRun_mk, runT_nil, runT_none, runT_guard, goT_val, goT_new, goT_store, goTH_true, goTH_false, evO, keys, Option.toList_some, Option.toList_none, nzL_nil, nzL_cons, nz_k, nz_sl, nz_nil, nz_agg, startL, evC, evV, goE_val, goE_new, goE_store, goH_true, goH_false, goG_val, lk_cons, lk_nil, lk_func, lk_int, lk_bool, lk_string, lk_slice, lk_agg, look_mk, St.effOf, eff, effCall, effBinC, isConst, effBin, effUn, effConv, effPick, effNil, effFold, fold1, effLoad, effStore, effFieldAddr, effField, fieldOf, sliceOf, effIndexAddr, effIndex, effLen, effExtract, effSlice, dats, bnd, effBuild, placesOf, effBuildSlice, effMakeSlice, effAppend, srcOf, fillA, chunk, seg, toD, toDs, put, eqAV, fieldsEq, leafEq, strip, unw, allB, selP_or, selP_and, tis, TyD.agg, AV.cells, AV.cell, allCell, vInt, vBool, vStr, subL_nil, subL_cons, upIds, AV.ids, AV.ids.idsL, AObj.ids, drops, Hp.get_cons, get_nil, retF, resL, one, fz, fz.fzL, List.map_cons, List.map_nil, List.nil_append, List.append_nil, List.cons_append, List.all_cons, List.all_nil, List.length_cons, List.length_nil, List.getElem?_cons_zero, List.getElem?_cons_succ, List.getD_cons_zero, List.getD_cons_succ, List.take_succ_cons, List.take_zero, List.drop_succ_cons, List.drop_zero, List.take_nil, List.drop_nil, List.contains_cons, List.contains_nil, Option.getD_some, Option.getD_none, Option.map_some, Option.map_none, if_true, if_false, true_and, and_true, and_self, or_self, or_false, false_or, false_and, and_false, reduceCtorEq, sel_and, sel_or, decide_eq_true_eq, Bool.and_eq_true, Bool.or_eq_true, Bool.and_true, Bool.true_and, Bool.or_false, Bool.false_or, Bool.true_or, Bool.or_true, Bool.not_true, Bool.not_false, Bool.false_eq_true, implies_true, not_false_eq_true, Nat.reduceLT, Nat.reduceEqDiff, Nat.reduceAdd, Nat.reduceMul, Nat.reduceMod, Nat.reduceLeDiff, Nat.reduceBEq, Nat.zero_add, Nat.add_zero, reduceIte, ↓reduceIte, List.not_mem_nil]
 refine wpc_loop (fun q : Nat => ⟨110, [], [(0, .d (sgsD l)), (4, vStr ⟨(mapB l q).toArray⟩), (5, vInt .i64 (lastS (l.take q)).a), (6, vInt .i64 (lastS (l.take q)).b), (7, vInt .i64 (lastS (l.take q)).c), (8, vInt .i64 (lastS (l.take q)).d), (9, vInt .i64 q)], []⟩)
  (fun q => q ≤ l.length ∧ okS l q ∧ (mapB l q).length ≤ 37 * (q : Int) + (lastS (l.take q)).a) (fun q => l.length - q) 0 ⟨Nat.zero_le _, fun i hi => absurd hi (Nat.not_lt_zero i), by simp [mapB, lastS]⟩ ?_ ?_
 ·refine Le.of id [] ?_
  simp only [sgsD, mapB, lastS, List.take_zero, List.getLastD_nil, Mt_tup, Mt_agg, Mt_fn, forall_eq, forall_eq_or_imp, ne_eq, List.all_cons, List.all_nil, pr, Nat.reduceLeDiff, slR_nil, slR_cons, hpR_nil, hpR_cells, hpR_row, idsR_nil, idsR_cons, mtE_v, mtE_sl, mtE_nil, mtE_refl, mtE_row, mtE_born, mtE_ptr, mtE_rp, mtE_agg, mtE_tup, mtE_fn, mtE_ep, MtL_nil, MtL_cons, Mt_v, Mt_sl, Mt_nil, Mt_refl, Mt_row, Mt_born, Mt_ptr, MtO_cells, MtO_row, liveIds, distinct, Dat.v.injEq, Dat.sl.injEq, Value.int.injEq, Value.bool.injEq, Value.string.injEq, lk_cons, lk_nil, subL_nil, subL_cons, upIds, AV.ids, AV.ids.idsL, AObj.ids, Hp.get_cons, get_nil, allCell, AV.cell, vInt, vBool, vStr, id, true_and, and_true, and_self, List.append_nil, List.nil_append, List.not_mem_nil, List.mem_cons, or_false, false_or, or_self, not_true_eq_false, not_false_eq_true, false_imp_iff, false_implies, List.map_nil, not_false_eq_true, List.contains_cons, List.contains_nil, Bool.or_false, Bool.false_or, Bool.true_or, Bool.or_true, Bool.and_true, Bool.true_and, implies_true, if_true, if_false, reduceCtorEq, Nat.reduceEqDiff, Nat.reduceBEq, Nat.reduceAdd, reduceIte, ↓reduceIte]
  rfl
 ·rintro j ⟨hj, hok, hlen⟩
  by_cases hj2 : (j : Int) < l.length
  ·obtain ⟨s, hs⟩ : ∃ s, l[j]? = some s := ⟨_, List.getElem?_eq_getElem (by omega)⟩
   have hg : ∀ z, (l.map sgD).getD (j : Int).toNat z = sgD s := getD_map hs
   have hjl := okS_le hok hj
   have hmap : mapB l (j + 1) = mapB l j ++ segB j (lastS (l.take j)) s := by rw [mapB, hs]
   have hlast : lastS (l.take (j + 1)) = s := by rw [take_at hs, lastS]; simp
   have hp0 : j = 0 → lastS (l.take j) = ⟨0, 0, 0, 0⟩ := fun h => by subst h; rfl
   have hpr : 0 ≤ (lastS (l.take j)).a ∧ (lastS (l.take j)).a ≤ 100000 ∧ 0 ≤ (lastS (l.take j)).b ∧ (lastS (l.take j)).b ≤ 1073741824 ∧ 0 ≤ (lastS (l.take j)).c ∧ (lastS (l.take j)).c ≤ 1073741824 ∧ 0 ≤ (lastS (l.take j)).d ∧ (lastS (l.take j)).d ≤ 1073741824 := by
    by_cases h0 : 0 < j
    ·obtain ⟨p, hp⟩ : ∃ p, l[j - 1]? = some p := ⟨_, List.getElem?_eq_getElem (by omega)⟩
     obtain ⟨⟨k1, k2, k3, k4⟩, _⟩ := hok (j - 1) (by omega) p hp
     rw [last_at h0 hp]; omega
    ·rw [hp0 (by omega)]; simp only []; omega
   simp only [sgsD, hg, sgD, G_rmap_at, calmE, F_within, F_vput, AV.flat, AV.flat.flatL, List.length_map, goTG_val, goTG_new, goTG_up, goTG_none, goG_none, goG_new, goG_up, ne_eq, evK, evH, retHF, DRun_mk, runT_nil, runT_none, runT_guard, goT_val, goT_new, goT_store, goTH_true, goTH_false, evO, keys, Option.toList_some, Option.toList_none, nzL_nil, nzL_cons, nz_k, nz_sl, nz_nil, nz_agg, startL, evC, evV, goE_val, goE_new, goE_store, goH_true, goH_false, goG_val, lk_cons, lk_nil, lk_func, lk_int, lk_bool, lk_string, lk_slice, lk_agg, look_mk, St.effOf, eff, effCall, effBinC, isConst, effBin, effUn, effConv, effPick, effNil, effFold, fold1, effLoad, effStore, effFieldAddr, effField, fieldOf, sliceOf, effIndexAddr, effIndex, effLen, effExtract, effSlice, dats, bnd, effBuild, placesOf, effBuildSlice, effMakeSlice, effAppend, srcOf, fillA, chunk, seg, toD, toDs, put, eqAV, fieldsEq, leafEq, strip, unw, allB, selP_or, selP_and, tis, TyD.agg, AV.cells, AV.cell, allCell, vInt, vBool, vStr, subL_nil, subL_cons, upIds, AV.ids, AV.ids.idsL, AObj.ids, drops, Hp.get_cons, get_nil, retF, resL, one, fz, fz.fzL, List.map_cons, List.map_nil, List.nil_append, List.append_nil, List.cons_append, List.all_cons, List.all_nil, List.length_cons, List.length_nil, List.getElem?_cons_zero, List.getElem?_cons_succ, List.getD_cons_zero, List.getD_cons_succ, List.take_succ_cons, List.take_zero, List.drop_succ_cons, List.drop_zero, List.take_nil, List.drop_nil, List.contains_cons, List.contains_nil, Option.getD_some, Option.getD_none, Option.map_some, Option.map_none, if_true, if_false, true_and, and_true, and_self, or_self, or_false, false_or, false_and, and_false, reduceCtorEq, sel_and, sel_or, decide_eq_true_eq, Bool.and_eq_true, Bool.or_eq_true, Bool.and_true, Bool.true_and, Bool.or_false, Bool.false_or, Bool.true_or, Bool.or_true, Bool.not_true, Bool.not_false, Bool.false_eq_true, implies_true, not_false_eq_true, Nat.reduceLT, Nat.reduceEqDiff, Nat.reduceAdd, Nat.reduceMul, Nat.reduceMod, Nat.reduceLeDiff, Nat.reduceBEq, Nat.zero_add, Nat.add_zero, reduceIte, ↓reduceIte, List.not_mem_nil]
   rw [if_pos hj2]
   refine ⟨by omega, ?_⟩
   have hno : (¬ inS s ∨ (0 < j ∧ ¬ upS (lastS (l.take j)) s)) → mapS l = .tup [vStr ByteArray.empty, vBool false] := fun h => by
    rw [mapS, if_neg]
    intro hall
    obtain ⟨h1, h2⟩ := hall j (by omega) s hs
    rcases h with h | ⟨h0, h⟩
    ·exact h h1
    ·obtain ⟨p, hp⟩ : ∃ p, l[j - 1]? = some p := ⟨_, List.getElem?_eq_getElem (by omega)⟩
     rw [last_at h0 hp] at h
     exact h (h2 p h0 hp)
   have hseg := seg_len j (lastS (l.take j)) s
   have okS_snoc' : ∀ (_ : okS l j) (_ : l[j]? = some s) (_ : inS s) (_ : 0 < j → upS (lastS (l.take j)) s), okS l (j + 1) := okS_snoc
   generalize lastS (l.take j) = p at *
   by_cases c1 : (((s.a < 0 ∨ s.a > 100000) ∨ (!decide (0 ≤ s.b ∧ s.b ≤ 1073741824)) = true) ∨ (!decide (0 ≤ s.c ∧ s.c ≤ 1073741824)) = true) ∨ (!decide (0 ≤ s.d ∧ s.d ≤ 1073741824)) = true
   ·rw [if_pos c1, hno (.inl fun h => by unfold inS at h; simp at c1; omega)]
    exact Sub.refl _
   rw [if_neg c1]
   have hin : inS s := by unfold inS; simp at c1; omega
   have hin2 := hin
   unfold inS at hin2
   by_cases c2 : (j : Int) > 0 ∧ (s.a < p.a ∨ (s.a == p.a) = true ∧ s.b ≤ p.b)
   ·rw [if_pos c2, hno (.inr ⟨by omega, fun h => by unfold upS at h; simp only [beq_iff_eq] at c2; omega⟩)]
    exact Sub.refl _
   rw [if_neg c2]
   simp only [beq_iff_eq] at c2
   have hupS : 0 < j → upS p s := fun h => by unfold upS; omega
   have hpa : p.a ≤ s.a := by
    rcases Nat.eq_zero_or_pos j with h | h
    ·rw [hp0 h]; exact hin2.1.1
    ·have := hupS h; unfold upS at this; omega
   have hseg := hseg hpa
   have hml : (mapB l (j + 1)).length ≤ 37 * ((j + 1 : Nat) : Int) + s.a := by rw [hmap, List.length_append]; omega
   have hokn := hok
   by_cases c3 : (j : Int) > 0 ∧ (s.a == p.a) = true
   ·rw [if_pos c3]
    simp only [beq_iff_eq] at c3
    refine ⟨by rw [ba_size]; show ((_ + 1 : Nat) : Int) ≤ _; omega, ?_⟩
    have eA : (mapB l j ++ [44]) ++ List.replicate (s.a - p.a).toNat 59 = mapB l j ++ aheadB j p s := by
     rw [aheadB, if_neg (by omega), if_pos (by omega), show (s.a - p.a).toNat = 0 by omega]; simp
    have eN : numsB p s = [s.b - p.b, 0, s.c - p.c, s.d - p.d] := by rw [numsB, if_neg (by omega)]
    refine wpc_loop (R_in l j p p.b s (mapB l j ++ [44])) (fun q : Nat => (q : Int) ≤ s.a - p.a) (fun q => (s.a - p.a).toNat - q) 0 (by show ((0 : Nat) : Int) ≤ _; omega) ?_ ?_
    ·refine Le.of id [] ?_
     simp only [R_in, sgsD, sgD, List.replicate_zero, List.append_nil, ba_app, List.map_cons, List.map_nil, Mt_tup, Mt_agg, Mt_fn, forall_eq, forall_eq_or_imp, ne_eq, List.all_cons, List.all_nil, pr, Nat.reduceLeDiff, slR_nil, slR_cons, hpR_nil, hpR_cells, hpR_row, idsR_nil, idsR_cons, mtE_v, mtE_sl, mtE_nil, mtE_refl, mtE_row, mtE_born, mtE_ptr, mtE_rp, mtE_agg, mtE_tup, mtE_fn, mtE_ep, MtL_nil, MtL_cons, Mt_v, Mt_sl, Mt_nil, Mt_refl, Mt_row, Mt_born, Mt_ptr, MtO_cells, MtO_row, liveIds, distinct, Dat.v.injEq, Dat.sl.injEq, Value.int.injEq, Value.bool.injEq, Value.string.injEq, lk_cons, lk_nil, subL_nil, subL_cons, upIds, AV.ids, AV.ids.idsL, AObj.ids, Hp.get_cons, get_nil, allCell, AV.cell, vInt, vBool, vStr, id, true_and, and_true, and_self, List.append_nil, List.nil_append, List.not_mem_nil, List.mem_cons, or_false, false_or, or_self, not_true_eq_false, not_false_eq_true, false_imp_iff, false_implies, List.map_nil, not_false_eq_true, List.contains_cons, List.contains_nil, Bool.or_false, Bool.false_or, Bool.true_or, Bool.or_true, Bool.and_true, Bool.true_and, implies_true, if_true, if_false, reduceCtorEq, Nat.reduceEqDiff, Nat.reduceBEq, Nat.reduceAdd, reduceIte, ↓reduceIte]
     exact (Int.add_zero _).symm
    ·intro q hq
     simp only [R_in, sgsD, sgD, G_rmap_at, calmE, F_within, F_vput, AV.flat, AV.flat.flatL, List.length_map, goTG_val, goTG_new, goTG_up, goTG_none, goG_none, goG_new, goG_up, ne_eq, evK, evH, retHF, DRun_mk, runT_nil, runT_none, runT_guard, goT_val, goT_new, goT_store, goTH_true, goTH_false, evO, keys, Option.toList_some, Option.toList_none, nzL_nil, nzL_cons, nz_k, nz_sl, nz_nil, nz_agg, startL, evC, evV, goE_val, goE_new, goE_store, goH_true, goH_false, goG_val, lk_cons, lk_nil, lk_func, lk_int, lk_bool, lk_string, lk_slice, lk_agg, look_mk, St.effOf, eff, effCall, effBinC, isConst, effBin, effUn, effConv, effPick, effNil, effFold, fold1, effLoad, effStore, effFieldAddr, effField, fieldOf, sliceOf, effIndexAddr, effIndex, effLen, effExtract, effSlice, dats, bnd, effBuild, placesOf, effBuildSlice, effMakeSlice, effAppend, srcOf, fillA, chunk, seg, toD, toDs, put, eqAV, fieldsEq, leafEq, strip, unw, allB, selP_or, selP_and, tis, TyD.agg, AV.cells, AV.cell, allCell, vInt, vBool, vStr, subL_nil, subL_cons, upIds, AV.ids, AV.ids.idsL, AObj.ids, drops, Hp.get_cons, get_nil, retF, resL, one, fz, fz.fzL, List.map_cons, List.map_nil, List.nil_append, List.append_nil, List.cons_append, List.all_cons, List.all_nil, List.length_cons, List.length_nil, List.getElem?_cons_zero, List.getElem?_cons_succ, List.getD_cons_zero, List.getD_cons_succ, List.take_succ_cons, List.take_zero, List.drop_succ_cons, List.drop_zero, List.take_nil, List.drop_nil, List.contains_cons, List.contains_nil, Option.getD_some, Option.getD_none, Option.map_some, Option.map_none, if_true, if_false, true_and, and_true, and_self, or_self, or_false, false_or, false_and, and_false, reduceCtorEq, sel_and, sel_or, decide_eq_true_eq, Bool.and_eq_true, Bool.or_eq_true, Bool.and_true, Bool.true_and, Bool.or_false, Bool.false_or, Bool.true_or, Bool.or_true, Bool.not_true, Bool.not_false, Bool.false_eq_true, implies_true, not_false_eq_true, Nat.reduceLT, Nat.reduceEqDiff, Nat.reduceAdd, Nat.reduceMul, Nat.reduceMod, Nat.reduceLeDiff, Nat.reduceBEq, Nat.zero_add, Nat.add_zero, reduceIte, ↓reduceIte, List.not_mem_nil]
     by_cases hq2 : p.a + (q : Int) < s.a
     ·rw [if_pos hq2]
      refine ⟨by rw [ba_size, List.length_append, List.length_replicate]; show ((_ + 1 : Nat) : Int) ≤ _; omega, q + 1, by omega, by omega, Le.of id [] ?_⟩
      simp only [R_in, sgsD, sgD, List.map_cons, List.map_nil, Mt_tup, Mt_agg, Mt_fn, forall_eq, forall_eq_or_imp, ne_eq, List.all_cons, List.all_nil, pr, Nat.reduceLeDiff, slR_nil, slR_cons, hpR_nil, hpR_cells, hpR_row, idsR_nil, idsR_cons, mtE_v, mtE_sl, mtE_nil, mtE_refl, mtE_row, mtE_born, mtE_ptr, mtE_rp, mtE_agg, mtE_tup, mtE_fn, mtE_ep, MtL_nil, MtL_cons, Mt_v, Mt_sl, Mt_nil, Mt_refl, Mt_row, Mt_born, Mt_ptr, MtO_cells, MtO_row, liveIds, distinct, Dat.v.injEq, Dat.sl.injEq, Value.int.injEq, Value.bool.injEq, Value.string.injEq, lk_cons, lk_nil, subL_nil, subL_cons, upIds, AV.ids, AV.ids.idsL, AObj.ids, Hp.get_cons, get_nil, allCell, AV.cell, vInt, vBool, vStr, id, true_and, and_true, and_self, List.append_nil, List.nil_append, List.not_mem_nil, List.mem_cons, or_false, false_or, or_self, not_true_eq_false, not_false_eq_true, false_imp_iff, false_implies, List.map_nil, not_false_eq_true, List.contains_cons, List.contains_nil, Bool.or_false, Bool.false_or, Bool.true_or, Bool.or_true, Bool.and_true, Bool.true_and, implies_true, if_true, if_false, reduceCtorEq, Nat.reduceEqDiff, Nat.reduceBEq, Nat.reduceAdd, reduceIte, ↓reduceIte]
      exact ⟨semi_app _ _, by rw [w64 (by omega) (by omega)]; omega⟩
     ·rw [if_neg hq2]
      have hqe : q = (s.a - p.a).toNat := by omega
      subst hqe
      have hA := congrArg List.length eA
      have v1 := vq_size (s.b - p.b)
      have v2 := vq_size 0
      have v3 := vq_size (s.c - p.c)
      have hm2 := hml
      rw [hmap, segB, ← List.append_assoc, ← eA, List.length_append] at hm2
      rw [w64 (n := s.b - p.b) (by omega) (by omega), w64 (n := s.c - p.c) (by omega) (by omega), w64 (n := s.d - p.d) (by omega) (by omega)]
      have b0 := ba_size ((mapB l j ++ [44]) ++ List.replicate (s.a - p.a).toNat 59)
      refine ⟨by omega, by rw [ByteArray.size_append]; omega, by rw [ByteArray.size_append, ByteArray.size_append]; omega, by rw [ByteArray.size_append, ByteArray.size_append, ByteArray.size_append]; omega, by kernel_rfl, j + 1, by omega, ⟨by omega, okS_snoc' hok hs hin hupS, by rw [hlast]; exact hml⟩, Le.of id [] ?_⟩
      rw [seg_app eN, eA, List.append_assoc, ← segB, ← hmap]
      simp only [sgsD, sgD, hlast, Mt_tup, Mt_agg, Mt_fn, forall_eq, forall_eq_or_imp, ne_eq, List.all_cons, List.all_nil, pr, Nat.reduceLeDiff, slR_nil, slR_cons, hpR_nil, hpR_cells, hpR_row, idsR_nil, idsR_cons, mtE_v, mtE_sl, mtE_nil, mtE_refl, mtE_row, mtE_born, mtE_ptr, mtE_rp, mtE_agg, mtE_tup, mtE_fn, mtE_ep, MtL_nil, MtL_cons, Mt_v, Mt_sl, Mt_nil, Mt_refl, Mt_row, Mt_born, Mt_ptr, MtO_cells, MtO_row, liveIds, distinct, Dat.v.injEq, Dat.sl.injEq, Value.int.injEq, Value.bool.injEq, Value.string.injEq, lk_cons, lk_nil, subL_nil, subL_cons, upIds, AV.ids, AV.ids.idsL, AObj.ids, Hp.get_cons, get_nil, allCell, AV.cell, vInt, vBool, vStr, id, true_and, and_true, and_self, List.append_nil, List.nil_append, List.not_mem_nil, List.mem_cons, or_false, false_or, or_self, not_true_eq_false, not_false_eq_true, false_imp_iff, false_implies, List.map_nil, not_false_eq_true, List.contains_cons, List.contains_nil, Bool.or_false, Bool.false_or, Bool.true_or, Bool.or_true, Bool.and_true, Bool.true_and, implies_true, if_true, if_false, reduceCtorEq, Nat.reduceEqDiff, Nat.reduceBEq, Nat.reduceAdd, reduceIte, ↓reduceIte]
      exact ⟨by omega, w64 (by omega) (by omega)⟩
   ·rw [if_neg c3]
    simp only [beq_iff_eq] at c3
    have eA : mapB l j ++ List.replicate (s.a - p.a).toNat 59 = mapB l j ++ aheadB j p s := by
     by_cases h : s.a > p.a
     ·rw [aheadB, if_pos h]
     ·rw [aheadB, if_neg h, if_neg (by omega), show (s.a - p.a).toNat = 0 by omega]; simp
    have eN : numsB p s = [s.b - 0, 0, s.c - p.c, s.d - p.d] := by
     by_cases h : s.a > p.a
     ·rw [numsB, if_pos h]
     ·rw [numsB, if_neg h, hp0 (by omega)]
    refine wpc_loop (R_in l j p 0 s (mapB l j)) (fun q : Nat => (q : Int) ≤ s.a - p.a) (fun q => (s.a - p.a).toNat - q) 0 (by show ((0 : Nat) : Int) ≤ _; omega) ?_ ?_
    ·refine Le.of id [] ?_
     simp only [R_in, sgsD, sgD, List.replicate_zero, List.append_nil, ba_app, List.map_cons, List.map_nil, Mt_tup, Mt_agg, Mt_fn, forall_eq, forall_eq_or_imp, ne_eq, List.all_cons, List.all_nil, pr, Nat.reduceLeDiff, slR_nil, slR_cons, hpR_nil, hpR_cells, hpR_row, idsR_nil, idsR_cons, mtE_v, mtE_sl, mtE_nil, mtE_refl, mtE_row, mtE_born, mtE_ptr, mtE_rp, mtE_agg, mtE_tup, mtE_fn, mtE_ep, MtL_nil, MtL_cons, Mt_v, Mt_sl, Mt_nil, Mt_refl, Mt_row, Mt_born, Mt_ptr, MtO_cells, MtO_row, liveIds, distinct, Dat.v.injEq, Dat.sl.injEq, Value.int.injEq, Value.bool.injEq, Value.string.injEq, lk_cons, lk_nil, subL_nil, subL_cons, upIds, AV.ids, AV.ids.idsL, AObj.ids, Hp.get_cons, get_nil, allCell, AV.cell, vInt, vBool, vStr, id, true_and, and_true, and_self, List.append_nil, List.nil_append, List.not_mem_nil, List.mem_cons, or_false, false_or, or_self, not_true_eq_false, not_false_eq_true, false_imp_iff, false_implies, List.map_nil, not_false_eq_true, List.contains_cons, List.contains_nil, Bool.or_false, Bool.false_or, Bool.true_or, Bool.or_true, Bool.and_true, Bool.true_and, implies_true, if_true, if_false, reduceCtorEq, Nat.reduceEqDiff, Nat.reduceBEq, Nat.reduceAdd, reduceIte, ↓reduceIte]
     exact (Int.add_zero _).symm
    ·intro q hq
     simp only [R_in, sgsD, sgD, G_rmap_at, calmE, F_within, F_vput, AV.flat, AV.flat.flatL, List.length_map, goTG_val, goTG_new, goTG_up, goTG_none, goG_none, goG_new, goG_up, ne_eq, evK, evH, retHF, DRun_mk, runT_nil, runT_none, runT_guard, goT_val, goT_new, goT_store, goTH_true, goTH_false, evO, keys, Option.toList_some, Option.toList_none, nzL_nil, nzL_cons, nz_k, nz_sl, nz_nil, nz_agg, startL, evC, evV, goE_val, goE_new, goE_store, goH_true, goH_false, goG_val, lk_cons, lk_nil, lk_func, lk_int, lk_bool, lk_string, lk_slice, lk_agg, look_mk, St.effOf, eff, effCall, effBinC, isConst, effBin, effUn, effConv, effPick, effNil, effFold, fold1, effLoad, effStore, effFieldAddr, effField, fieldOf, sliceOf, effIndexAddr, effIndex, effLen, effExtract, effSlice, dats, bnd, effBuild, placesOf, effBuildSlice, effMakeSlice, effAppend, srcOf, fillA, chunk, seg, toD, toDs, put, eqAV, fieldsEq, leafEq, strip, unw, allB, selP_or, selP_and, tis, TyD.agg, AV.cells, AV.cell, allCell, vInt, vBool, vStr, subL_nil, subL_cons, upIds, AV.ids, AV.ids.idsL, AObj.ids, drops, Hp.get_cons, get_nil, retF, resL, one, fz, fz.fzL, List.map_cons, List.map_nil, List.nil_append, List.append_nil, List.cons_append, List.all_cons, List.all_nil, List.length_cons, List.length_nil, List.getElem?_cons_zero, List.getElem?_cons_succ, List.getD_cons_zero, List.getD_cons_succ, List.take_succ_cons, List.take_zero, List.drop_succ_cons, List.drop_zero, List.take_nil, List.drop_nil, List.contains_cons, List.contains_nil, Option.getD_some, Option.getD_none, Option.map_some, Option.map_none, if_true, if_false, true_and, and_true, and_self, or_self, or_false, false_or, false_and, and_false, reduceCtorEq, sel_and, sel_or, decide_eq_true_eq, Bool.and_eq_true, Bool.or_eq_true, Bool.and_true, Bool.true_and, Bool.or_false, Bool.false_or, Bool.true_or, Bool.or_true, Bool.not_true, Bool.not_false, Bool.false_eq_true, implies_true, not_false_eq_true, Nat.reduceLT, Nat.reduceEqDiff, Nat.reduceAdd, Nat.reduceMul, Nat.reduceMod, Nat.reduceLeDiff, Nat.reduceBEq, Nat.zero_add, Nat.add_zero, reduceIte, ↓reduceIte, List.not_mem_nil]
     by_cases hq2 : p.a + (q : Int) < s.a
     ·rw [if_pos hq2]
      refine ⟨by rw [ba_size, List.length_append, List.length_replicate]; show ((_ + 1 : Nat) : Int) ≤ _; omega, q + 1, by omega, by omega, Le.of id [] ?_⟩
      simp only [R_in, sgsD, sgD, List.map_cons, List.map_nil, Mt_tup, Mt_agg, Mt_fn, forall_eq, forall_eq_or_imp, ne_eq, List.all_cons, List.all_nil, pr, Nat.reduceLeDiff, slR_nil, slR_cons, hpR_nil, hpR_cells, hpR_row, idsR_nil, idsR_cons, mtE_v, mtE_sl, mtE_nil, mtE_refl, mtE_row, mtE_born, mtE_ptr, mtE_rp, mtE_agg, mtE_tup, mtE_fn, mtE_ep, MtL_nil, MtL_cons, Mt_v, Mt_sl, Mt_nil, Mt_refl, Mt_row, Mt_born, Mt_ptr, MtO_cells, MtO_row, liveIds, distinct, Dat.v.injEq, Dat.sl.injEq, Value.int.injEq, Value.bool.injEq, Value.string.injEq, lk_cons, lk_nil, subL_nil, subL_cons, upIds, AV.ids, AV.ids.idsL, AObj.ids, Hp.get_cons, get_nil, allCell, AV.cell, vInt, vBool, vStr, id, true_and, and_true, and_self, List.append_nil, List.nil_append, List.not_mem_nil, List.mem_cons, or_false, false_or, or_self, not_true_eq_false, not_false_eq_true, false_imp_iff, false_implies, List.map_nil, not_false_eq_true, List.contains_cons, List.contains_nil, Bool.or_false, Bool.false_or, Bool.true_or, Bool.or_true, Bool.and_true, Bool.true_and, implies_true, if_true, if_false, reduceCtorEq, Nat.reduceEqDiff, Nat.reduceBEq, Nat.reduceAdd, reduceIte, ↓reduceIte]
      exact ⟨semi_app _ _, by rw [w64 (by omega) (by omega)]; omega⟩
     ·rw [if_neg hq2]
      have hqe : q = (s.a - p.a).toNat := by omega
      subst hqe
      have hA := congrArg List.length eA
      have v1 := vq_size (s.b - 0)
      have v2 := vq_size 0
      have v3 := vq_size (s.c - p.c)
      have hm2 := hml
      rw [hmap, segB, ← List.append_assoc, ← eA, List.length_append] at hm2
      rw [w64 (n := s.b - 0) (by omega) (by omega), w64 (n := s.c - p.c) (by omega) (by omega), w64 (n := s.d - p.d) (by omega) (by omega)]
      have b0 := ba_size (mapB l j ++ List.replicate (s.a - p.a).toNat 59)
      refine ⟨by omega, by rw [ByteArray.size_append]; omega, by rw [ByteArray.size_append, ByteArray.size_append]; omega, by rw [ByteArray.size_append, ByteArray.size_append, ByteArray.size_append]; omega, by kernel_rfl, j + 1, by omega, ⟨by omega, okS_snoc' hok hs hin hupS, by rw [hlast]; exact hml⟩, Le.of id [] ?_⟩
      rw [seg_app eN, eA, List.append_assoc, ← segB, ← hmap]
      simp only [sgsD, sgD, hlast, Mt_tup, Mt_agg, Mt_fn, forall_eq, forall_eq_or_imp, ne_eq, List.all_cons, List.all_nil, pr, Nat.reduceLeDiff, slR_nil, slR_cons, hpR_nil, hpR_cells, hpR_row, idsR_nil, idsR_cons, mtE_v, mtE_sl, mtE_nil, mtE_refl, mtE_row, mtE_born, mtE_ptr, mtE_rp, mtE_agg, mtE_tup, mtE_fn, mtE_ep, MtL_nil, MtL_cons, Mt_v, Mt_sl, Mt_nil, Mt_refl, Mt_row, Mt_born, Mt_ptr, MtO_cells, MtO_row, liveIds, distinct, Dat.v.injEq, Dat.sl.injEq, Value.int.injEq, Value.bool.injEq, Value.string.injEq, lk_cons, lk_nil, subL_nil, subL_cons, upIds, AV.ids, AV.ids.idsL, AObj.ids, Hp.get_cons, get_nil, allCell, AV.cell, vInt, vBool, vStr, id, true_and, and_true, and_self, List.append_nil, List.nil_append, List.not_mem_nil, List.mem_cons, or_false, false_or, or_self, not_true_eq_false, not_false_eq_true, false_imp_iff, false_implies, List.map_nil, not_false_eq_true, List.contains_cons, List.contains_nil, Bool.or_false, Bool.false_or, Bool.true_or, Bool.or_true, Bool.and_true, Bool.true_and, implies_true, if_true, if_false, reduceCtorEq, Nat.reduceEqDiff, Nat.reduceBEq, Nat.reduceAdd, reduceIte, ↓reduceIte]
      exact ⟨by omega, w64 (by omega) (by omega)⟩
  ·simp only [sgsD, G_rmap_at, calmE, F_within, F_vput, AV.flat, AV.flat.flatL, List.length_map, goTG_val, goTG_new, goTG_up, goTG_none, goG_none, goG_new, goG_up, ne_eq, evK, evH, retHF, DRun_mk, runT_nil, runT_none, runT_guard, goT_val, goT_new, goT_store, goTH_true, goTH_false, evO, keys, Option.toList_some, Option.toList_none, nzL_nil, nzL_cons, nz_k, nz_sl, nz_nil, nz_agg, startL, evC, evV, goE_val, goE_new, goE_store, goH_true, goH_false, goG_val, lk_cons, lk_nil, lk_func, lk_int, lk_bool, lk_string, lk_slice, lk_agg, look_mk, St.effOf, eff, effCall, effBinC, isConst, effBin, effUn, effConv, effPick, effNil, effFold, fold1, effLoad, effStore, effFieldAddr, effField, fieldOf, sliceOf, effIndexAddr, effIndex, effLen, effExtract, effSlice, dats, bnd, effBuild, placesOf, effBuildSlice, effMakeSlice, effAppend, srcOf, fillA, chunk, seg, toD, toDs, put, eqAV, fieldsEq, leafEq, strip, unw, allB, selP_or, selP_and, tis, TyD.agg, AV.cells, AV.cell, allCell, vInt, vBool, vStr, subL_nil, subL_cons, upIds, AV.ids, AV.ids.idsL, AObj.ids, drops, Hp.get_cons, get_nil, retF, resL, one, fz, fz.fzL, List.map_cons, List.map_nil, List.nil_append, List.append_nil, List.cons_append, List.all_cons, List.all_nil, List.length_cons, List.length_nil, List.getElem?_cons_zero, List.getElem?_cons_succ, List.getD_cons_zero, List.getD_cons_succ, List.take_succ_cons, List.take_zero, List.drop_succ_cons, List.drop_zero, List.take_nil, List.drop_nil, List.contains_cons, List.contains_nil, Option.getD_some, Option.getD_none, Option.map_some, Option.map_none, if_true, if_false, true_and, and_true, and_self, or_self, or_false, false_or, false_and, and_false, reduceCtorEq, sel_and, sel_or, decide_eq_true_eq, Bool.and_eq_true, Bool.or_eq_true, Bool.and_true, Bool.true_and, Bool.or_false, Bool.false_or, Bool.true_or, Bool.or_true, Bool.not_true, Bool.not_false, Bool.false_eq_true, implies_true, not_false_eq_true, Nat.reduceLT, Nat.reduceEqDiff, Nat.reduceAdd, Nat.reduceMul, Nat.reduceMod, Nat.reduceLeDiff, Nat.reduceBEq, Nat.zero_add, Nat.add_zero, reduceIte, ↓reduceIte, List.not_mem_nil]
   rw [if_neg hj2]
   obtain rfl : j = l.length := by omega
   rw [mapS, if_pos hok]
   exact Sub.refl _
noncomputable def F_rmap : List AV → Option (Prop × AV)
 | [.d (.sl 4 xs)] => some (xs = (xs.map sgOf).map sgD ∧ xs.length ≤ maxLen, mapS (xs.map sgOf))
 | _ => none
theorem rmap_calm : ∀ args sc res, F_rmap args = some (sc, res) → sc → Calm Try.prog 10 args res := by
 intro args sc res h hs
 unfold F_rmap at h
 split at h <;> cases h
 rename_i xs
 obtain ⟨h1, h2⟩ := hs
 have hb := RMap_body (xs.map sgOf) (by simpa using h2)
 rw [sgsD, ← h1] at hb
 exact known_rmap.calm mixed rfl (mapS_ids _) hb
end Go.Proofs.Ytgbialeahdoelaa.Eng

end

section
namespace Go.Proofs.Ytgbialeahdoelaa.Eng
open Go Go.RowKit
def RdL (W : World) (cs : List Value) (xs : List Dat) : Prop := cs.length = xs.length ∧ ∀ (i : Nat) (u : Value) (x : Dat), cs[i]? = some u → xs[i]? = some x → Rd W (fun b => b < W.heap.size) u x
mutual
def datB : Dat → Nat
 | .v (.string s) => s.size + 1
 | .v _ => 1
 | .sl _ xs => rowsB xs + 1
def rowsB : List (List Dat) → Nat
 | [] => 0
 | r :: xs => cellsB r + rowsB xs
def cellsB : List Dat → Nat
 | [] => 0
 | c :: r => datB c + cellsB r
end
mutual
def dwB {H : Type} : DataW H → Nat
 | .lit (.string b) => b.length + 1
 | .slice l _ => dwBs l + 1
 | .agg l => dwBs l + 1
 | _ => 1
def dwBs {H : Type} : List (DataW H) → Nat
 | [] => 0
 | d :: l => dwB d + dwBs l
end
theorem cellsB_app : ∀ a b : List Dat, cellsB (a ++ b) = cellsB a + cellsB b
 | [], b => by simp [cellsB]
 | c :: a, b => by simp only [List.cons_append, cellsB, cellsB_app a b]; omega
theorem rowsB_le {H : Type} : ∀ (xs : List (List Dat)) (ds : List (DataW H)), (∀ (i : Nat) (r : List Dat), xs[i]? = some r → ∃ d, ds[i]? = some d ∧ cellsB r ≤ dwB d) → rowsB xs ≤ dwBs ds
 | [], _, _ => Nat.zero_le _
 | r :: xs, [], h => by obtain ⟨d, hd, _⟩ := h 0 r rfl; cases hd
 | r :: xs, d :: ds, h => by
  obtain ⟨d', hd, h1⟩ := h 0 r rfl
  cases hd
  have := rowsB_le xs ds fun i r hr => h (i + 1) r hr
  simp only [rowsB, dwBs]; omega
theorem cellsB_flat (xs : List (List Dat)) : cellsB xs.flatten = rowsB xs := by
 induction xs with
 | nil => rfl
 | cons r xs ih => simp only [List.flatten_cons, cellsB_app, ih, rowsB]
def IsEnc {T : Type} (P : Program) (fuel : Nat) (t : Nat) (ok : T → Prop) (e : T → List Dat) : Prop :=
 ∀ (H : Type) (enc : TypeId × Value → H) (W : World) (spare : Nat → Bool) (held : Bool) (cs : List Value) (r : DataW H × List MemPlace), DataW.trod enc P W 0 spare held fuel t cs = some r → ∃ x : T, ok x ∧ RdL W cs (e x) ∧ cellsB (e x) ≤ dwB r.1
section
variable {P : Program}
theorem enc_int {fuel t : Nat} {k : IntKind} (ht : P.underlying t = some (.int k)) : IsEnc P fuel t (fun n : Int => (Lit.int k n).wf = true) (fun n => [.v (.int k n)]) := by
 intro H enc W spare held cs r h
 obtain ⟨n, rfl, hr, hw⟩ := DataW.trod_int ht h
 refine ⟨n, hw, ⟨rfl, fun i u x h1 h2 => ?_⟩, by rw [hr]; simp [cellsB, datB, dwB]⟩
 cases i with
 | zero => cases h1; cases h2; exact .v rfl
 | succ i => simp at h1
theorem enc_string {fuel t : Nat} (ht : P.underlying t = some .string) : IsEnc P fuel t (fun s : ByteArray => s.size ≤ maxLen) (fun n => [.v (.string n)]) := by
 intro H enc W spare held cs r h
 obtain ⟨n, rfl, hr, hw⟩ := DataW.trod_string ht h
 refine ⟨n, hw, ⟨rfl, fun i u x h1 h2 => ?_⟩, by rw [hr]; simp only [cellsB, datB, dwB, Array.length_toList]; exact Nat.le_refl _⟩
 cases i with
 | zero => cases h1; cases h2; exact .v rfl
 | succ i => simp at h1
theorem choose_list {T : Type} {p : Nat → T → Prop} : ∀ (n : Nat), (∀ i, i < n → ∃ x, p i x) → ∃ l : List T, l.length = n ∧ ∀ i x, l[i]? = some x → p i x
 | 0, _ => ⟨[], rfl, by simp⟩
 | n + 1, h => by
  obtain ⟨l, h1, h2⟩ := choose_list n (fun i hi => h i (by omega))
  obtain ⟨x, hx⟩ := h n (by omega)
  refine ⟨l ++ [x], by simp [h1], fun i y hy => ?_⟩
  rw [List.getElem?_append] at hy
  split at hy
  ·exact h2 i y hy
  ·have : i = l.length := by
    have := (List.getElem?_eq_some_iff.1 hy).1
    simp at this
    omega
   subst this
   simp at hy
   subst hy
   rw [h1]
   exact hx
theorem enc_slice {T : Type} {fuel t e sz : Nat} {ok : T → Prop} {en : T → List Dat} (ht : P.underlying t = some (.slice e)) (hsz : P.cellsOf e = sz) (h0 : 0 < sz) (hen : ∀ x, (en x).length = sz) (he : ∀ f, f < fuel → IsEnc P f e ok en) :
  IsEnc P fuel t (fun l : List T => l.length ≤ maxLen ∧ ∀ x ∈ l, ok x) (fun l => [.sl sz (l.map en)]) := by
 intro H enc W spare held cs r h
 have single : ∀ (u : Value) (l : List T), l.length ≤ maxLen → (∀ x ∈ l, ok x) → Rd W (fun b => b < W.heap.size) u (.sl sz (l.map en)) → rowsB (l.map en) + 1 ≤ dwB r.1 → ∃ x : List T, (x.length ≤ maxLen ∧ ∀ y ∈ x, ok y) ∧ RdL W [u] [.sl sz (x.map en)] ∧ cellsB [.sl sz (x.map en)] ≤ dwB r.1 := fun u l h1 h2 h3 h4 => by
  refine ⟨l, ⟨h1, h2⟩, ⟨rfl, fun i u' x e1 e2 => ?_⟩, by simp only [cellsB, datB]; omega⟩
  cases i with
  | zero => cases e1; cases e2; exact h3
  | succ i => simp at e1
 rcases DataW.trod_slice ht h with ⟨rfl, hr⟩ | ⟨a, len, cap, elems, rest, n, rfl, rfl, hr, _, hlc, hcm, hel, hget, _, _⟩
 ·exact single _ [] (by simp) (by simp) (.nil sz) (by rw [hr]; simp [rowsB, dwB])
 ·rw [hsz] at hget
  have each : ∀ i, i < len → ∃ x : T, ok x ∧ (∃ d, (elems.map (·.1))[i]? = some d ∧ cellsB (en x) ≤ dwB d) ∧ ∃ cs : List Value, cs.length = sz ∧ (∀ j, j < sz → W.cell? ((a.add (i * sz)).add j) = cs[j]?) ∧ RdL W cs (en x) := fun i hi => by
   have h1 := hget i hi
   rw [List.getElem?_eq_getElem (by omega)] at h1
   cases hc : W.cells? 0 (a.add (i * sz)) sz with
   | none => rw [hc] at h1; cases h1
   | some cs =>
    rw [hc] at h1
    obtain ⟨_, c2, c3⟩ := World.cells?_some hc
    obtain ⟨x, x1, x2, x3⟩ := he n (by omega) H enc W spare held cs _ h1
    exact ⟨x, x1, ⟨_, by rw [List.getElem?_map, List.getElem?_eq_getElem (by omega)]; rfl, x3⟩, cs, c2, c3, x2⟩
  obtain ⟨l, hl1, hl2⟩ := choose_list len each
  have hspot : l ≠ [] → a.spot = none ∧ a.block < W.heap.size := fun hne => by
   have hlen : 0 < len := by rw [← hl1]; exact List.length_pos_iff.2 hne
   obtain ⟨_, _, cs, c2, c3, _⟩ := hl2 0 _ (List.getElem?_eq_getElem (by omega))
   have h0 := c3 0 (by omega)
   rw [List.getElem?_eq_getElem (by omega)] at h0
   have e : (a.add (0 * sz)).add 0 = a := by simp [Addr.add]
   rw [e] at h0
   refine ⟨?_, World.block_lt_of_cell? W a h0⟩
   unfold World.cell? at h0
   split at h0
   ·split at h0
    ·cases h0
    ·rename_i hs; simpa using hs
   ·cases h0
  have ne : l.map en ≠ [] → l ≠ [] := fun h q => h (by rw [q]; rfl)
  have row : ∀ (i j : Nat) (r : List Dat) (x : Dat), (l.map en)[i]? = some r → r[j]? = some x → ∃ u, W.cell? (a.add (i * sz + j)) = some u ∧ Rd W (fun b => b < W.heap.size) u x := fun i j r x h1 h2 => by
   rw [List.getElem?_map] at h1
   cases hx : l[i]? with
   | none => rw [hx] at h1; cases h1
   | some y =>
    rw [hx] at h1
    cases h1
    obtain ⟨_, _, cs, c2, c3, c4, c5⟩ := hl2 i y hx
    have hj : j < sz := by rw [← hen y]; exact (List.getElem?_eq_some_iff.1 h2).1
    have hcj := List.getElem?_eq_getElem (show j < cs.length by omega)
    refine ⟨cs[j], ?_, c5 j _ x hcj h2⟩
    rw [← add_add a (hspot (List.ne_nil_of_mem (List.mem_of_getElem? hx))).1, c3 j hj, hcj]
  refine single _ l (by rw [hl1]; omega) (fun x hx => by
   obtain ⟨i, hi, e⟩ := List.getElem_of_mem hx
   exact (hl2 i x (by rw [← e]; exact List.getElem?_eq_getElem hi)).1) (.sl (fun i j => (W.cell? (a.add (i * sz + j))).getD default) (fun h => (hspot (ne h)).1) (by rw [List.length_map, hl1]) hlc (fun h => (hspot (ne h)).2) (fun i r h1 => ?_) (fun i j r x h1 h2 => ?_) (fun i j r x h1 h2 => ?_)) ?_
  rotate_right
  ·rw [hr]
   simp only [dwB]
   refine Nat.succ_le_succ (rowsB_le _ _ fun i r h1 => ?_)
   rw [List.getElem?_map] at h1
   cases hx : l[i]? with
   | none => rw [hx] at h1; cases h1
   | some y => rw [hx] at h1; cases h1; exact (hl2 i y hx).2.1
  ·rw [List.getElem?_map] at h1
   cases hx : l[i]? with
   | none => rw [hx] at h1; cases h1
   | some y => rw [hx] at h1; cases h1; exact hen y
  ·obtain ⟨u, q1, q2⟩ := row i j r x h1 h2
   rw [q1]; rfl
  ·obtain ⟨u, q1, q2⟩ := row i j r x h1 h2
   rw [q1]; exact q2
def FieldsRd (P : Program) (fuel : Nat) : List Field → Nat → List (Nat × (List Dat → Prop)) → Prop
 | [], _, [] => True
 | f :: fs, off, (n, p) :: l => f.offset = off ∧ P.cellsOf f.type = n ∧ IsEnc (T := { x : List Dat // x.length = n ∧ p x }) P fuel f.type (fun _ => True) (fun x => x.1) ∧ FieldsRd P fuel fs (off + n) l
 | _, _, _ => False
theorem RdL.append {W : World} {cs ds : List Value} {xs ys : List Dat} (h : RdL W cs xs) (k : RdL W ds ys) : RdL W (cs ++ ds) (xs ++ ys) := by
 refine ⟨by simp [h.1, k.1], fun i u x h1 h2 => ?_⟩
 rw [List.getElem?_append] at h1 h2
 rw [h.1] at h1
 split at h1
 ·rename_i hi; rw [if_pos hi] at h2; exact h.2 i u x h1 h2
 ·rename_i hi; rw [if_neg hi] at h2; exact k.2 _ u x h1 h2
theorem IsEnc.sub {T : Type} {fuel t n : Nat} {ok : T → Prop} {e : T → List Dat} (h : IsEnc P fuel t ok e) (hn : ∀ x, (e x).length = n) : IsEnc (T := { x : List Dat // x.length = n ∧ ∃ y, ok y ∧ x = e y }) P fuel t (fun _ => True) (fun x => x.1) := by
 intro H enc W spare held cs r hr
 obtain ⟨x, h1, h2, h3⟩ := h H enc W spare held cs r hr
 exact ⟨⟨e x, hn x, x, h1, rfl⟩, trivial, h2, h3⟩
theorem enc_struct {fuel t : Nat} {fs : Array Field} {l : List (Nat × (List Dat → Prop))} (ht : P.underlying t = some (.struct fs)) (hc : P.cellsOf t = (l.map (·.1)).sum) (hf : ∀ f, f < fuel → FieldsRd P f fs.toList 0 l) :
  ∀ (H : Type) (enc : TypeId × Value → H) (W : World) (spare : Nat → Bool) (held : Bool) (cs : List Value) (r : DataW H × List MemPlace), DataW.trod enc P W 0 spare held fuel t cs = some r →
   ∃ xs : List (List Dat), xs.length = l.length ∧ (∀ (i : Nat) (x : List Dat) (p : Nat × (List Dat → Prop)), xs[i]? = some x → l[i]? = some p → x.length = p.1 ∧ p.2 x) ∧ RdL W cs xs.flatten ∧ cellsB xs.flatten ≤ dwB r.1 := by
 intro H enc W spare held cs r h
 obtain ⟨ys, n, hn, hr0, hlen, hyl, hy⟩ := DataW.trod_struct ht h
 have main : ∀ (gs : List Field) (zs : List (DataW H × List MemPlace)) (off : Nat) (l : List (Nat × (List Dat → Prop))), FieldsRd P n gs off l → cs.length = off + (l.map (·.1)).sum → (∀ (i : Nat) (f : Field), gs[i]? = some f → ∃ r, DataW.trod enc P W 0 spare held n f.type ((cs.drop f.offset).take (P.cellsOf f.type)) = some r ∧ ∃ k, zs[i]? = some r ∧ k = i) →
   ∃ xs : List (List Dat), xs.length = l.length ∧ (∀ (i : Nat) (x : List Dat) (p : Nat × (List Dat → Prop)), xs[i]? = some x → l[i]? = some p → x.length = p.1 ∧ p.2 x) ∧ RdL W (cs.drop off) xs.flatten ∧ ∀ (i : Nat) (x : List Dat), xs[i]? = some x → ∃ d, (zs.map (·.1))[i]? = some d ∧ cellsB x ≤ dwB d := by
  intro gs
  induction gs with
  | nil =>
   intro zs off l hF hl _
   cases l with
   | nil => exact ⟨[], rfl, by simp, by rw [List.drop_eq_nil_of_le (by simp at hl; omega)]; exact ⟨rfl, by simp⟩, by simp⟩
   | cons _ _ => exact hF.elim
  | cons f gs ih =>
   intro zs off l hF hl hr
   cases l with
   | nil => exact hF.elim
   | cons p l =>
    obtain ⟨k, q⟩ := p
    obtain ⟨rfl, h2, h3, h4⟩ := hF
    simp only [List.map_cons, List.sum_cons] at hl
    obtain ⟨r0, hr0, _, hz0, _⟩ := hr 0 f rfl
    rw [h2] at hr0
    obtain ⟨x, _, hx, hxb⟩ := h3 H enc W spare held _ _ hr0
    obtain ⟨xs, g1, g2, g3, g4⟩ := ih zs.tail (f.offset + k) l h4 (by omega) (fun i g hg => by
     obtain ⟨r1, q1, _, q2, _⟩ := hr (i + 1) g hg
     exact ⟨r1, q1, i, by rw [List.getElem?_tail]; exact q2, rfl⟩)
    refine ⟨x.1 :: xs, by simp [g1], fun i y p e1 e2 => ?_, ?_, fun i y e1 => ?_⟩
    rotate_right
    ·cases i with
     | zero => cases e1; exact ⟨r0.1, by rw [List.getElem?_map, hz0]; rfl, hxb⟩
     | succ i =>
      obtain ⟨d, q1, q2⟩ := g4 i y (by simpa using e1)
      rw [List.getElem?_map, List.getElem?_tail] at q1
      exact ⟨d, by rw [List.getElem?_map]; exact q1, q2⟩
    ·cases i with
     | zero => cases e1; cases e2; exact x.2
     | succ i => exact g2 i y p (by simpa using e1) (by simpa using e2)
    ·have e : cs.drop f.offset = (cs.drop f.offset).take k ++ cs.drop (f.offset + k) := by
      rw [← List.drop_drop, List.take_append_drop]
     rw [e, List.flatten_cons]
     exact hx.append g3
 obtain ⟨xs, g1, g2, g3, g4⟩ := main fs.toList ys 0 l (hf n (by omega)) (by rw [hlen, hc]; omega) (fun i f hf' => by
  have hget : fs[i]? = some f := by rw [← hf']; simp
  have hi' : i < fs.size := (Array.getElem?_eq_some_iff.1 hget).1
  refine ⟨ys[i], ?_, i, List.getElem?_eq_getElem (by omega), rfl⟩
  rw [hy i f hget, List.getElem?_eq_getElem (by omega)])
 refine ⟨xs, g1, g2, by simpa using g3, ?_⟩
 rw [cellsB_flat, hr0]
 simp only [dwB]
 exact Nat.le_succ_of_le (rowsB_le _ _ g4)
theorem law_calls {Γ : Gam} (hm : P.follows .mixedOrders = true) (K : Known P Γ) {g : Nat} {args : List AV} (hids : AV.ids.idsL args = []) (hb : Body P Γ (DRun P Γ) g args (vBool true)) {W : World} {vals : Array Value} (hsz : vals.size = args.length)
  (hv : ∀ (i : Nat) (u : Value) (c : AV), vals[i]? = some u → args[i]? = some c → Val W (fun b => b < W.heap.size) (fun _ => .nilFunc) u c) (ht : TabsAt W fun b => b < W.heap.size := by exact fun _ _ h => by cases h) : Calls P g vals W fun e W' => e = .returned (.bool true) ∧ Below W.heap.size W W' := by
 obtain ⟨_, _, hc⟩ := Body.calm K.ok (Draws hm K.ok K.loc) hids rfl hb
 let C : Ctx := ⟨W, fun _ => False, fun b => b < W.heap.size, fun _ h => h, fun _ _ h => h, fun _ => .nilFunc, ht⟩
 have I : Inv C (fun _ => .nilFunc) W [] := ⟨rfl, rfl, rfl, Nat.le_refl _, fun _ _ _ => rfl, fun o obj ho => by simp [Hp.get] at ho, fun o o' obj obj' b ho => by simp [Hp.get] at ho, fun o obj b ho => by simp [Hp.get] at ho⟩
 have him : ∀ b, b < W.heap.size → im C (fun _ => .nilFunc) W [] b ∧ W.heap[b]? = W.heap[b]? := fun b hb => ⟨⟨hb, .inl hb, fun o obj ho => by simp [Hp.get] at ho⟩, rfl⟩
 refine (hc C _ W [] vals I hsz fun i u c h1 h2 => (hv i u c h1 h2).mono him fun _ _ => rfl).mono fun e W' ⟨v, h1, h2, h3, h4, h5, h6, h7⟩ => ?_
 cases h7 with
 | d h7 =>
 cases h7
 exact ⟨h1, h2, h3, h4, h5, h6⟩
theorem val_one {W : World} {u : Value} {x : Dat} {m : Nat → Value} (h : RdL W [u] [x]) : Val W (fun b => b < W.heap.size) m u (.d x) := .d (h.2 0 u x rfl rfl)
end
end Go.Proofs.Ytgbialeahdoelaa.Eng

end

section
namespace Go.Proofs.Ytgbialeahdoelaa.Eng
open Go Go.Proofs.Ytgbialeahdoelaa.Base
set_option maxRecDepth 100000
set_option linter.unusedSimpArgs false
set_option linter.unusedVariables false
theorem okS_mono {l : List Sg} {i j : Nat} (h : okS l j) (hij : i ≤ j) : okS l i := fun k hk => h k (by omega)
theorem mapB_len {l : List Sg} : ∀ {j : Nat}, okS l j → j ≤ l.length → (mapB l j).length ≤ 100037 * j
 | 0, _, _ => by simp [mapB]
 | j + 1, h, hj => by
  have ih := mapB_len (okS_mono h (Nat.le_succ j)) (by omega)
  obtain ⟨s, hs⟩ : ∃ s, l[j]? = some s := ⟨_, List.getElem?_eq_getElem (by omega)⟩
  have hr := last_in h (Nat.lt_succ_self j) hs
  have h2 := seg_len j (lastS (l.take j)) s hr.2.1
  obtain ⟨⟨⟨k1, k2⟩, _⟩, _⟩ := h j (Nat.lt_succ_self j) s hs
  rw [mapB, hs, List.length_append]
  simp only []
  omega
def mapT (l : List Sg) : ByteArray := ⟨(mapB l l.length).toArray⟩
theorem mapS_yes {l : List Sg} (h : okS l l.length) : mapS l = .tup [vStr (mapT l), vBool true] := if_pos h
theorem mapS_no {l : List Sg} (h : ¬ okS l l.length) : mapS l = .tup [vStr ByteArray.empty, vBool false] := if_neg h
def farL (s : Sg) : Prop := s.a > 200 ∧ s.a ≤ 100000
instance (s : Sg) : Decidable (farL s) := by unfold farL; infer_instance
def fewS (l : List Sg) : Bool := decide ((∀ s ∈ l, ¬ farL s) ∧ l.length ≤ 60)
theorem fewS_body (l : List Sg) (hl : l.length ≤ maxLen) : Body Try.prog Gam.none (DRun Try.prog Gam.none) 8 [.d (sgsD l)] (vBool (fewS l)) := by
 refine Body.of Try.func8 Try.ntmps8 (by kernel_rfl) rfl rfl rfl ?_
 have hl : l.length ≤ 9223372036854775807 := hl
 simp only [sgsD, List.length_map, goTG_val, goTG_new, goTG_up, goTG_none, goG_none, goG_new, goG_up, ne_eq, evK, evH, retHF, DRun_mk, runT_nil, runT_none, runT_guard, goT_val, goT_new, goT_store, goTH_true, goTH_false, evO, keys, Option.toList_some, Option.toList_none, nzL_nil, nzL_cons, nz_k, nz_sl, nz_nil, nz_agg, startL, evC, evV, goE_val, goE_new, goE_store, goH_true, goH_false, goG_val, lk_cons, lk_nil, lk_func, lk_int, lk_bool, lk_string, lk_slice, lk_agg, look_mk, St.effOf, eff, effCall, effBinC, isConst, effBin, effUn, effConv, effPick, effNil, effFold, fold1, effLoad, effStore, effFieldAddr, effField, fieldOf, sliceOf, effIndexAddr, effIndex, effLen, effExtract, effSlice, dats, bnd, effBuild, placesOf, effBuildSlice, effMakeSlice, effAppend, srcOf, fillA, chunk, seg, toD, toDs, put, eqAV, fieldsEq, leafEq, strip, unw, allB, selP_or, selP_and, tis, TyD.agg, AV.cells, AV.cell, allCell, vInt, vBool, vStr, subL_nil, subL_cons, upIds, AV.ids, AV.ids.idsL, AObj.ids, drops, Hp.get_cons, get_nil, retF, resL, one, fz, fz.fzL, List.map_cons, List.map_nil, List.nil_append, List.append_nil, List.cons_append, List.all_cons, List.all_nil, List.length_cons, List.length_nil, List.getElem?_cons_zero, List.getElem?_cons_succ, List.getD_cons_zero, List.getD_cons_succ, List.take_succ_cons, List.take_zero, List.drop_succ_cons, List.drop_zero, List.take_nil, List.drop_nil, List.contains_cons, List.contains_nil, Option.getD_some, Option.getD_none, Option.map_some, Option.map_none, if_true, if_false, true_and, and_true, and_self, or_self, or_false, false_or, false_and, and_false, reduceCtorEq, sel_and, sel_or, decide_eq_true_eq, Bool.and_eq_true, Bool.or_eq_true, Bool.and_true, Bool.true_and, Bool.or_false, Bool.false_or, Bool.true_or, Bool.or_true, Bool.not_true, Bool.not_false, Bool.false_eq_true, implies_true, not_false_eq_true, Nat.reduceLT, Nat.reduceEqDiff, Nat.reduceAdd, Nat.reduceMul, Nat.reduceMod, Nat.reduceLeDiff, Nat.reduceBEq, Nat.zero_add, Nat.add_zero, reduceIte, ↓reduceIte, List.not_mem_nil]
 refine wpc_loop (fun j : Nat => ⟨27, [], [(0, .d (sgsD l)), (3, vInt .i64 j)], []⟩) (fun j => j ≤ l.length ∧ ∀ k, k < j → ∀ s, l[k]? = some s → ¬ farL s) (fun j => l.length - j) 0 ⟨Nat.zero_le _, fun k hk => absurd hk (Nat.not_lt_zero k)⟩ ?_ ?_
 ·refine Le.of id [] ?_
  simp only [sgsD, Mt_tup, Mt_agg, Mt_fn, forall_eq, forall_eq_or_imp, ne_eq, List.all_cons, List.all_nil, pr, Nat.reduceLeDiff, slR_nil, slR_cons, hpR_nil, hpR_cells, hpR_row, idsR_nil, idsR_cons, mtE_v, mtE_sl, mtE_nil, mtE_refl, mtE_row, mtE_born, mtE_ptr, mtE_rp, mtE_agg, mtE_tup, mtE_fn, mtE_ep, MtL_nil, MtL_cons, Mt_v, Mt_sl, Mt_nil, Mt_refl, Mt_row, Mt_born, Mt_ptr, MtO_cells, MtO_row, liveIds, distinct, Dat.v.injEq, Dat.sl.injEq, Value.int.injEq, Value.bool.injEq, Value.string.injEq, lk_cons, lk_nil, subL_nil, subL_cons, upIds, AV.ids, AV.ids.idsL, AObj.ids, Hp.get_cons, get_nil, allCell, AV.cell, vInt, vBool, vStr, id, true_and, and_true, and_self, List.append_nil, List.nil_append, List.not_mem_nil, List.mem_cons, or_false, false_or, or_self, not_true_eq_false, not_false_eq_true, false_imp_iff, false_implies, List.map_nil, not_false_eq_true, List.contains_cons, List.contains_nil, Bool.or_false, Bool.false_or, Bool.true_or, Bool.or_true, Bool.and_true, Bool.true_and, implies_true, if_true, if_false, reduceCtorEq, Nat.reduceEqDiff, Nat.reduceBEq, Nat.reduceAdd, reduceIte, ↓reduceIte]
  rfl
 ·rintro j ⟨hj, hk⟩
  by_cases hj2 : (j : Int) < l.length
  ·obtain ⟨d, hd⟩ : ∃ d, l[j]? = some d := ⟨_, List.getElem?_eq_getElem (by omega)⟩
   have hg : ∀ z, (l.map sgD).getD (j : Int).toNat z = sgD d := getD_map hd
   simp only [sgsD, hg, sgD, List.length_map, goTG_val, goTG_new, goTG_up, goTG_none, goG_none, goG_new, goG_up, ne_eq, evK, evH, retHF, DRun_mk, runT_nil, runT_none, runT_guard, goT_val, goT_new, goT_store, goTH_true, goTH_false, evO, keys, Option.toList_some, Option.toList_none, nzL_nil, nzL_cons, nz_k, nz_sl, nz_nil, nz_agg, startL, evC, evV, goE_val, goE_new, goE_store, goH_true, goH_false, goG_val, lk_cons, lk_nil, lk_func, lk_int, lk_bool, lk_string, lk_slice, lk_agg, look_mk, St.effOf, eff, effCall, effBinC, isConst, effBin, effUn, effConv, effPick, effNil, effFold, fold1, effLoad, effStore, effFieldAddr, effField, fieldOf, sliceOf, effIndexAddr, effIndex, effLen, effExtract, effSlice, dats, bnd, effBuild, placesOf, effBuildSlice, effMakeSlice, effAppend, srcOf, fillA, chunk, seg, toD, toDs, put, eqAV, fieldsEq, leafEq, strip, unw, allB, selP_or, selP_and, tis, TyD.agg, AV.cells, AV.cell, allCell, vInt, vBool, vStr, subL_nil, subL_cons, upIds, AV.ids, AV.ids.idsL, AObj.ids, drops, Hp.get_cons, get_nil, retF, resL, one, fz, fz.fzL, List.map_cons, List.map_nil, List.nil_append, List.append_nil, List.cons_append, List.all_cons, List.all_nil, List.length_cons, List.length_nil, List.getElem?_cons_zero, List.getElem?_cons_succ, List.getD_cons_zero, List.getD_cons_succ, List.take_succ_cons, List.take_zero, List.drop_succ_cons, List.drop_zero, List.take_nil, List.drop_nil, List.contains_cons, List.contains_nil, Option.getD_some, Option.getD_none, Option.map_some, Option.map_none, if_true, if_false, true_and, and_true, and_self, or_self, or_false, false_or, false_and, and_false, reduceCtorEq, sel_and, sel_or, decide_eq_true_eq, Bool.and_eq_true, Bool.or_eq_true, Bool.and_true, Bool.true_and, Bool.or_false, Bool.false_or, Bool.true_or, Bool.or_true, Bool.not_true, Bool.not_false, Bool.false_eq_true, implies_true, not_false_eq_true, Nat.reduceLT, Nat.reduceEqDiff, Nat.reduceAdd, Nat.reduceMul, Nat.reduceMod, Nat.reduceLeDiff, Nat.reduceBEq, Nat.zero_add, Nat.add_zero, reduceIte, ↓reduceIte, List.not_mem_nil]
   rw [if_pos hj2]
   refine ⟨by omega, fun _ => by omega, ?_⟩
   by_cases hr : farL d
   ·rw [if_pos (show _ ∧ _ from hr)]
    have : fewS l = false := decide_eq_false fun h => h.1 d (List.mem_of_getElem? hd) hr
    rw [this]
   ·rw [if_neg (show ¬ (_ ∧ _) from hr)]
    refine ⟨j + 1, by omega, ⟨by omega, fun k hk2 d' hd' => ?_⟩, Le.of id [] ?_⟩
    ·rcases Nat.lt_succ_iff_lt_or_eq.mp hk2 with h | rfl
     ·exact hk k h d' hd'
     ·rw [hd] at hd'; cases hd'; exact hr
    ·simp only [sgsD, Mt_tup, Mt_agg, Mt_fn, forall_eq, forall_eq_or_imp, ne_eq, List.all_cons, List.all_nil, pr, Nat.reduceLeDiff, slR_nil, slR_cons, hpR_nil, hpR_cells, hpR_row, idsR_nil, idsR_cons, mtE_v, mtE_sl, mtE_nil, mtE_refl, mtE_row, mtE_born, mtE_ptr, mtE_rp, mtE_agg, mtE_tup, mtE_fn, mtE_ep, MtL_nil, MtL_cons, Mt_v, Mt_sl, Mt_nil, Mt_refl, Mt_row, Mt_born, Mt_ptr, MtO_cells, MtO_row, liveIds, distinct, Dat.v.injEq, Dat.sl.injEq, Value.int.injEq, Value.bool.injEq, Value.string.injEq, lk_cons, lk_nil, subL_nil, subL_cons, upIds, AV.ids, AV.ids.idsL, AObj.ids, Hp.get_cons, get_nil, allCell, AV.cell, vInt, vBool, vStr, id, true_and, and_true, and_self, List.append_nil, List.nil_append, List.not_mem_nil, List.mem_cons, or_false, false_or, or_self, not_true_eq_false, not_false_eq_true, false_imp_iff, false_implies, List.map_nil, not_false_eq_true, List.contains_cons, List.contains_nil, Bool.or_false, Bool.false_or, Bool.true_or, Bool.or_true, Bool.and_true, Bool.true_and, implies_true, if_true, if_false, reduceCtorEq, Nat.reduceEqDiff, Nat.reduceBEq, Nat.reduceAdd, reduceIte, ↓reduceIte]
     exact w64 (by omega) (by omega)
  ·simp only [sgsD, List.length_map, goTG_val, goTG_new, goTG_up, goTG_none, goG_none, goG_new, goG_up, ne_eq, evK, evH, retHF, DRun_mk, runT_nil, runT_none, runT_guard, goT_val, goT_new, goT_store, goTH_true, goTH_false, evO, keys, Option.toList_some, Option.toList_none, nzL_nil, nzL_cons, nz_k, nz_sl, nz_nil, nz_agg, startL, evC, evV, goE_val, goE_new, goE_store, goH_true, goH_false, goG_val, lk_cons, lk_nil, lk_func, lk_int, lk_bool, lk_string, lk_slice, lk_agg, look_mk, St.effOf, eff, effCall, effBinC, isConst, effBin, effUn, effConv, effPick, effNil, effFold, fold1, effLoad, effStore, effFieldAddr, effField, fieldOf, sliceOf, effIndexAddr, effIndex, effLen, effExtract, effSlice, dats, bnd, effBuild, placesOf, effBuildSlice, effMakeSlice, effAppend, srcOf, fillA, chunk, seg, toD, toDs, put, eqAV, fieldsEq, leafEq, strip, unw, allB, selP_or, selP_and, tis, TyD.agg, AV.cells, AV.cell, allCell, vInt, vBool, vStr, subL_nil, subL_cons, upIds, AV.ids, AV.ids.idsL, AObj.ids, drops, Hp.get_cons, get_nil, retF, resL, one, fz, fz.fzL, List.map_cons, List.map_nil, List.nil_append, List.append_nil, List.cons_append, List.all_cons, List.all_nil, List.length_cons, List.length_nil, List.getElem?_cons_zero, List.getElem?_cons_succ, List.getD_cons_zero, List.getD_cons_succ, List.take_succ_cons, List.take_zero, List.drop_succ_cons, List.drop_zero, List.take_nil, List.drop_nil, List.contains_cons, List.contains_nil, Option.getD_some, Option.getD_none, Option.map_some, Option.map_none, if_true, if_false, true_and, and_true, and_self, or_self, or_false, false_or, false_and, and_false, reduceCtorEq, sel_and, sel_or, decide_eq_true_eq, Bool.and_eq_true, Bool.or_eq_true, Bool.and_true, Bool.true_and, Bool.or_false, Bool.false_or, Bool.true_or, Bool.or_true, Bool.not_true, Bool.not_false, Bool.false_eq_true, implies_true, not_false_eq_true, Nat.reduceLT, Nat.reduceEqDiff, Nat.reduceAdd, Nat.reduceMul, Nat.reduceMod, Nat.reduceLeDiff, Nat.reduceBEq, Nat.zero_add, Nat.add_zero, reduceIte, ↓reduceIte, List.not_mem_nil]
   rw [if_neg hj2]
   have : fewS l = decide ((l.length : Int) ≤ 60) := by
    unfold fewS
    rw [decide_eq_decide]
    constructor
    ·rintro ⟨-, h⟩; omega
    ·intro h
     refine ⟨fun s hs => ?_, by omega⟩
     obtain ⟨k, hk2⟩ := List.getElem?_of_mem hs
     exact hk k (by have := (List.getElem?_eq_some_iff.mp hk2).1; omega) s hk2
   rw [this]
def F_fewS : List AV → Option (Prop × AV)
 | [.d (.sl 4 xs)] => some (xs = (xs.map sgOf).map sgD ∧ xs.length ≤ maxLen, vBool (fewS (xs.map sgOf)))
 | _ => none
theorem fewS_calm : ∀ args sc res, F_fewS args = some (sc, res) → sc → Calm Try.prog 8 args res := by
 intro args sc res h hs
 unfold F_fewS at h
 split at h <;> cases h
 rename_i xs
 obtain ⟨h1, h2⟩ := hs
 have hb := fewS_body (xs.map sgOf) (by simpa using h2)
 rw [sgsD, ← h1] at hb
 exact (Known.none _).calm mixed rfl rfl hb
theorem encT47 (f : Nat) : IsEnc Try.prog f 47 (fun p : Sg => (((Lit.int .i64 p.a).wf = true ∧ (Lit.int .i64 p.b).wf = true) ∧ (Lit.int .i64 p.c).wf = true) ∧ (Lit.int .i64 p.d).wf = true) (fun p => sgD p) := by
 intro H enc W spare held cs r h
 obtain ⟨xs, h1, h2, h3⟩ := enc_struct (l := [(1, _), (1, _), (1, _), (1, _)]) Try.underlying47 (by kernel_rfl) (fun g hg => ⟨rfl, by kernel_rfl, (enc_int Try.underlying3).sub (fun _ => rfl), rfl, by kernel_rfl, (enc_int Try.underlying3).sub (fun _ => rfl), rfl, by kernel_rfl, (enc_int Try.underlying3).sub (fun _ => rfl), rfl, by kernel_rfl, (enc_int Try.underlying3).sub (fun _ => rfl), trivial⟩) H enc W spare held cs r h
 match xs, h1 with
 | [a, b, c, d], _ =>
  obtain ⟨-, ta, wa, ha⟩ := h2 0 a _ rfl rfl
  obtain ⟨-, tb, wb, hb⟩ := h2 1 b _ rfl rfl
  obtain ⟨-, tc, wc, hc⟩ := h2 2 c _ rfl rfl
  obtain ⟨-, td, wd, hd⟩ := h2 3 d _ rfl rfl
  subst ha hb hc hd
  exact ⟨⟨ta, tb, tc, td⟩, ⟨⟨⟨wa, wb⟩, wc⟩, wd⟩, h3⟩
def upO : Option Sg → Sg → Bool
 | some p, s => decide (upS p s)
 | none, _ => true
def okB : Option Sg → List Sg → Bool
 | _, [] => true
 | p, s :: l => decide (inS s) && upO p s && okB (some s) l
end Go.Proofs.Ytgbialeahdoelaa.Eng

end

section
namespace Go.Proofs.Ytgbialeahdoelaa.Eng
open Go Go.Proofs.Ytgbialeahdoelaa.Base
set_option maxRecDepth 100000
set_option linter.unusedSimpArgs false
def alls : Nat → List Int → List Int
 | 0, _ => []
 | n + 1, l => if l = [] then [] else (Utf.dec l).1 :: alls n (l.drop (Utf.dec l).2.1.toNat)
theorem alls_nil (n : Nat) : alls n [] = [] := by cases n <;> rfl
theorem alls_fuel : ∀ (n m : Nat) (l : List Int), Bytes l → l.length ≤ n → l.length ≤ m → alls n l = alls m l
 | 0, m, l, _, h, _ => by
  obtain rfl : l = [] := List.eq_nil_of_length_eq_zero (Nat.le_zero.mp h)
  rw [alls_nil, alls_nil]
 | n + 1, 0, l, _, _, h => by
  obtain rfl : l = [] := List.eq_nil_of_length_eq_zero (Nat.le_zero.mp h)
  rw [alls_nil, alls_nil]
 | n + 1, m + 1, l, hb, h1, h2 => by
  unfold alls
  by_cases h : l = []
  ·rw [if_pos h, if_pos h]
  ·have := Utf.dec_len hb h
   rw [if_neg h, if_neg h, alls_fuel n m _ (fun x hx => hb x (List.mem_of_mem_drop hx)) (by rw [List.length_drop]; omega) (by rw [List.length_drop]; omega)]
theorem alls_len : ∀ (n : Nat) (l : List Int), (alls n l).length ≤ n
 | 0, _ => Nat.le_refl 0
 | n + 1, l => by
  unfold alls
  split
  ·exact Nat.zero_le _
  ·simp only [List.length_cons]; have := alls_len n (l.drop (Utf.dec l).2.1.toNat); omega
def F_All : List AV → Option (Prop × AV)
 | [.d (.v (.string s))] => some (s.size ≤ 140737488355, .d (intsD (alls s.size (sB s))))
 | _ => none
noncomputable def G_all : Gam := Gam.none.add 70 fun a => F_Next (NT.nz.nzL [.s 1, .k] a)
theorem G_all_at (h : Nat → Option AObj) (d : Nat) (a : List AV) : G_all 70 h d a = calmE (fun a => F_Next (NT.nz.nzL [.s 1, .k] a)) h a := rfl
theorem known_all : Known Try.prog G_all := (Known.none _).addC _ Next_calm
theorem all_step {l o : List Int} {i : Nat} (hb : Bytes l) (h1 : i < l.length) (hr : ∀ n, l.length - i ≤ n → o ++ alls n (l.drop i) = alls l.length l) : ∃ r k ok, Utf.nx l i = (r, ((k : Nat) : Int), ok) ∧ 1 ≤ k ∧ i + k ≤ l.length ∧ ∀ n, l.length - (i + k) ≤ n → (o ++ [r]) ++ alls n (l.drop (i + k)) = alls l.length l := by
 have hne : l.drop i ≠ [] := fun h => by
  have := List.drop_eq_nil_iff.mp h
  omega
 have hbd : Bytes (l.drop i) := fun x hx => hb x (List.mem_of_mem_drop hx)
 have hd := Utf.dec_len hbd hne
 rw [List.length_drop] at hd
 have hnx : Utf.nx l i = Utf.dec (l.drop i) := by rw [Utf.nx, if_neg (by omega), Int.toNat_natCast]
 have hone : ∀ n, alls (n + 1) (l.drop i) = (Utf.dec (l.drop i)).1 :: alls n ((l.drop i).drop (Utf.dec (l.drop i)).2.1.toNat) := fun n => by rw [alls, if_neg hne]
 rw [hnx]
 generalize Utf.dec (l.drop i) = q at hd hone ⊢
 obtain ⟨r, n, ok⟩ := q
 simp only [] at hd hone
 obtain ⟨k, rfl⟩ := Int.eq_ofNat_of_zero_le (show 0 ≤ n by omega)
 refine ⟨r, k, ok, rfl, by omega, by omega, fun n hn => ?_⟩
 have := hr (l.length - i + n + 1) (by omega)
 rw [hone, Int.toNat_natCast, List.drop_drop] at this
 rw [List.append_assoc, List.singleton_append, ← this, alls_fuel n (l.length - i + n) _ (fun x hx => hb x (List.mem_of_mem_drop hx)) (by rw [List.length_drop]; omega) (by rw [List.length_drop]; omega)]
theorem All_body (s : ByteArray) (hl : s.size ≤ 140737488355) : Body Try.prog G_all (DRun Try.prog G_all) 45 [.d (.v (.string s))] (.d (intsD (alls s.size (sB s)))) := by
 refine Body.of Try.func45 Try.ntmps45 (by kernel_rfl) rfl rfl rfl ?_
 have hb := sB_bytes s
 have hn := sB_len s
 simp only [intsD, bytesD, sB_rows, G_all_at, calmE, F_Next, AV.flat, AV.flat.flatL, getD_iD, iD, num_iD, List.length_map, ← hn, goTG_val, goTG_new, goTG_up, goTG_none, goG_none, goG_new, goG_up, ne_eq, evK, evH, retHF, DRun_mk, runT_nil, runT_none, runT_guard, goT_val, goT_new, goT_store, goTH_true, goTH_false, evO, keys, Option.toList_some, Option.toList_none, nzL_nil, nzL_cons, nz_k, nz_sl, nz_nil, nz_agg, startL, evC, evV, goE_val, goE_new, goE_store, goH_true, goH_false, goG_val, lk_cons, lk_nil, lk_func, lk_int, lk_bool, lk_string, lk_slice, lk_agg, look_mk, St.effOf, eff, effCall, effBinC, isConst, effBin, effUn, effConv, effPick, effNil, effFold, fold1, effLoad, effStore, effFieldAddr, effField, fieldOf, sliceOf, effIndexAddr, effIndex, effLen, effExtract, effSlice, dats, bnd, effBuild, placesOf, effBuildSlice, effMakeSlice, effAppend, srcOf, fillA, chunk, seg, toD, toDs, put, eqAV, fieldsEq, leafEq, strip, unw, allB, selP_or, selP_and, tis, TyD.agg, AV.cells, AV.cell, allCell, vInt, vBool, vStr, subL_nil, subL_cons, upIds, AV.ids, AV.ids.idsL, AObj.ids, drops, Hp.get_cons, get_nil, retF, resL, one, fz, fz.fzL, List.map_cons, List.map_nil, List.nil_append, List.append_nil, List.cons_append, List.all_cons, List.all_nil, List.length_cons, List.length_nil, List.getElem?_cons_zero, List.getElem?_cons_succ, List.getD_cons_zero, List.getD_cons_succ, List.take_succ_cons, List.take_zero, List.drop_succ_cons, List.drop_zero, List.take_nil, List.drop_nil, List.contains_cons, List.contains_nil, Option.getD_some, Option.getD_none, Option.map_some, Option.map_none, if_true, if_false, true_and, and_true, and_self, or_self, or_false, false_or, false_and, and_false, reduceCtorEq, sel_and, sel_or, decide_eq_true_eq, Bool.and_eq_true, Bool.or_eq_true, Bool.and_true, Bool.true_and, Bool.or_false, Bool.false_or, Bool.true_or, Bool.or_true, Bool.not_true, Bool.not_false, Bool.false_eq_true, implies_true, not_false_eq_true, Nat.reduceLT, Nat.reduceEqDiff, Nat.reduceAdd, Nat.reduceMul, Nat.reduceMod, Nat.reduceLeDiff, Nat.reduceBEq, Nat.zero_add, Nat.add_zero, reduceIte, ↓reduceIte, List.not_mem_nil]
 rw [← hn] at hl
 generalize sB s = l at hb hn hl ⊢
 clear hn
 refine wpc_loop (fun p : List Int × Nat => ⟨30, [100], [(3, .d (bytesD l)), (4, .row 100 p.1.length), (5, vInt .i64 p.2)], [(100, some (.row 3 1 (p.1.map (iD .i64))))]⟩)
  (fun p => p.2 ≤ l.length ∧ p.1.length ≤ p.2 ∧ ∀ n, l.length - p.2 ≤ n → p.1 ++ alls n (l.drop p.2) = alls l.length l) (fun p => l.length - p.2) ([], 0) ⟨Nat.zero_le _, Nat.le_refl _, fun n hn => ?_⟩ ?_ ?_
 ·rw [List.nil_append, List.drop_zero]
  exact alls_fuel _ _ _ hb hn (Nat.le_refl _)
 ·refine Le.of id [100] ?_
  simp only [bytesD, List.length_nil, List.length_map, List.map_nil, Mt_tup, Mt_agg, Mt_fn, forall_eq, forall_eq_or_imp, ne_eq, List.all_cons, List.all_nil, pr, Nat.reduceLeDiff, slR_nil, slR_cons, hpR_nil, hpR_cells, hpR_row, idsR_nil, idsR_cons, mtE_v, mtE_sl, mtE_nil, mtE_refl, mtE_row, mtE_born, mtE_ptr, mtE_rp, mtE_agg, mtE_tup, mtE_fn, mtE_ep, MtL_nil, MtL_cons, Mt_v, Mt_sl, Mt_nil, Mt_refl, Mt_row, Mt_born, Mt_ptr, MtO_cells, MtO_row, liveIds, distinct, Dat.v.injEq, Dat.sl.injEq, Value.int.injEq, Value.bool.injEq, Value.string.injEq, lk_cons, lk_nil, subL_nil, subL_cons, upIds, AV.ids, AV.ids.idsL, AObj.ids, Hp.get_cons, get_nil, allCell, AV.cell, vInt, vBool, vStr, id, true_and, and_true, and_self, List.append_nil, List.nil_append, List.not_mem_nil, List.mem_cons, or_false, false_or, or_self, not_true_eq_false, not_false_eq_true, false_imp_iff, false_implies, List.map_nil, not_false_eq_true, List.contains_cons, List.contains_nil, Bool.or_false, Bool.false_or, Bool.true_or, Bool.or_true, Bool.and_true, Bool.true_and, implies_true, if_true, if_false, reduceCtorEq, Nat.reduceEqDiff, Nat.reduceBEq, Nat.reduceAdd, reduceIte, ↓reduceIte]
  rfl
 ·rintro ⟨o, i⟩ ⟨hi, ho, hr⟩
  simp only [] at hi ho hr
  simp only [intsD, bytesD, G_all_at, calmE, F_Next, AV.flat, AV.flat.flatL, getD_iD, iD, num_iD, List.length_map, goTG_val, goTG_new, goTG_up, goTG_none, goG_none, goG_new, goG_up, ne_eq, evK, evH, retHF, DRun_mk, runT_nil, runT_none, runT_guard, goT_val, goT_new, goT_store, goTH_true, goTH_false, evO, keys, Option.toList_some, Option.toList_none, nzL_nil, nzL_cons, nz_k, nz_sl, nz_nil, nz_agg, startL, evC, evV, goE_val, goE_new, goE_store, goH_true, goH_false, goG_val, lk_cons, lk_nil, lk_func, lk_int, lk_bool, lk_string, lk_slice, lk_agg, look_mk, St.effOf, eff, effCall, effBinC, isConst, effBin, effUn, effConv, effPick, effNil, effFold, fold1, effLoad, effStore, effFieldAddr, effField, fieldOf, sliceOf, effIndexAddr, effIndex, effLen, effExtract, effSlice, dats, bnd, effBuild, placesOf, effBuildSlice, effMakeSlice, effAppend, srcOf, fillA, chunk, seg, toD, toDs, put, eqAV, fieldsEq, leafEq, strip, unw, allB, selP_or, selP_and, tis, TyD.agg, AV.cells, AV.cell, allCell, vInt, vBool, vStr, subL_nil, subL_cons, upIds, AV.ids, AV.ids.idsL, AObj.ids, drops, Hp.get_cons, get_nil, retF, resL, one, fz, fz.fzL, List.map_cons, List.map_nil, List.nil_append, List.append_nil, List.cons_append, List.all_cons, List.all_nil, List.length_cons, List.length_nil, List.getElem?_cons_zero, List.getElem?_cons_succ, List.getD_cons_zero, List.getD_cons_succ, List.take_succ_cons, List.take_zero, List.drop_succ_cons, List.drop_zero, List.take_nil, List.drop_nil, List.contains_cons, List.contains_nil, Option.getD_some, Option.getD_none, Option.map_some, Option.map_none, if_true, if_false, true_and, and_true, and_self, or_self, or_false, false_or, false_and, and_false, reduceCtorEq, sel_and, sel_or, decide_eq_true_eq, Bool.and_eq_true, Bool.or_eq_true, Bool.and_true, Bool.true_and, Bool.or_false, Bool.false_or, Bool.true_or, Bool.or_true, Bool.not_true, Bool.not_false, Bool.false_eq_true, implies_true, not_false_eq_true, Nat.reduceLT, Nat.reduceEqDiff, Nat.reduceAdd, Nat.reduceMul, Nat.reduceMod, Nat.reduceLeDiff, Nat.reduceBEq, Nat.zero_add, Nat.add_zero, reduceIte, ↓reduceIte, List.not_mem_nil]
  by_cases h1 : (i : Int) < l.length
  ·rw [if_pos h1]
   refine ⟨⟨hb, by omega⟩, ?_⟩
   obtain ⟨r, k, ok, e, k1, k2, k3⟩ := all_step hb (by omega) hr
   simp only [e]
   refine ⟨by omega, (o ++ [r], i + k), by simp only []; omega, ⟨k2, by simp only [List.length_append, List.length_singleton]; omega, k3⟩, Le.of (fun _ => 25) [] ?_⟩
   simp only [List.map_append, List.map_cons, List.map_nil, List.length_append, List.length_map, List.length_cons, List.length_nil, iD, Mt_tup, Mt_agg, Mt_fn, forall_eq, forall_eq_or_imp, ne_eq, List.all_cons, List.all_nil, pr, Nat.reduceLeDiff, slR_nil, slR_cons, hpR_nil, hpR_cells, hpR_row, idsR_nil, idsR_cons, mtE_v, mtE_sl, mtE_nil, mtE_refl, mtE_row, mtE_born, mtE_ptr, mtE_rp, mtE_agg, mtE_tup, mtE_fn, mtE_ep, MtL_nil, MtL_cons, Mt_v, Mt_sl, Mt_nil, Mt_refl, Mt_row, Mt_born, Mt_ptr, MtO_cells, MtO_row, liveIds, distinct, Dat.v.injEq, Dat.sl.injEq, Value.int.injEq, Value.bool.injEq, Value.string.injEq, lk_cons, lk_nil, subL_nil, subL_cons, upIds, AV.ids, AV.ids.idsL, AObj.ids, Hp.get_cons, get_nil, allCell, AV.cell, vInt, vBool, vStr, id, true_and, and_true, and_self, List.append_nil, List.nil_append, List.not_mem_nil, List.mem_cons, or_false, false_or, or_self, not_true_eq_false, not_false_eq_true, false_imp_iff, false_implies, List.map_nil, not_false_eq_true, List.contains_cons, List.contains_nil, Bool.or_false, Bool.false_or, Bool.true_or, Bool.or_true, Bool.and_true, Bool.true_and, implies_true, if_true, if_false, reduceCtorEq, Nat.reduceEqDiff, Nat.reduceBEq, Nat.reduceAdd, reduceIte, ↓reduceIte]
   rw [w64 (by omega) (by omega)]
   omega
  ·rw [if_neg h1]
   have h2 := hr 0 (by omega)
   rw [List.drop_eq_nil_of_le (by omega), alls_nil, List.append_nil] at h2
   rw [h2]
theorem All_calm : ∀ args sc res, F_All args = some (sc, res) → sc → Calm Try.prog 45 args res := by
 intro args sc res h hs
 unfold F_All at h
 split at h <;> cases h
 exact known_all.calm mixed rfl rfl (All_body _ hs)
end Go.Proofs.Ytgbialeahdoelaa.Eng

end
