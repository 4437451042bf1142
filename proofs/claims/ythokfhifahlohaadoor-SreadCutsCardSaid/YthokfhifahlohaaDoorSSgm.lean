/- Segments, read, on the small machine. -/
import Derived.Test.YthokfhifahlohaaDoorSGet
import Derived.Test.YthokfhifahlohaaDoorSSm
import Derived.Test.YthokfhifahlohaaDoorSSpl
namespace Go.Proofs.YthokfhifahlohaaDoor.Eng
open Go Go.Proofs.YthokfhifahlohaaDoor.Base
set_option maxRecDepth 100000
set_option linter.unusedSimpArgs false
set_option linter.unusedVariables false
/-- So many numbers from a place on. -/
def num4 (s : ByteArray) : Nat → Nat → Option (List Int × Nat)
  | 0, a => some ([], a)
  | k + 1, a => match getV s a with
    | none => none
    | some (n, e) => match num4 s k e with
      | none => none
      | some (l, e') => some (n :: l, e')
def mostN (n : Int) : Prop := 0 ≤ n ∧ n ≤ 1073741824
/-- A segment behind another one; false: it is none. -/
def segV (s : ByteArray) (p : Sg) : Sg × Bool :=
  match num4 s 4 0 with
  | some ([a, b, c, d], e) => (⟨p.a, p.b + a, p.c + c, p.d + d⟩, decide (e = s.size ∧ b = 0 ∧ (0 ≤ p.b + a ∧ p.b + a ≤ 1073741824) ∧ (0 ≤ p.c + c ∧ p.c + c ≤ 1073741824) ∧ 0 ≤ p.d + d ∧ p.d + d ≤ 1073741824))
  | _ => (p, false)
theorem getV_le {s : ByteArray} {a : Nat} {n : Int} {e : Nat} (h : getV s a = some (n, e)) : a < e ∧ e ≤ s.size ∧ -35184372088832 ≤ n ∧ n ≤ 35184372088832 := by
  unfold getV at h
  split at h
  · rename_i m k hm
    split at h
    · rename_i hq
      cases h
      have h1 := vget_lt _ _ _ _ _ (by decide) hm
      rw [List.length_drop, size_toList] at h1
      have hp : m < 32 ^ 9 := Nat.lt_of_lt_of_le h1.1 (Nat.pow_le_pow_right (by decide) h1.2.2.2)
      refine ⟨by omega, by omega, ?_, ?_⟩
      · unfold sgn; split <;> omega
      · unfold sgn; split <;> omega
    · cases h
  · cases h
theorem num4_step {s : ByteArray} {a : Nat} {n : Int} {e j : Nat} (h : getV s a = some (n, e)) : num4 s (j + 1) a = (num4 s j e).map fun r => (n :: r.1, r.2) := by
  rw [num4]
  split
  · rename_i h2; rw [h] at h2; cases h2
  · rename_i n' e' h2
    rw [h] at h2; cases h2
    split
    · rename_i h3; rw [h3]; rfl
    · rename_i h3; rw [h3]; rfl
noncomputable def G_sg : Gam := Gam.none.add 17 fun a => F_vget (NT.nz.nzL [] a)
theorem known_sg : Known Tryd.prog G_sg := (Known.none _).addC _ vget_calm
theorem G_sg_at (h : Nat → Option AObj) (d : Nat) (a : List AV) : G_sg 17 h d a = calmE (fun a => F_vget (NT.nz.nzL [] a)) h a := rfl
theorem vgetT_yes {s : ByteArray} {a : Nat} {n : Int} {e : Nat} (h : getV s a = some (n, e)) : vgetT s a = .tup [vInt .i64 n, vInt .i64 e, vBool true] := by rw [vgetT, h]
theorem vgetT_no {s : ByteArray} {a : Nat} (h : getV s a = none) : vgetT s a = .tup [vInt .i64 0, vInt .i64 0, vBool false] := by rw [vgetT, h]
def T_sg (s : ByteArray) (p : Sg) (q : Nat × Nat × Int × Int × Int × Int) : St := ⟨78, [103, 104, 106], [(0, vStr s), (3, .ptr 103 0), (4, .ptr 104 0), (6, .ptr 106 0), (7, vInt .i64 q.2.1), (12, vInt .i64 q.1)], [(103, some (.cells 35 ((sgD p).map .d))), (104, some (.cells 35 ((sgD ⟨0, 0, 0, 0⟩).map .d))), (106, some (.cells 43 [vInt .i64 q.2.2.1, vInt .i64 q.2.2.2.1, vInt .i64 q.2.2.2.2.1, vInt .i64 q.2.2.2.2.2]))]⟩
def goS (s : ByteArray) (q : Nat × Nat × Int × Int × Int × Int) : Option (List Int × Nat) := (num4 s (4 - q.1) q.2.1).map fun r => ([q.2.2.1, q.2.2.2.1, q.2.2.2.2.1, q.2.2.2.2.2].take q.1 ++ r.1, r.2)
def smallN (n : Int) : Prop := -35184372088832 ≤ n ∧ n ≤ 35184372088832
structure I_sg (s : ByteArray) (q : Nat × Nat × Int × Int × Int × Int) : Prop where
  k : q.1 ≤ 4
  a : q.2.1 ≤ s.size
  e : goS s q = num4 s 4 0
  n0 : smallN q.2.2.1
  n1 : smallN q.2.2.2.1
  n2 : smallN q.2.2.2.2.1
  n3 : smallN q.2.2.2.2.2
set_option maxHeartbeats 1000000 in
theorem seg_body (s : ByteArray) (p : Sg) (hs : s.size ≤ 1000000000) (hp : mostN p.b ∧ mostN p.c ∧ mostN p.d) : Body Tryd.prog G_sg (DRun Tryd.prog G_sg) 13 [vStr s, .agg ((sgD p).map .d)] (.tup [.agg ((sgD (segV s p).1).map .d), vBool (segV s p).2]) := by
  refine Body.of Tryd.func13 Tryd.ntmps13 (by kernel_rfl) rfl rfl rfl ?_
  have z : smallN 0 := ⟨by decide, by decide⟩
  simp only [sgD, G_sg_at, calmE, F_vget, AV.flat, AV.flat.flatL, List.map_cons, List.map_nil, goTG_val, goTG_new, goTG_up, goTG_none, goG_none, goG_new, goG_up, ne_eq, evK, evH, retHF, DRun_mk, runT_nil, runT_none, runT_guard, goT_val, goT_new, goT_store, goTH_true, goTH_false, evO, keys, Option.toList_some, Option.toList_none, nzL_nil, nzL_cons, nz_k, nz_sl, nz_nil, nz_agg, startL, evC, evV, goE_val, goE_new, goE_store, goH_true, goH_false, goG_val, lk_cons, lk_nil, lk_func, lk_int, lk_bool, lk_string, lk_slice, lk_agg, look_mk, St.effOf, eff, effCall, effBin, effUn, effConv, effPick, effNil, effFold, fold1, effLoad, effStore, effFieldAddr, effField, fieldOf, sliceOf, effIndexAddr, effIndex, effLen, effExtract, effSlice, bnd, effBuild, placesOf, effBuildSlice, effMakeSlice, effAppend, srcOf, fillA, chunk, seg, toD, toDs, put, eqAV, fieldsEq, leafEq, strip, unw, allB, selP_or, selP_and, tis, TyD.agg, AV.cells, AV.cell, allCell, vInt, vBool, vStr, subL_nil, subL_cons, upIds, AV.ids, AV.ids.idsL, AObj.ids, drops, Hp.get_cons, get_nil, retF, resL, one, fz, fz.fzL, List.map_cons, List.map_nil, List.nil_append, List.append_nil, List.cons_append, List.all_cons, List.all_nil, List.length_cons, List.length_nil, List.getElem?_cons_zero, List.getElem?_cons_succ, List.getD_cons_zero, List.getD_cons_succ, List.take_succ_cons, List.take_zero, List.drop_succ_cons, List.drop_zero, List.take_nil, List.drop_nil, List.contains_cons, List.contains_nil, Option.getD_some, Option.getD_none, Option.map_some, Option.map_none, if_true, if_false, true_and, and_true, and_self, or_self, or_false, false_or, false_and, and_false, reduceCtorEq, sel_and, sel_or, decide_eq_true_eq, Bool.and_eq_true, Bool.or_eq_true, Bool.and_true, Bool.true_and, Bool.or_false, Bool.false_or, Bool.true_or, Bool.or_true, Bool.not_true, Bool.not_false, Bool.false_eq_true, implies_true, not_false_eq_true, Nat.reduceLT, Nat.reduceEqDiff, Nat.reduceAdd, Nat.reduceMul, Nat.reduceMod, Nat.reduceLeDiff, Nat.reduceBEq, Nat.zero_add, Nat.add_zero, reduceIte, ↓reduceIte, List.not_mem_nil]
  refine wpc_loop (T_sg s p) (I_sg s) (fun q => 4 - q.1) (0, 0, 0, 0, 0, 0) ⟨by decide, Nat.zero_le _, ?_, z, z, z, z⟩ ?_ ?_
  · simp only [goS, List.take_zero, List.nil_append, Nat.sub_zero]
    cases num4 s 4 0 with
    | none => rfl
    | some r => rfl
  · refine Le.of (fun o => if o = 103 then 3 else if o = 104 then 4 else if o = 106 then 6 else o) [] ?_
    simp only [T_sg, sgD, List.map_cons, List.map_nil, Mt_tup, Mt_agg, Mt_fn, forall_eq, forall_eq_or_imp, ne_eq, List.all_cons, List.all_nil, pr, Nat.reduceLeDiff, slR_nil, slR_cons, hpR_nil, hpR_cells, hpR_row, idsR_nil, idsR_cons, mtE_v, mtE_sl, mtE_nil, mtE_refl, mtE_row, mtE_born, mtE_ptr, mtE_rp, mtE_agg, mtE_tup, mtE_fn, mtE_ep, MtL_nil, MtL_cons, Mt_v, Mt_sl, Mt_nil, Mt_refl, Mt_row, Mt_born, Mt_ptr, MtO_cells, MtO_row, liveIds, distinct, Dat.v.injEq, Dat.sl.injEq, Value.int.injEq, Value.bool.injEq, Value.string.injEq, lk_cons, lk_nil, subL_nil, subL_cons, upIds, AV.ids, AV.ids.idsL, AObj.ids, Hp.get_cons, get_nil, allCell, AV.cell, vInt, vBool, vStr, id, true_and, and_true, and_self, List.append_nil, List.nil_append, List.not_mem_nil, List.mem_cons, or_false, false_or, or_self, not_true_eq_false, not_false_eq_true, false_imp_iff, false_implies, List.map_nil, not_false_eq_true, List.contains_cons, List.contains_nil, Bool.or_false, Bool.false_or, Bool.true_or, Bool.or_true, Bool.and_true, Bool.true_and, implies_true, if_true, if_false, reduceCtorEq, Nat.reduceEqDiff, Nat.reduceBEq, Nat.reduceAdd, reduceIte, ↓reduceIte]
    exact ⟨rfl, rfl⟩
  · rintro ⟨k, a, n0, n1, n2, n3⟩ ⟨hk, ha, he, hn0, hn1, hn2, hn3⟩
    simp only [] at hk ha he hn0 hn1 hn2 hn3
    by_cases h4 : k = 4
    · subst h4
      have he2 : num4 s 4 0 = some ([n0, n1, n2, n3], a) := by rw [← he]; rfl
      have hlt : (((4 : Nat) : Int) < 4) = False := eq_false (by decide)
      simp only [hlt, Int.reduceToNat, T_sg, sgD, G_sg_at, calmE, F_vget, AV.flat, AV.flat.flatL, List.map_cons, List.map_nil, goTG_val, goTG_new, goTG_up, goTG_none, goG_none, goG_new, goG_up, ne_eq, evK, evH, retHF, DRun_mk, runT_nil, runT_none, runT_guard, goT_val, goT_new, goT_store, goTH_true, goTH_false, evO, keys, Option.toList_some, Option.toList_none, nzL_nil, nzL_cons, nz_k, nz_sl, nz_nil, nz_agg, startL, evC, evV, goE_val, goE_new, goE_store, goH_true, goH_false, goG_val, lk_cons, lk_nil, lk_func, lk_int, lk_bool, lk_string, lk_slice, lk_agg, look_mk, St.effOf, eff, effCall, effBin, effUn, effConv, effPick, effNil, effFold, fold1, effLoad, effStore, effFieldAddr, effField, fieldOf, sliceOf, effIndexAddr, effIndex, effLen, effExtract, effSlice, bnd, effBuild, placesOf, effBuildSlice, effMakeSlice, effAppend, srcOf, fillA, chunk, seg, toD, toDs, put, eqAV, fieldsEq, leafEq, strip, unw, allB, selP_or, selP_and, tis, TyD.agg, AV.cells, AV.cell, allCell, vInt, vBool, vStr, subL_nil, subL_cons, upIds, AV.ids, AV.ids.idsL, AObj.ids, drops, Hp.get_cons, get_nil, retF, resL, one, fz, fz.fzL, List.map_cons, List.map_nil, List.nil_append, List.append_nil, List.cons_append, List.all_cons, List.all_nil, List.length_cons, List.length_nil, List.getElem?_cons_zero, List.getElem?_cons_succ, List.getD_cons_zero, List.getD_cons_succ, List.take_succ_cons, List.take_zero, List.drop_succ_cons, List.drop_zero, List.take_nil, List.drop_nil, List.contains_cons, List.contains_nil, Option.getD_some, Option.getD_none, Option.map_some, Option.map_none, if_true, if_false, true_and, and_true, and_self, or_self, or_false, false_or, false_and, and_false, reduceCtorEq, sel_and, sel_or, decide_eq_true_eq, Bool.and_eq_true, Bool.or_eq_true, Bool.and_true, Bool.true_and, Bool.or_false, Bool.false_or, Bool.true_or, Bool.or_true, Bool.not_true, Bool.not_false, Bool.false_eq_true, implies_true, not_false_eq_true, Nat.reduceLT, Nat.reduceEqDiff, Nat.reduceAdd, Nat.reduceMul, Nat.reduceMod, Nat.reduceLeDiff, Nat.reduceBEq, Nat.zero_add, Nat.add_zero, reduceIte, ↓reduceIte, List.not_mem_nil]
      obtain ⟨⟨p0, p1⟩, ⟨p2, p3⟩, p4, p5⟩ := hp
      obtain ⟨a0, a1⟩ := hn0
      obtain ⟨a2, a3⟩ := hn2
      obtain ⟨a4, a5⟩ := hn3
      have w0 : IntKind.i64.wrap (p.b + n0) = p.b + n0 := w64 (by omega) (by omega)
      have w2 : IntKind.i64.wrap (p.c + n2) = p.c + n2 := w64 (by omega) (by omega)
      have w3 : IntKind.i64.wrap (p.d + n3) = p.d + n3 := w64 (by omega) (by omega)
      have e2 : segV s p = (⟨p.a, p.b + n0, p.c + n2, p.d + n3⟩, decide (a = s.size ∧ n1 = 0 ∧ (0 ≤ p.b + n0 ∧ p.b + n0 ≤ 1073741824) ∧ (0 ≤ p.c + n2 ∧ p.c + n2 ≤ 1073741824) ∧ 0 ≤ p.d + n3 ∧ p.d + n3 ≤ 1073741824)) := by rw [segV, he2]
      rw [e2, w0, w2, w3]
      refine ⟨⟨by decide, by decide⟩, ⟨by decide, by decide⟩, ⟨by decide, by decide⟩, fun _ => ⟨by decide, by decide⟩, by kernel_rfl, Sub.eq ?_⟩
      congr 6
      have hmx : ∀ x y z : Int, mx (mx x y) z ≤ 1073741824 ↔ x ≤ 1073741824 ∧ y ≤ 1073741824 ∧ z ≤ 1073741824 := fun x y z => by
        unfold mx; split <;> split <;> omega
      have hmn : ∀ x y z : Int, mn (mn x y) z ≥ 0 ↔ 0 ≤ x ∧ 0 ≤ y ∧ 0 ≤ z := fun x y z => by
        unfold mn; split <;> split <;> omega
      rw [Bool.eq_iff_iff, decide_eq_true_eq]
      simp only [beq_iff_eq, hmx, hmn]
      split
      · rename_i h; rw [decide_eq_true_eq]; omega
      · rename_i h
        simp only [Bool.false_eq_true, false_iff]
        intro h2
        exact h ⟨⟨by omega, h2.2.1⟩, by omega, by omega, by omega⟩
    · cases hg : getV s a with
      | none =>
        have he2 : num4 s 4 0 = none := by
          rw [← he, goS]
          obtain ⟨j, hj⟩ : ∃ j, 4 - k = j + 1 := ⟨3 - k, by omega⟩
          simp only []
          rw [hj, num4, hg]; rfl
        have hv := vgetT_no hg
        have hlt : ((k : Int) < 4) = True := eq_true (by omega)
        simp only [hlt, T_sg, sgD, G_sg_at, calmE, F_vget, Int.toNat_natCast, hv, AV.flat, AV.flat.flatL, List.map_cons, List.map_nil, goTG_val, goTG_new, goTG_up, goTG_none, goG_none, goG_new, goG_up, ne_eq, evK, evH, retHF, DRun_mk, runT_nil, runT_none, runT_guard, goT_val, goT_new, goT_store, goTH_true, goTH_false, evO, keys, Option.toList_some, Option.toList_none, nzL_nil, nzL_cons, nz_k, nz_sl, nz_nil, nz_agg, startL, evC, evV, goE_val, goE_new, goE_store, goH_true, goH_false, goG_val, lk_cons, lk_nil, lk_func, lk_int, lk_bool, lk_string, lk_slice, lk_agg, look_mk, St.effOf, eff, effCall, effBin, effUn, effConv, effPick, effNil, effFold, fold1, effLoad, effStore, effFieldAddr, effField, fieldOf, sliceOf, effIndexAddr, effIndex, effLen, effExtract, effSlice, bnd, effBuild, placesOf, effBuildSlice, effMakeSlice, effAppend, srcOf, fillA, chunk, seg, toD, toDs, put, eqAV, fieldsEq, leafEq, strip, unw, allB, selP_or, selP_and, tis, TyD.agg, AV.cells, AV.cell, allCell, vInt, vBool, vStr, subL_nil, subL_cons, upIds, AV.ids, AV.ids.idsL, AObj.ids, drops, Hp.get_cons, get_nil, retF, resL, one, fz, fz.fzL, List.map_cons, List.map_nil, List.nil_append, List.append_nil, List.cons_append, List.all_cons, List.all_nil, List.length_cons, List.length_nil, List.getElem?_cons_zero, List.getElem?_cons_succ, List.getD_cons_zero, List.getD_cons_succ, List.take_succ_cons, List.take_zero, List.drop_succ_cons, List.drop_zero, List.take_nil, List.drop_nil, List.contains_cons, List.contains_nil, Option.getD_some, Option.getD_none, Option.map_some, Option.map_none, if_true, if_false, true_and, and_true, and_self, or_self, or_false, false_or, false_and, and_false, reduceCtorEq, sel_and, sel_or, decide_eq_true_eq, Bool.and_eq_true, Bool.or_eq_true, Bool.and_true, Bool.true_and, Bool.or_false, Bool.false_or, Bool.true_or, Bool.or_true, Bool.not_true, Bool.not_false, Bool.false_eq_true, implies_true, not_false_eq_true, Nat.reduceLT, Nat.reduceEqDiff, Nat.reduceAdd, Nat.reduceMul, Nat.reduceMod, Nat.reduceLeDiff, Nat.reduceBEq, Nat.zero_add, Nat.add_zero, reduceIte, ↓reduceIte, List.not_mem_nil]
        have e2 : segV s p = (p, false) := by rw [segV, he2]
        rw [e2]
        exact ⟨⟨hs, by omega, by omega⟩, Sub.refl _⟩
      | some r =>
        obtain ⟨n, e⟩ := r
        have hv := vgetT_yes hg
        obtain ⟨g1, g2, g3, g4⟩ := getV_le hg
        have hk4 : k = 0 ∨ k = 1 ∨ k = 2 ∨ k = 3 := by omega
        have hlt : ((k : Int) < 4) = True := eq_true (by omega)
        rcases hk4 with rfl | rfl | rfl | rfl
        · simp only [hlt, T_sg, sgD, G_sg_at, calmE, F_vget, Int.toNat_natCast, hv, AV.flat, AV.flat.flatL, List.map_cons, List.map_nil, goTG_val, goTG_new, goTG_up, goTG_none, goG_none, goG_new, goG_up, ne_eq, evK, evH, retHF, DRun_mk, runT_nil, runT_none, runT_guard, goT_val, goT_new, goT_store, goTH_true, goTH_false, evO, keys, Option.toList_some, Option.toList_none, nzL_nil, nzL_cons, nz_k, nz_sl, nz_nil, nz_agg, startL, evC, evV, goE_val, goE_new, goE_store, goH_true, goH_false, goG_val, lk_cons, lk_nil, lk_func, lk_int, lk_bool, lk_string, lk_slice, lk_agg, look_mk, St.effOf, eff, effCall, effBin, effUn, effConv, effPick, effNil, effFold, fold1, effLoad, effStore, effFieldAddr, effField, fieldOf, sliceOf, effIndexAddr, effIndex, effLen, effExtract, effSlice, bnd, effBuild, placesOf, effBuildSlice, effMakeSlice, effAppend, srcOf, fillA, chunk, seg, toD, toDs, put, eqAV, fieldsEq, leafEq, strip, unw, allB, selP_or, selP_and, tis, TyD.agg, AV.cells, AV.cell, allCell, vInt, vBool, vStr, subL_nil, subL_cons, upIds, AV.ids, AV.ids.idsL, AObj.ids, drops, Hp.get_cons, get_nil, retF, resL, one, fz, fz.fzL, List.map_cons, List.map_nil, List.nil_append, List.append_nil, List.cons_append, List.all_cons, List.all_nil, List.length_cons, List.length_nil, List.getElem?_cons_zero, List.getElem?_cons_succ, List.getD_cons_zero, List.getD_cons_succ, List.take_succ_cons, List.take_zero, List.drop_succ_cons, List.drop_zero, List.take_nil, List.drop_nil, List.contains_cons, List.contains_nil, Option.getD_some, Option.getD_none, Option.map_some, Option.map_none, if_true, if_false, true_and, and_true, and_self, or_self, or_false, false_or, false_and, and_false, reduceCtorEq, sel_and, sel_or, decide_eq_true_eq, Bool.and_eq_true, Bool.or_eq_true, Bool.and_true, Bool.true_and, Bool.or_false, Bool.false_or, Bool.true_or, Bool.or_true, Bool.not_true, Bool.not_false, Bool.false_eq_true, implies_true, not_false_eq_true, Nat.reduceLT, Nat.reduceEqDiff, Nat.reduceAdd, Nat.reduceMul, Nat.reduceMod, Nat.reduceLeDiff, Nat.reduceBEq, Nat.zero_add, Nat.add_zero, reduceIte, ↓reduceIte, List.not_mem_nil]
          refine ⟨⟨hs, by omega, by omega⟩, ⟨by omega, by decide⟩, (1, e, n, n1, n2, n3), by simp only []; omega, ⟨by simp only []; omega, g2, ?_, ⟨g3, g4⟩, hn1, hn2, hn3⟩, Le.of id [] ?_⟩
          · rw [← he]
            simp only [goS]
            rw [num4_step (j := 3) hg]
            cases num4 s 3 e with
            | none => rfl
            | some r => rfl
          · simp only [T_sg, sgD, List.map_cons, List.map_nil, Mt_tup, Mt_agg, Mt_fn, forall_eq, forall_eq_or_imp, ne_eq, List.all_cons, List.all_nil, pr, Nat.reduceLeDiff, slR_nil, slR_cons, hpR_nil, hpR_cells, hpR_row, idsR_nil, idsR_cons, mtE_v, mtE_sl, mtE_nil, mtE_refl, mtE_row, mtE_born, mtE_ptr, mtE_rp, mtE_agg, mtE_tup, mtE_fn, mtE_ep, MtL_nil, MtL_cons, Mt_v, Mt_sl, Mt_nil, Mt_refl, Mt_row, Mt_born, Mt_ptr, MtO_cells, MtO_row, liveIds, distinct, Dat.v.injEq, Dat.sl.injEq, Value.int.injEq, Value.bool.injEq, Value.string.injEq, lk_cons, lk_nil, subL_nil, subL_cons, upIds, AV.ids, AV.ids.idsL, AObj.ids, Hp.get_cons, get_nil, allCell, AV.cell, vInt, vBool, vStr, id, true_and, and_true, and_self, List.append_nil, List.nil_append, List.not_mem_nil, List.mem_cons, or_false, false_or, or_self, not_true_eq_false, not_false_eq_true, false_imp_iff, false_implies, List.map_nil, not_false_eq_true, List.contains_cons, List.contains_nil, Bool.or_false, Bool.false_or, Bool.true_or, Bool.or_true, Bool.and_true, Bool.true_and, implies_true, if_true, if_false, reduceCtorEq, Nat.reduceEqDiff, Nat.reduceBEq, Nat.reduceAdd, reduceIte, ↓reduceIte]
            exact ⟨rfl, rfl⟩
        · simp only [hlt, T_sg, sgD, G_sg_at, calmE, F_vget, Int.toNat_natCast, hv, AV.flat, AV.flat.flatL, List.map_cons, List.map_nil, goTG_val, goTG_new, goTG_up, goTG_none, goG_none, goG_new, goG_up, ne_eq, evK, evH, retHF, DRun_mk, runT_nil, runT_none, runT_guard, goT_val, goT_new, goT_store, goTH_true, goTH_false, evO, keys, Option.toList_some, Option.toList_none, nzL_nil, nzL_cons, nz_k, nz_sl, nz_nil, nz_agg, startL, evC, evV, goE_val, goE_new, goE_store, goH_true, goH_false, goG_val, lk_cons, lk_nil, lk_func, lk_int, lk_bool, lk_string, lk_slice, lk_agg, look_mk, St.effOf, eff, effCall, effBin, effUn, effConv, effPick, effNil, effFold, fold1, effLoad, effStore, effFieldAddr, effField, fieldOf, sliceOf, effIndexAddr, effIndex, effLen, effExtract, effSlice, bnd, effBuild, placesOf, effBuildSlice, effMakeSlice, effAppend, srcOf, fillA, chunk, seg, toD, toDs, put, eqAV, fieldsEq, leafEq, strip, unw, allB, selP_or, selP_and, tis, TyD.agg, AV.cells, AV.cell, allCell, vInt, vBool, vStr, subL_nil, subL_cons, upIds, AV.ids, AV.ids.idsL, AObj.ids, drops, Hp.get_cons, get_nil, retF, resL, one, fz, fz.fzL, List.map_cons, List.map_nil, List.nil_append, List.append_nil, List.cons_append, List.all_cons, List.all_nil, List.length_cons, List.length_nil, List.getElem?_cons_zero, List.getElem?_cons_succ, List.getD_cons_zero, List.getD_cons_succ, List.take_succ_cons, List.take_zero, List.drop_succ_cons, List.drop_zero, List.take_nil, List.drop_nil, List.contains_cons, List.contains_nil, Option.getD_some, Option.getD_none, Option.map_some, Option.map_none, if_true, if_false, true_and, and_true, and_self, or_self, or_false, false_or, false_and, and_false, reduceCtorEq, sel_and, sel_or, decide_eq_true_eq, Bool.and_eq_true, Bool.or_eq_true, Bool.and_true, Bool.true_and, Bool.or_false, Bool.false_or, Bool.true_or, Bool.or_true, Bool.not_true, Bool.not_false, Bool.false_eq_true, implies_true, not_false_eq_true, Nat.reduceLT, Nat.reduceEqDiff, Nat.reduceAdd, Nat.reduceMul, Nat.reduceMod, Nat.reduceLeDiff, Nat.reduceBEq, Nat.zero_add, Nat.add_zero, reduceIte, ↓reduceIte, List.not_mem_nil]
          refine ⟨⟨hs, by omega, by omega⟩, ⟨by omega, by decide⟩, (2, e, n0, n, n2, n3), by simp only []; omega, ⟨by simp only []; omega, g2, ?_, hn0, ⟨g3, g4⟩, hn2, hn3⟩, Le.of id [] ?_⟩
          · rw [← he]
            simp only [goS]
            rw [num4_step (j := 2) hg]
            cases num4 s 2 e with
            | none => rfl
            | some r => rfl
          · simp only [T_sg, sgD, List.map_cons, List.map_nil, Mt_tup, Mt_agg, Mt_fn, forall_eq, forall_eq_or_imp, ne_eq, List.all_cons, List.all_nil, pr, Nat.reduceLeDiff, slR_nil, slR_cons, hpR_nil, hpR_cells, hpR_row, idsR_nil, idsR_cons, mtE_v, mtE_sl, mtE_nil, mtE_refl, mtE_row, mtE_born, mtE_ptr, mtE_rp, mtE_agg, mtE_tup, mtE_fn, mtE_ep, MtL_nil, MtL_cons, Mt_v, Mt_sl, Mt_nil, Mt_refl, Mt_row, Mt_born, Mt_ptr, MtO_cells, MtO_row, liveIds, distinct, Dat.v.injEq, Dat.sl.injEq, Value.int.injEq, Value.bool.injEq, Value.string.injEq, lk_cons, lk_nil, subL_nil, subL_cons, upIds, AV.ids, AV.ids.idsL, AObj.ids, Hp.get_cons, get_nil, allCell, AV.cell, vInt, vBool, vStr, id, true_and, and_true, and_self, List.append_nil, List.nil_append, List.not_mem_nil, List.mem_cons, or_false, false_or, or_self, not_true_eq_false, not_false_eq_true, false_imp_iff, false_implies, List.map_nil, not_false_eq_true, List.contains_cons, List.contains_nil, Bool.or_false, Bool.false_or, Bool.true_or, Bool.or_true, Bool.and_true, Bool.true_and, implies_true, if_true, if_false, reduceCtorEq, Nat.reduceEqDiff, Nat.reduceBEq, Nat.reduceAdd, reduceIte, ↓reduceIte]
            exact ⟨rfl, rfl⟩
        · simp only [hlt, T_sg, sgD, G_sg_at, calmE, F_vget, Int.toNat_natCast, hv, AV.flat, AV.flat.flatL, List.map_cons, List.map_nil, goTG_val, goTG_new, goTG_up, goTG_none, goG_none, goG_new, goG_up, ne_eq, evK, evH, retHF, DRun_mk, runT_nil, runT_none, runT_guard, goT_val, goT_new, goT_store, goTH_true, goTH_false, evO, keys, Option.toList_some, Option.toList_none, nzL_nil, nzL_cons, nz_k, nz_sl, nz_nil, nz_agg, startL, evC, evV, goE_val, goE_new, goE_store, goH_true, goH_false, goG_val, lk_cons, lk_nil, lk_func, lk_int, lk_bool, lk_string, lk_slice, lk_agg, look_mk, St.effOf, eff, effCall, effBin, effUn, effConv, effPick, effNil, effFold, fold1, effLoad, effStore, effFieldAddr, effField, fieldOf, sliceOf, effIndexAddr, effIndex, effLen, effExtract, effSlice, bnd, effBuild, placesOf, effBuildSlice, effMakeSlice, effAppend, srcOf, fillA, chunk, seg, toD, toDs, put, eqAV, fieldsEq, leafEq, strip, unw, allB, selP_or, selP_and, tis, TyD.agg, AV.cells, AV.cell, allCell, vInt, vBool, vStr, subL_nil, subL_cons, upIds, AV.ids, AV.ids.idsL, AObj.ids, drops, Hp.get_cons, get_nil, retF, resL, one, fz, fz.fzL, List.map_cons, List.map_nil, List.nil_append, List.append_nil, List.cons_append, List.all_cons, List.all_nil, List.length_cons, List.length_nil, List.getElem?_cons_zero, List.getElem?_cons_succ, List.getD_cons_zero, List.getD_cons_succ, List.take_succ_cons, List.take_zero, List.drop_succ_cons, List.drop_zero, List.take_nil, List.drop_nil, List.contains_cons, List.contains_nil, Option.getD_some, Option.getD_none, Option.map_some, Option.map_none, if_true, if_false, true_and, and_true, and_self, or_self, or_false, false_or, false_and, and_false, reduceCtorEq, sel_and, sel_or, decide_eq_true_eq, Bool.and_eq_true, Bool.or_eq_true, Bool.and_true, Bool.true_and, Bool.or_false, Bool.false_or, Bool.true_or, Bool.or_true, Bool.not_true, Bool.not_false, Bool.false_eq_true, implies_true, not_false_eq_true, Nat.reduceLT, Nat.reduceEqDiff, Nat.reduceAdd, Nat.reduceMul, Nat.reduceMod, Nat.reduceLeDiff, Nat.reduceBEq, Nat.zero_add, Nat.add_zero, reduceIte, ↓reduceIte, List.not_mem_nil]
          refine ⟨⟨hs, by omega, by omega⟩, ⟨by omega, by decide⟩, (3, e, n0, n1, n, n3), by simp only []; omega, ⟨by simp only []; omega, g2, ?_, hn0, hn1, ⟨g3, g4⟩, hn3⟩, Le.of id [] ?_⟩
          · rw [← he]
            simp only [goS]
            rw [num4_step (j := 1) hg]
            cases num4 s 1 e with
            | none => rfl
            | some r => rfl
          · simp only [T_sg, sgD, List.map_cons, List.map_nil, Mt_tup, Mt_agg, Mt_fn, forall_eq, forall_eq_or_imp, ne_eq, List.all_cons, List.all_nil, pr, Nat.reduceLeDiff, slR_nil, slR_cons, hpR_nil, hpR_cells, hpR_row, idsR_nil, idsR_cons, mtE_v, mtE_sl, mtE_nil, mtE_refl, mtE_row, mtE_born, mtE_ptr, mtE_rp, mtE_agg, mtE_tup, mtE_fn, mtE_ep, MtL_nil, MtL_cons, Mt_v, Mt_sl, Mt_nil, Mt_refl, Mt_row, Mt_born, Mt_ptr, MtO_cells, MtO_row, liveIds, distinct, Dat.v.injEq, Dat.sl.injEq, Value.int.injEq, Value.bool.injEq, Value.string.injEq, lk_cons, lk_nil, subL_nil, subL_cons, upIds, AV.ids, AV.ids.idsL, AObj.ids, Hp.get_cons, get_nil, allCell, AV.cell, vInt, vBool, vStr, id, true_and, and_true, and_self, List.append_nil, List.nil_append, List.not_mem_nil, List.mem_cons, or_false, false_or, or_self, not_true_eq_false, not_false_eq_true, false_imp_iff, false_implies, List.map_nil, not_false_eq_true, List.contains_cons, List.contains_nil, Bool.or_false, Bool.false_or, Bool.true_or, Bool.or_true, Bool.and_true, Bool.true_and, implies_true, if_true, if_false, reduceCtorEq, Nat.reduceEqDiff, Nat.reduceBEq, Nat.reduceAdd, reduceIte, ↓reduceIte]
            exact ⟨rfl, rfl⟩
        · simp only [hlt, T_sg, sgD, G_sg_at, calmE, F_vget, Int.toNat_natCast, hv, AV.flat, AV.flat.flatL, List.map_cons, List.map_nil, goTG_val, goTG_new, goTG_up, goTG_none, goG_none, goG_new, goG_up, ne_eq, evK, evH, retHF, DRun_mk, runT_nil, runT_none, runT_guard, goT_val, goT_new, goT_store, goTH_true, goTH_false, evO, keys, Option.toList_some, Option.toList_none, nzL_nil, nzL_cons, nz_k, nz_sl, nz_nil, nz_agg, startL, evC, evV, goE_val, goE_new, goE_store, goH_true, goH_false, goG_val, lk_cons, lk_nil, lk_func, lk_int, lk_bool, lk_string, lk_slice, lk_agg, look_mk, St.effOf, eff, effCall, effBin, effUn, effConv, effPick, effNil, effFold, fold1, effLoad, effStore, effFieldAddr, effField, fieldOf, sliceOf, effIndexAddr, effIndex, effLen, effExtract, effSlice, bnd, effBuild, placesOf, effBuildSlice, effMakeSlice, effAppend, srcOf, fillA, chunk, seg, toD, toDs, put, eqAV, fieldsEq, leafEq, strip, unw, allB, selP_or, selP_and, tis, TyD.agg, AV.cells, AV.cell, allCell, vInt, vBool, vStr, subL_nil, subL_cons, upIds, AV.ids, AV.ids.idsL, AObj.ids, drops, Hp.get_cons, get_nil, retF, resL, one, fz, fz.fzL, List.map_cons, List.map_nil, List.nil_append, List.append_nil, List.cons_append, List.all_cons, List.all_nil, List.length_cons, List.length_nil, List.getElem?_cons_zero, List.getElem?_cons_succ, List.getD_cons_zero, List.getD_cons_succ, List.take_succ_cons, List.take_zero, List.drop_succ_cons, List.drop_zero, List.take_nil, List.drop_nil, List.contains_cons, List.contains_nil, Option.getD_some, Option.getD_none, Option.map_some, Option.map_none, if_true, if_false, true_and, and_true, and_self, or_self, or_false, false_or, false_and, and_false, reduceCtorEq, sel_and, sel_or, decide_eq_true_eq, Bool.and_eq_true, Bool.or_eq_true, Bool.and_true, Bool.true_and, Bool.or_false, Bool.false_or, Bool.true_or, Bool.or_true, Bool.not_true, Bool.not_false, Bool.false_eq_true, implies_true, not_false_eq_true, Nat.reduceLT, Nat.reduceEqDiff, Nat.reduceAdd, Nat.reduceMul, Nat.reduceMod, Nat.reduceLeDiff, Nat.reduceBEq, Nat.zero_add, Nat.add_zero, reduceIte, ↓reduceIte, List.not_mem_nil]
          refine ⟨⟨hs, by omega, by omega⟩, ⟨by omega, by decide⟩, (4, e, n0, n1, n2, n), by simp only []; omega, ⟨by simp only []; omega, g2, ?_, hn0, hn1, hn2, ⟨g3, g4⟩⟩, Le.of id [] ?_⟩
          · rw [← he]
            simp only [goS]
            rw [num4_step (j := 0) hg]
            cases num4 s 0 e with
            | none => rfl
            | some r => rfl
          · simp only [T_sg, sgD, List.map_cons, List.map_nil, Mt_tup, Mt_agg, Mt_fn, forall_eq, forall_eq_or_imp, ne_eq, List.all_cons, List.all_nil, pr, Nat.reduceLeDiff, slR_nil, slR_cons, hpR_nil, hpR_cells, hpR_row, idsR_nil, idsR_cons, mtE_v, mtE_sl, mtE_nil, mtE_refl, mtE_row, mtE_born, mtE_ptr, mtE_rp, mtE_agg, mtE_tup, mtE_fn, mtE_ep, MtL_nil, MtL_cons, Mt_v, Mt_sl, Mt_nil, Mt_refl, Mt_row, Mt_born, Mt_ptr, MtO_cells, MtO_row, liveIds, distinct, Dat.v.injEq, Dat.sl.injEq, Value.int.injEq, Value.bool.injEq, Value.string.injEq, lk_cons, lk_nil, subL_nil, subL_cons, upIds, AV.ids, AV.ids.idsL, AObj.ids, Hp.get_cons, get_nil, allCell, AV.cell, vInt, vBool, vStr, id, true_and, and_true, and_self, List.append_nil, List.nil_append, List.not_mem_nil, List.mem_cons, or_false, false_or, or_self, not_true_eq_false, not_false_eq_true, false_imp_iff, false_implies, List.map_nil, not_false_eq_true, List.contains_cons, List.contains_nil, Bool.or_false, Bool.false_or, Bool.true_or, Bool.or_true, Bool.and_true, Bool.true_and, implies_true, if_true, if_false, reduceCtorEq, Nat.reduceEqDiff, Nat.reduceBEq, Nat.reduceAdd, reduceIte, ↓reduceIte]
            exact ⟨rfl, rfl⟩
def F_segm : List AV → Option (Prop × AV)
  | [.d (.v (.string s)), .agg [.d (.v (.int .i64 a)), .d (.v (.int .i64 b)), .d (.v (.int .i64 c)), .d (.v (.int .i64 d))]] => some (s.size ≤ 1000000000 ∧ mostN b ∧ mostN c ∧ mostN d, .tup [.agg ((sgD (segV s ⟨a, b, c, d⟩).1).map .d), vBool (segV s ⟨a, b, c, d⟩).2])
  | _ => none
theorem segm_calm : ∀ args sc res, F_segm args = some (sc, res) → sc → Calm Tryd.prog 13 args res := by
  intro args sc res h hs
  unfold F_segm at h
  split at h <;> cases h
  rename_i s a b c d
  exact known_sg.calm mixed rfl rfl (seg_body s ⟨a, b, c, d⟩ hs.1 hs.2)
/- All of them. -/
def rowP : List (List UInt8) → Sg → List Sg → Option (Sg × List Sg)
  | [], p, out => some (p, out)
  | x :: xs, p, out => if (segV ⟨x.toArray⟩ p).2 = true then rowP xs (segV ⟨x.toArray⟩ p).1 (out ++ [(segV ⟨x.toArray⟩ p).1]) else none
def allP : Nat → List (List UInt8) → Sg → List Sg → Option (Sg × List Sg)
  | _, [], p, out => some (p, out)
  | i, r :: rs, p, out => if r = [] then allP (i + 1) rs ⟨i, 0, p.c, p.d⟩ out else match rowP (splitU 44 r) ⟨i, 0, p.c, p.d⟩ out with
    | none => none
    | some (q, o) => allP (i + 1) rs q o
/-- What a text's segments are, before they are written again. -/
def readP (s : ByteArray) : Option (List Sg) := (allP 0 (splitU 59 s.data.toList) ⟨0, 0, 0, 0⟩ []).map (·.2)
def sumS : List (List UInt8) → Nat
  | [] => 0
  | r :: rs => r.length + 1 + sumS rs
theorem splitU_sum (c : UInt8) : ∀ l, sumS (splitU c l) = l.length + 1
  | [] => rfl
  | b :: l => by
    have ih := splitU_sum c l
    rw [splitU]
    split
    · simp only [sumS, ih, List.length_nil, List.length_cons]; omega
    · have hne := splitU_ne c l
      cases hs : splitU c l with
      | nil => exact absurd hs hne
      | cons x xs => rw [hs] at ih; simp only [sumS, List.length_cons] at ih ⊢; omega
theorem sumS_len : ∀ l, l.length ≤ sumS l
  | [] => Nat.le_refl _
  | r :: rs => by have := sumS_len rs; simp only [sumS, List.length_cons]; omega
theorem segV_most {s : ByteArray} {p : Sg} (h : (segV s p).2 = true) : mostN (segV s p).1.b ∧ mostN (segV s p).1.c ∧ mostN (segV s p).1.d ∧ (segV s p).1.a = p.a := by
  unfold segV at h ⊢
  split
  · rename_i e; simp only [e, decide_eq_true_eq] at h; exact ⟨h.2.2.1, h.2.2.2.1, h.2.2.2.2, rfl⟩
  · rename_i e
    exfalso
    split at h
    · rename_i e2; exact e _ _ _ _ _ e2
    · cases h
end Go.Proofs.YthokfhifahlohaaDoor.Eng
