/- SmapJson: part 6 of 15. -/
import Derived.Test.YtgbialeahdoelaaBSmapJsone
section
namespace Go.Proofs.Ytgbialeahdoelaa.Eng
open Go Go.Proofs.Ytgbialeahdoelaa.Base
set_option linter.unusedVariables false
set_option maxRecDepth 100000
set_option linter.unusedSimpArgs false
def tailV (d : Int) : Int × Bool := if Utf.cont d then (d - 128, true) else (0, false)
def F_tail : List AV → Option (Prop × AV)
 | [.d (.sl 1 xs), .d (.v (.int .i64 i))] => some (xs = (xs.map numOf).map (iD .u8) ∧ Bytes (xs.map numOf) ∧ 0 ≤ i ∧ xs.length ≤ 140737488355328, .tup [vInt .i64 (tailV ((xs.map numOf).getD i.toNat 0)).1, vBool (tailV ((xs.map numOf).getD i.toNat 0)).2])
 | _ => none
theorem getD_byte {l : List Int} (hb : Bytes l) (i : Nat) : 0 ≤ l.getD i 0 ∧ l.getD i 0 < 256 := by
 rw [List.getD_eq_getElem?_getD]
 cases h : l[i]? with
 | none => simp
 | some d => exact hb d (List.mem_of_getElem? h)
theorem tail_body {Γ : Gam} (l : List Int) (hb : Bytes l) (hl : l.length ≤ 140737488355328) (i : Int) (hi : 0 ≤ i) : Body Try.prog Γ (DRun Try.prog Γ) 48 [.d (bytesD l), .d (.v (.int .i64 i))] (.tup [vInt .i64 (tailV (l.getD i.toNat 0)).1, vBool (tailV (l.getD i.toNat 0)).2]) := by
 refine Body.of Try.func48 Try.ntmps48 (by kernel_rfl) rfl rfl rfl ?_
 simp only [bytesD, AV.flat, AV.flat.flatL, getD_iD, iD, List.length_map, goTG_val, goTG_new, goTG_up, goTG_none, goG_none, goG_new, goG_up, ne_eq, evK, evH, retHF, DRun_mk, runT_nil, runT_none, runT_guard, goT_val, goT_new, goT_store, goTH_true, goTH_false, evO, keys, Option.toList_some, Option.toList_none, nzL_nil, nzL_cons, nz_k, nz_sl, nz_nil, nz_agg, startL, evC, evV, goE_val, goE_new, goE_store, goH_true, goH_false, goG_val, lk_cons, lk_nil, lk_func, lk_int, lk_bool, lk_string, lk_slice, lk_agg, look_mk, St.effOf, eff, effCall, effBinC, isConst, effBin, effUn, effConv, effPick, effNil, effFold, fold1, effLoad, effStore, effFieldAddr, effField, fieldOf, sliceOf, effIndexAddr, effIndex, effLen, effExtract, effSlice, dats, bnd, effBuild, placesOf, effBuildSlice, effMakeSlice, effAppend, srcOf, fillA, chunk, seg, toD, toDs, put, eqAV, fieldsEq, leafEq, strip, unw, allB, selP_or, selP_and, tis, TyD.agg, AV.cells, AV.cell, allCell, vInt, vBool, vStr, subL_nil, subL_cons, upIds, AV.ids, AV.ids.idsL, AObj.ids, drops, Hp.get_cons, get_nil, retF, resL, one, fz, fz.fzL, List.map_cons, List.map_nil, List.nil_append, List.append_nil, List.cons_append, List.all_cons, List.all_nil, List.length_cons, List.length_nil, List.getElem?_cons_zero, List.getElem?_cons_succ, List.getD_cons_zero, List.getD_cons_succ, List.take_succ_cons, List.take_zero, List.drop_succ_cons, List.drop_zero, List.take_nil, List.drop_nil, List.contains_cons, List.contains_nil, Option.getD_some, Option.getD_none, Option.map_some, Option.map_none, if_true, if_false, true_and, and_true, and_self, or_self, or_false, false_or, false_and, and_false, reduceCtorEq, sel_and, sel_or, decide_eq_true_eq, Bool.and_eq_true, Bool.or_eq_true, Bool.and_true, Bool.true_and, Bool.or_false, Bool.false_or, Bool.true_or, Bool.or_true, Bool.not_true, Bool.not_false, Bool.false_eq_true, implies_true, not_false_eq_true, Nat.reduceLT, Nat.reduceEqDiff, Nat.reduceAdd, Nat.reduceMul, Nat.reduceMod, Nat.reduceLeDiff, Nat.reduceBEq, Nat.zero_add, Nat.add_zero, reduceIte, ↓reduceIte, List.not_mem_nil]
 have hd := getD_byte hb i.toNat
 refine ⟨fun h => ⟨hi, by simpa using h⟩, ?_⟩
 by_cases h1 : i ≥ (l.length : Int)
 ·rw [if_pos (.inl h1), List.getD_eq_getElem?_getD, List.getElem?_eq_none (by omega)]
  exact Sub.refl _
 ·unfold tailV
  generalize l.getD i.toNat 0 = d at hd ⊢
  have hc := and_cont hd.1 hd.2
  by_cases k : Utf.cont d
  ·rw [if_neg (by rw [hc.mpr k]; simpa using h1), if_pos k, u8_and63 (x := d) hd.1 hd.2, w64 (by omega) (by omega)]
   refine ⟨by omega, Sub.eq ?_⟩
   unfold Utf.cont at k
   simp only [vInt, vBool, show d % 64 = d - 128 by omega]
  ·rw [if_pos (.inr (by simpa using fun h => k (hc.mp h))), if_neg k]
def G_rn : Gam := Gam.none.add 48 fun a => F_tail (NT.nz.nzL [.s 1, .k] a)
theorem tail_calm : ∀ args sc res, F_tail args = some (sc, res) → sc → Calm Try.prog 48 args res := by
 intro args sc res h hs
 unfold F_tail at h
 split at h <;> cases h
 rename_i xs i
 obtain ⟨h1, h2, h3, h4⟩ := hs
 have hb := tail_body (Γ := Gam.none) (xs.map numOf) h2 (by simpa using h4) i h3
 rw [bytesD, ← h1] at hb
 exact (Known.none _).calm mixed rfl rfl hb
theorem G_rn_at (h : Nat → Option AObj) (d : Nat) (a : List AV) : G_rn 48 h d a = calmE (fun a => F_tail (NT.nz.nzL [.s 1, .k] a)) h a := rfl
theorem known_rn : Known Try.prog G_rn := (Known.none _).addC _ tail_calm
theorem i64_and31 {x : Int} (h0 : 0 ≤ x) (h1 : x < 2147483648) : bits .and .i64 x 31 = x % 32 :=
 bits_mask .i64 31 (by decide) wraps_i64 5 (by decide) x h0 h1
theorem i64_and15 {x : Int} (h0 : 0 ≤ x) (h1 : x < 2147483648) : bits .and .i64 x 15 = x % 16 :=
 bits_mask .i64 31 (by decide) wraps_i64 4 (by decide) x h0 h1
theorem i64_and7 {x : Int} (h0 : 0 ≤ x) (h1 : x < 2147483648) : bits .and .i64 x 7 = x % 8 :=
 bits_mask .i64 31 (by decide) wraps_i64 3 (by decide) x h0 h1
def S_RN (b : Dat) (i n low : Int) (p : Int × Nat) : St := ⟨94, [], [(0, .d b), (1, vInt .i64 i), (8, vInt .i64 n), (9, vInt .i64 p.1), (10, vInt .i64 low), (11, vInt .i64 (p.2 + 1))], []⟩
theorem RNext_body (l : List Int) (hb : Bytes l) (hl : l.length ≤ 140737488355328) (i : Int) : Body Try.prog G_rn (DRun Try.prog G_rn) 29 [.d (bytesD l), .d (.v (.int .i64 i))] (.tup [vInt .i64 (Utf.nx l i).1, vInt .i64 (Utf.nx l i).2.1, vBool (Utf.nx l i).2.2]) := by
 refine Body.of Try.func29 Try.ntmps29 (by kernel_rfl) rfl rfl rfl ?_
 simp only [bytesD, G_rn_at, calmE, F_tail, AV.flat, AV.flat.flatL, getD_iD, iD, num_iD, List.length_map, goTG_val, goTG_new, goTG_up, goTG_none, goG_none, goG_new, goG_up, ne_eq, evK, evH, retHF, DRun_mk, runT_nil, runT_none, runT_guard, goT_val, goT_new, goT_store, goTH_true, goTH_false, evO, keys, Option.toList_some, Option.toList_none, nzL_nil, nzL_cons, nz_k, nz_sl, nz_nil, nz_agg, startL, evC, evV, goE_val, goE_new, goE_store, goH_true, goH_false, goG_val, lk_cons, lk_nil, lk_func, lk_int, lk_bool, lk_string, lk_slice, lk_agg, look_mk, St.effOf, eff, effCall, effBinC, isConst, effBin, effUn, effConv, effPick, effNil, effFold, fold1, effLoad, effStore, effFieldAddr, effField, fieldOf, sliceOf, effIndexAddr, effIndex, effLen, effExtract, effSlice, dats, bnd, effBuild, placesOf, effBuildSlice, effMakeSlice, effAppend, srcOf, fillA, chunk, seg, toD, toDs, put, eqAV, fieldsEq, leafEq, strip, unw, allB, selP_or, selP_and, tis, TyD.agg, AV.cells, AV.cell, allCell, vInt, vBool, vStr, subL_nil, subL_cons, upIds, AV.ids, AV.ids.idsL, AObj.ids, drops, Hp.get_cons, get_nil, retF, resL, one, fz, fz.fzL, List.map_cons, List.map_nil, List.nil_append, List.append_nil, List.cons_append, List.all_cons, List.all_nil, List.length_cons, List.length_nil, List.getElem?_cons_zero, List.getElem?_cons_succ, List.getD_cons_zero, List.getD_cons_succ, List.take_succ_cons, List.take_zero, List.drop_succ_cons, List.drop_zero, List.take_nil, List.drop_nil, List.contains_cons, List.contains_nil, Option.getD_some, Option.getD_none, Option.map_some, Option.map_none, if_true, if_false, true_and, and_true, and_self, or_self, or_false, false_or, false_and, and_false, reduceCtorEq, sel_and, sel_or, decide_eq_true_eq, Bool.and_eq_true, Bool.or_eq_true, Bool.and_true, Bool.true_and, Bool.or_false, Bool.false_or, Bool.true_or, Bool.or_true, Bool.not_true, Bool.not_false, Bool.false_eq_true, implies_true, not_false_eq_true, Nat.reduceLT, Nat.reduceEqDiff, Nat.reduceAdd, Nat.reduceMul, Nat.reduceMod, Nat.reduceLeDiff, Nat.reduceBEq, Nat.zero_add, Nat.add_zero, reduceIte, ↓reduceIte, List.not_mem_nil]
 by_cases hi : i < 0 ∨ i ≥ (l.length : Int)
 ·rw [if_pos hi, Utf.nx, if_pos (by omega)]
 ·rw [if_neg hi]
  have hi' : ¬ (i < 0 ∨ (l.length : Int) ≤ i) := by omega
  obtain ⟨c, t, ht⟩ : ∃ c t, l.drop i.toNat = c :: t := by
   cases h : l.drop i.toNat with
   | nil => have := List.drop_eq_nil_iff.mp h; omega
   | cons c t => exact ⟨c, t, rfl⟩
  have hc : l.getD i.toNat 0 = c := by
   rw [List.getD_eq_getElem?_getD, ← Nat.add_zero i.toNat, ← List.getElem?_drop, ht]; rfl
  have hbt : Bytes (c :: t) := by rw [← ht]; exact fun x hx => hb x (List.mem_of_mem_drop hx)
  have hr := hbt.head
  have ht1 : l.drop (i.toNat + 1) = t := by rw [← List.drop_drop, ht]; rfl
  have hg : ∀ k : Nat, l.getD (i + ((k : Int) + 1)).toNat 0 = t.getD k 0 := fun k => by
   rw [show (i + ((k : Int) + 1)).toNat = i.toNat + 1 + k by omega, List.getD_eq_getElem?_getD, ← List.getElem?_drop, ht1, ← List.getD_eq_getElem?_getD]
  rw [hc]
  have hn : Utf.nx l i = Utf.dec (c :: t) := by rw [Utf.nx, if_neg hi', ht]
  rw [hn, ref_dec hbt]
  refine ⟨by omega, ?_⟩
  have q1 : bits .and .i64 c 31 = c % 32 := i64_and31 hr.1 (by omega)
  have q2 : bits .and .i64 c 15 = c % 16 := i64_and15 hr.1 (by omega)
  have q3 : bits .and .i64 c 7 = c % 8 := i64_and7 hr.1 (by omega)
  rw [w64 (n := c) (by omega) (by omega)]
  simp only [ge_iff_le]
  have w1 : 192 ≤ c → c < 224 → c % 32 = c - 192 := by omega
  have w2 : 224 ≤ c → c < 240 → c % 16 = c - 224 := by omega
  have w3 : 240 ≤ c → c < 248 → c % 8 = c - 240 := by omega
  by_cases a1 : c < 128
  rw [if_pos a1, if_pos a1]
  obtain ⟨m, low, r0, em, el, er, key, k1, k2, k3, k4⟩ : ∃ (m : Nat) (low r0 : Int), m = 0 ∧ low = 0 ∧ r0 = c ∧ (c, 1, true) = runR low (m + 1) m r0 t ∧ m ≤ 3 ∧ 0 ≤ r0 ∧ r0 < 128 ∧ (0 < m → r0 < 32) := by
   refine ⟨0, 0, c, rfl, rfl, rfl, ?_, by omega, by omega, by omega, by omega⟩
   rw [runR, finR, if_neg (by omega)]; rfl
  rotate_left
  rw [if_neg a1, if_neg a1]
  by_cases a2 : 192 ≤ c ∧ c < 224
  rw [if_pos a2, if_pos a2, q1, w1 a2.1 a2.2]
  obtain ⟨m, low, r0, em, el, er, key, k1, k2, k3, k4⟩ : ∃ (m : Nat) (low r0 : Int), m = 1 ∧ low = 128 ∧ r0 = c - 192 ∧ runR 128 2 1 (c - 192) t = runR low (m + 1) m r0 t ∧ m ≤ 3 ∧ 0 ≤ r0 ∧ r0 < 128 ∧ (0 < m → r0 < 32) :=
   ⟨1, 128, c - 192, rfl, rfl, rfl, rfl, by omega, by omega, by omega, by omega⟩
  rotate_left
  rw [if_neg a2, if_neg a2]
  by_cases a3 : 224 ≤ c ∧ c < 240
  rw [if_pos a3, if_pos a3, q2, w2 a3.1 a3.2]
  obtain ⟨m, low, r0, em, el, er, key, k1, k2, k3, k4⟩ : ∃ (m : Nat) (low r0 : Int), m = 2 ∧ low = 2048 ∧ r0 = c - 224 ∧ runR 2048 3 2 (c - 224) t = runR low (m + 1) m r0 t ∧ m ≤ 3 ∧ 0 ≤ r0 ∧ r0 < 128 ∧ (0 < m → r0 < 32) :=
   ⟨2, 2048, c - 224, rfl, rfl, rfl, rfl, by omega, by omega, by omega, by omega⟩
  rotate_left
  rw [if_neg a3, if_neg a3]
  by_cases a4 : 240 ≤ c ∧ c < 248
  rw [if_pos a4, if_pos a4, q3, w3 a4.1 a4.2]
  obtain ⟨m, low, r0, em, el, er, key, k1, k2, k3, k4⟩ : ∃ (m : Nat) (low r0 : Int), m = 3 ∧ low = 65536 ∧ r0 = c - 240 ∧ runR 65536 4 3 (c - 240) t = runR low (m + 1) m r0 t ∧ m ≤ 3 ∧ 0 ≤ r0 ∧ r0 < 128 ∧ (0 < m → r0 < 32) :=
   ⟨3, 65536, c - 240, rfl, rfl, rfl, rfl, by omega, by omega, by omega, by omega⟩
  rotate_left
  ·rw [if_neg a4, if_neg a4]
   exact Sub.refl _
  all_goals
   rw [key]
   clear key hn
   refine wpc_loop (S_RN (bytesD l) i (m + 1) low) (fun p => p.2 ≤ m ∧ 0 ≤ p.1 ∧ (0 < m → p.1 < 32 * 64 ^ p.2) ∧ (m = 0 → p.1 < 128) ∧ runR low (m + 1) (m - p.2) p.1 (t.drop p.2) = runR low (m + 1) m r0 t) (fun p => m - p.2) (r0, 0) ⟨Nat.zero_le _, k2, fun h => by simpa using k4 h, fun _ => k3, rfl⟩ ?_ ?_
   ·refine Le.of id [] ?_
    simp only [S_RN, bytesD, em, el, er, iD, List.length_map, Mt_tup, Mt_agg, Mt_fn, forall_eq, forall_eq_or_imp, ne_eq, List.all_cons, List.all_nil, pr, Nat.reduceLeDiff, slR_nil, slR_cons, hpR_nil, hpR_cells, hpR_row, idsR_nil, idsR_cons, mtE_v, mtE_sl, mtE_nil, mtE_refl, mtE_row, mtE_born, mtE_ptr, mtE_rp, mtE_agg, mtE_tup, mtE_fn, mtE_ep, MtL_nil, MtL_cons, Mt_v, Mt_sl, Mt_nil, Mt_refl, Mt_row, Mt_born, Mt_ptr, MtO_cells, MtO_row, liveIds, distinct, Dat.v.injEq, Dat.sl.injEq, Value.int.injEq, Value.bool.injEq, Value.string.injEq, lk_cons, lk_nil, subL_nil, subL_cons, upIds, AV.ids, AV.ids.idsL, AObj.ids, Hp.get_cons, get_nil, allCell, AV.cell, vInt, vBool, vStr, id, true_and, and_true, and_self, List.append_nil, List.nil_append, List.not_mem_nil, List.mem_cons, or_false, false_or, or_self, not_true_eq_false, not_false_eq_true, false_imp_iff, false_implies, List.map_nil, not_false_eq_true, List.contains_cons, List.contains_nil, Bool.or_false, Bool.false_or, Bool.true_or, Bool.or_true, Bool.and_true, Bool.true_and, implies_true, if_true, if_false, reduceCtorEq, Nat.reduceEqDiff, Nat.reduceBEq, Nat.reduceAdd, reduceIte, ↓reduceIte]
    first | rfl | exact ⟨by omega, by omega⟩
   ·rintro ⟨x, j⟩ ⟨h1, h2, h3, h5, h4⟩
    simp only [S_RN, bytesD, G_rn_at, calmE, F_tail, AV.flat, AV.flat.flatL, getD_iD, iD, num_iD, List.length_map, goTG_val, goTG_new, goTG_up, goTG_none, goG_none, goG_new, goG_up, ne_eq, evK, evH, retHF, DRun_mk, runT_nil, runT_none, runT_guard, goT_val, goT_new, goT_store, goTH_true, goTH_false, evO, keys, Option.toList_some, Option.toList_none, nzL_nil, nzL_cons, nz_k, nz_sl, nz_nil, nz_agg, startL, evC, evV, goE_val, goE_new, goE_store, goH_true, goH_false, goG_val, lk_cons, lk_nil, lk_func, lk_int, lk_bool, lk_string, lk_slice, lk_agg, look_mk, St.effOf, eff, effCall, effBinC, isConst, effBin, effUn, effConv, effPick, effNil, effFold, fold1, effLoad, effStore, effFieldAddr, effField, fieldOf, sliceOf, effIndexAddr, effIndex, effLen, effExtract, effSlice, dats, bnd, effBuild, placesOf, effBuildSlice, effMakeSlice, effAppend, srcOf, fillA, chunk, seg, toD, toDs, put, eqAV, fieldsEq, leafEq, strip, unw, allB, selP_or, selP_and, tis, TyD.agg, AV.cells, AV.cell, allCell, vInt, vBool, vStr, subL_nil, subL_cons, upIds, AV.ids, AV.ids.idsL, AObj.ids, drops, Hp.get_cons, get_nil, retF, resL, one, fz, fz.fzL, List.map_cons, List.map_nil, List.nil_append, List.append_nil, List.cons_append, List.all_cons, List.all_nil, List.length_cons, List.length_nil, List.getElem?_cons_zero, List.getElem?_cons_succ, List.getD_cons_zero, List.getD_cons_succ, List.take_succ_cons, List.take_zero, List.drop_succ_cons, List.drop_zero, List.take_nil, List.drop_nil, List.contains_cons, List.contains_nil, Option.getD_some, Option.getD_none, Option.map_some, Option.map_none, if_true, if_false, true_and, and_true, and_self, or_self, or_false, false_or, false_and, and_false, reduceCtorEq, sel_and, sel_or, decide_eq_true_eq, Bool.and_eq_true, Bool.or_eq_true, Bool.and_true, Bool.true_and, Bool.or_false, Bool.false_or, Bool.true_or, Bool.or_true, Bool.not_true, Bool.not_false, Bool.false_eq_true, implies_true, not_false_eq_true, Nat.reduceLT, Nat.reduceEqDiff, Nat.reduceAdd, Nat.reduceMul, Nat.reduceMod, Nat.reduceLeDiff, Nat.reduceBEq, Nat.zero_add, Nat.add_zero, reduceIte, ↓reduceIte, List.not_mem_nil]
    simp only [] at h1 h2 h3 h4 h5
    have hx : x < 32 * 64 ^ 3 := by
     rcases Nat.eq_zero_or_pos m with h0 | h0
     ·have := h5 h0; omega
     ·have := h3 h0
      have hp : (64 : Int) ^ j ≤ 64 ^ 3 := by
       rcases (show j = 0 ∨ j = 1 ∨ j = 2 ∨ j = 3 by omega) with rfl | rfl | rfl | rfl <;> decide
      omega
    by_cases hj : j < m
    ·rw [if_pos (by omega)]
     rw [w64 (n := i + ((j : Int) + 1)) (by omega) (by omega), hg]
     refine ⟨⟨hb, by omega, hl⟩, ?_⟩
     have hm : m - j = (m - (j + 1)) + 1 := by omega
     have hd : t.getD j 0 = (t.drop j).headD 0 := by
      rw [List.getD_eq_getElem?_getD, ← Nat.add_zero j, ← List.getElem?_drop]
      cases List.drop (j + 0) t <;> rfl
     have hdr : t.drop (j + 1) = (t.drop j).drop 1 := by rw [List.drop_drop]
     have hbd : Bytes (t.drop j) := fun y hy => hbt y (List.mem_cons_of_mem _ (List.mem_of_mem_drop hy))
     rw [hm] at h4
     cases hq : t.drop j with
     | nil =>
      rw [hq, runR] at h4
      simp only [hd, hq, List.headD_nil, show tailV 0 = (0, false) from rfl, Bool.not_false, if_true]
      rw [← h4]
      exact Sub.refl _
     | cons d u =>
      rw [hq] at h4 hdr hbd
      simp only [List.drop_succ_cons, List.drop_zero] at hdr
      rw [runR] at h4
      by_cases hk : Utf.cont d
      ·rw [if_pos hk] at h4
       simp only [hd, hq, List.headD_cons, tailV, if_pos hk, Bool.not_true, Bool.false_eq_true, if_false]
       unfold Utf.cont at hk
       refine ⟨by omega, (x * 64 + (d - 128), j + 1), by simp only []; omega, ⟨hj, by simp only []; omega, fun h => ?_, fun h => by omega, by simp only [hdr]; exact h4⟩, Le.of id [] ?_⟩
       ·have := h3 h
        simp only [Int.pow_succ]; omega
       ·simp only [iD, List.length_map, Mt_tup, Mt_agg, Mt_fn, forall_eq, forall_eq_or_imp, ne_eq, List.all_cons, List.all_nil, pr, Nat.reduceLeDiff, slR_nil, slR_cons, hpR_nil, hpR_cells, hpR_row, idsR_nil, idsR_cons, mtE_v, mtE_sl, mtE_nil, mtE_refl, mtE_row, mtE_born, mtE_ptr, mtE_rp, mtE_agg, mtE_tup, mtE_fn, mtE_ep, MtL_nil, MtL_cons, Mt_v, Mt_sl, Mt_nil, Mt_refl, Mt_row, Mt_born, Mt_ptr, MtO_cells, MtO_row, liveIds, distinct, Dat.v.injEq, Dat.sl.injEq, Value.int.injEq, Value.bool.injEq, Value.string.injEq, lk_cons, lk_nil, subL_nil, subL_cons, upIds, AV.ids, AV.ids.idsL, AObj.ids, Hp.get_cons, get_nil, allCell, AV.cell, vInt, vBool, vStr, id, true_and, and_true, and_self, List.append_nil, List.nil_append, List.not_mem_nil, List.mem_cons, or_false, false_or, or_self, not_true_eq_false, not_false_eq_true, false_imp_iff, false_implies, List.map_nil, not_false_eq_true, List.contains_cons, List.contains_nil, Bool.or_false, Bool.false_or, Bool.true_or, Bool.or_true, Bool.and_true, Bool.true_and, implies_true, if_true, if_false, reduceCtorEq, Nat.reduceEqDiff, Nat.reduceBEq, Nat.reduceAdd, reduceIte, ↓reduceIte]
        rw [show (2 : Int) ^ min (Int.toNat 6) IntKind.i64.bits = 64 from rfl, w64 (n := x * 64) (by omega) (by omega), i64_or6 h2 (by omega) (by omega) (by omega), w64 (n := ((j : Int) + 1) + 1) (by omega) (by omega)]
        exact ⟨by omega, by omega⟩
      ·rw [if_neg hk] at h4
       simp only [hd, hq, List.headD_cons, tailV, if_neg hk, Bool.not_false, if_true]
       rw [← h4]
       exact Sub.refl _
    ·rw [if_neg (by omega)]
     have hj2 : m - j = 0 := by omega
     rw [hj2, runR, finR] at h4
     rw [← h4]
     have key : (x < low ∨ x > 1114111 ∨ (55296 ≤ x ∧ x < 57344)) ∨ ¬ (x < low ∨ x > 1114111 ∨ (55296 ≤ x ∧ x < 57344)) := Classical.em _
     rcases key with h | h
     ·rw [if_pos (by simpa [or_assoc] using h), if_pos h]
      exact Sub.refl _
     ·rw [if_neg (by simpa [and_assoc] using h), if_neg h]
theorem RNext_calm : ∀ args sc res, F_Next args = some (sc, res) → sc → Calm Try.prog 29 args res := by
 intro args sc res h hs
 unfold F_Next at h
 split at h <;> cases h
 rename_i xs i
 obtain ⟨h1, h2, h3⟩ := hs
 have hb := RNext_body (xs.map numOf) h2 (by simpa using h3) i
 rw [bytesD, ← h1] at hb
 exact known_rn.calm mixed rfl rfl hb
end Go.Proofs.Ytgbialeahdoelaa.Eng

end

section
namespace Go.Proofs.Ytgbialeahdoelaa.Eng
open Go Go.Proofs.Ytgbialeahdoelaa.Base
set_option maxRecDepth 100000
set_option linter.unusedSimpArgs false
set_option linter.unusedVariables false
def vals : Nat → List Int → Nat × Bool
 | 0, l => (0, decide (l = []))
 | n + 1, l => if l = [] then (0, true) else if (Utf.dec l).2.2 = true then ((Utf.dec l).2.1.toNat + (vals n (l.drop (Utf.dec l).2.1.toNat)).1, (vals n (l.drop (Utf.dec l).2.1.toNat)).2) else (0, false)
theorem vals_nil (n : Nat) : vals n [] = (0, true) := by cases n <;> rfl
theorem vals_fuel : ∀ (n m : Nat) (l : List Int), Bytes l → l.length ≤ n → l.length ≤ m → vals n l = vals m l
 | 0, m, l, _, h, _ => by
  obtain rfl : l = [] := List.eq_nil_of_length_eq_zero (Nat.le_zero.mp h)
  rw [vals_nil, vals_nil]
 | n + 1, 0, l, _, _, h => by
  obtain rfl : l = [] := List.eq_nil_of_length_eq_zero (Nat.le_zero.mp h)
  rw [vals_nil, vals_nil]
 | n + 1, m + 1, l, hb, h1, h2 => by
  unfold vals
  by_cases h : l = []
  ·rw [if_pos h, if_pos h]
  ·have := Utf.dec_len hb h
   rw [if_neg h, if_neg h, vals_fuel n m _ (fun x hx => hb x (List.mem_of_mem_drop hx)) (by rw [List.length_drop]; omega) (by rw [List.length_drop]; omega)]
theorem vals_enc : ∀ (rs t : List Int) (n : Nat), (∀ r ∈ rs, Utf.isCp r) → (Utf.dec t).2.2 = false → (Utf.encAll rs ++ t).length ≤ n → vals n (Utf.encAll rs ++ t) = ((Utf.encAll rs).length, decide (t = []))
 | [], t, n, _, ht, hn => by
  rw [Utf.encAll_nil, List.nil_append]
  cases n with
  | zero => rfl
  | succ n =>
   unfold vals
   by_cases h : t = []
   ·rw [if_pos h, decide_eq_true h]; rfl
   ·rw [if_neg h, if_neg (by rw [ht]; exact Bool.false_ne_true), decide_eq_false h]; rfl
 | r :: rs, t, n, hr, ht, hn => by
  have h1 := hr r List.mem_cons_self
  have hs := Utf.size_range r
  have he := Utf.enc_size (r := r)
  rw [Utf.encAll_cons, List.append_assoc] at hn ⊢
  rw [List.length_append] at hn
  cases n with
  | zero => omega
  | succ n =>
   unfold vals
   rw [Utf.dec_enc h1, if_neg (fun h => by have := congrArg List.length h; simp only [List.length_append, List.length_nil] at this; omega)]
   simp only [if_true]
   rw [show (Utf.size r).toNat = (Utf.enc r).length by omega, List.drop_left, vals_enc rs t n (fun x hx => hr x (List.mem_cons_of_mem _ hx)) ht (by omega), List.length_append]
def F_val : List AV → Option (Prop × AV)
 | [.d (.sl 1 xs)] => some (xs = (xs.map numOf).map (iD .u8) ∧ Bytes (xs.map numOf) ∧ xs.length ≤ 140737488355, .tup [vInt .i64 ((vals xs.length (xs.map numOf)).1 : Nat), vBool (vals xs.length (xs.map numOf)).2])
 | _ => none
theorem val_step {l : List Int} {i : Nat} (hb : Bytes l) (h1 : i < l.length) (hr : ∀ n, l.length - i ≤ n → (i + (vals n (l.drop i)).1, (vals n (l.drop i)).2) = vals l.length l) :
  ∃ r k ok, Utf.nx l i = (r, ((k : Nat) : Int), ok) ∧ 1 ≤ k ∧ i + k ≤ l.length ∧ (ok = true → ∀ n, l.length - (i + k) ≤ n → (i + k + (vals n (l.drop (i + k))).1, (vals n (l.drop (i + k))).2) = vals l.length l) ∧ (ok = false → vals l.length l = (i, false)) := by
 have hne : l.drop i ≠ [] := fun h => by
  have := List.drop_eq_nil_iff.mp h
  omega
 have hbd : Bytes (l.drop i) := fun x hx => hb x (List.mem_of_mem_drop hx)
 have hd := Utf.dec_len hbd hne
 rw [List.length_drop] at hd
 have hnx : Utf.nx l i = Utf.dec (l.drop i) := by rw [Utf.nx, if_neg (by omega), Int.toNat_natCast]
 have hone : ∀ n, vals (n + 1) (l.drop i) = if (Utf.dec (l.drop i)).2.2 = true then ((Utf.dec (l.drop i)).2.1.toNat + (vals n ((l.drop i).drop (Utf.dec (l.drop i)).2.1.toNat)).1, (vals n ((l.drop i).drop (Utf.dec (l.drop i)).2.1.toNat)).2) else (0, false) := fun n => by rw [vals, if_neg hne]
 rw [hnx]
 generalize Utf.dec (l.drop i) = q at hd hone ⊢
 obtain ⟨r, n, ok⟩ := q
 simp only [] at hd hone
 obtain ⟨k, rfl⟩ := Int.eq_ofNat_of_zero_le (show 0 ≤ n by omega)
 refine ⟨r, k, ok, rfl, by omega, by omega, fun ho n hn => ?_, fun ho => ?_⟩
 ·have := hr (l.length - i + n + 1) (by omega)
  rw [hone, if_pos ho, Int.toNat_natCast, List.drop_drop] at this
  rw [← this, vals_fuel n (l.length - i + n) _ (fun x hx => hb x (List.mem_of_mem_drop hx)) (by rw [List.length_drop]; omega) (by rw [List.length_drop]; omega), Nat.add_assoc]
 ·have := hr (l.length - i + 1) (by omega)
  rw [hone, if_neg (by rw [ho]; exact Bool.false_ne_true)] at this
  rw [← this]; rfl
noncomputable def G_rval : Gam := (Gam.none.add 29 fun a => F_Next (NT.nz.nzL [.s 1, .k] a))
theorem known_G_rval : Known Try.prog G_rval := (Known.none _).addC _ RNext_calm
theorem G_rval_at : (∀ h d a, G_rval 29 h d a = calmE (fun a => F_Next (NT.nz.nzL [.s 1, .k] a)) h a) := fun _ _ _ => rfl
theorem rval_body (l : List Int) (hb : Bytes l) (hl : l.length ≤ 140737488355) : Body Try.prog G_rval (DRun Try.prog G_rval) 13 [.d (bytesD l)] (.tup [vInt .i64 ((vals l.length l).1 : Nat), vBool (vals l.length l).2]) := by
 refine Body.of Try.func13 Try.ntmps13 (by kernel_rfl) rfl rfl rfl ?_
 simp only [bytesD, G_rval_at, calmE, F_Next, AV.flat, AV.flat.flatL, getD_iD, iD, num_iD, List.length_map, goTG_val, goTG_new, goTG_up, goTG_none, goG_none, goG_new, goG_up, ne_eq, evK, evH, retHF, DRun_mk, runT_nil, runT_none, runT_guard, goT_val, goT_new, goT_store, goTH_true, goTH_false, evO, keys, Option.toList_some, Option.toList_none, nzL_nil, nzL_cons, nz_k, nz_sl, nz_nil, nz_agg, startL, evC, evV, goE_val, goE_new, goE_store, goH_true, goH_false, goG_val, lk_cons, lk_nil, lk_func, lk_int, lk_bool, lk_string, lk_slice, lk_agg, look_mk, St.effOf, eff, effCall, effBinC, isConst, effBin, effUn, effConv, effPick, effNil, effFold, fold1, effLoad, effStore, effFieldAddr, effField, fieldOf, sliceOf, effIndexAddr, effIndex, effLen, effExtract, effSlice, dats, bnd, effBuild, placesOf, effBuildSlice, effMakeSlice, effAppend, srcOf, fillA, chunk, seg, toD, toDs, put, eqAV, fieldsEq, leafEq, strip, unw, allB, selP_or, selP_and, tis, TyD.agg, AV.cells, AV.cell, allCell, vInt, vBool, vStr, subL_nil, subL_cons, upIds, AV.ids, AV.ids.idsL, AObj.ids, drops, Hp.get_cons, get_nil, retF, resL, one, fz, fz.fzL, List.map_cons, List.map_nil, List.nil_append, List.append_nil, List.cons_append, List.all_cons, List.all_nil, List.length_cons, List.length_nil, List.getElem?_cons_zero, List.getElem?_cons_succ, List.getD_cons_zero, List.getD_cons_succ, List.take_succ_cons, List.take_zero, List.drop_succ_cons, List.drop_zero, List.take_nil, List.drop_nil, List.contains_cons, List.contains_nil, Option.getD_some, Option.getD_none, Option.map_some, Option.map_none, if_true, if_false, true_and, and_true, and_self, or_self, or_false, false_or, false_and, and_false, reduceCtorEq, sel_and, sel_or, decide_eq_true_eq, Bool.and_eq_true, Bool.or_eq_true, Bool.and_true, Bool.true_and, Bool.or_false, Bool.false_or, Bool.true_or, Bool.or_true, Bool.not_true, Bool.not_false, Bool.false_eq_true, implies_true, not_false_eq_true, Nat.reduceLT, Nat.reduceEqDiff, Nat.reduceAdd, Nat.reduceMul, Nat.reduceMod, Nat.reduceLeDiff, Nat.reduceBEq, Nat.zero_add, Nat.add_zero, reduceIte, ↓reduceIte, List.not_mem_nil]
 refine wpc_loop (fun k : Nat => ⟨26, [], [(0, .d (bytesD l)), (4, vInt .i64 k)], []⟩) (fun k => k ≤ l.length ∧ ∀ n, l.length - k ≤ n → (k + (vals n (l.drop k)).1, (vals n (l.drop k)).2) = vals l.length l) (fun k => l.length - k) 0 ⟨Nat.zero_le _, fun n hn => by rw [List.drop_zero, vals_fuel n l.length l hb (by omega) (Nat.le_refl _), Nat.zero_add]⟩ ?_ ?_
 ·refine Le.of id [] ?_
  simp only [bytesD, Mt_tup, Mt_agg, Mt_fn, forall_eq, forall_eq_or_imp, ne_eq, List.all_cons, List.all_nil, pr, Nat.reduceLeDiff, slR_nil, slR_cons, hpR_nil, hpR_cells, hpR_row, idsR_nil, idsR_cons, mtE_v, mtE_sl, mtE_nil, mtE_refl, mtE_row, mtE_born, mtE_ptr, mtE_rp, mtE_agg, mtE_tup, mtE_fn, mtE_ep, MtL_nil, MtL_cons, Mt_v, Mt_sl, Mt_nil, Mt_refl, Mt_row, Mt_born, Mt_ptr, MtO_cells, MtO_row, liveIds, distinct, Dat.v.injEq, Dat.sl.injEq, Value.int.injEq, Value.bool.injEq, Value.string.injEq, lk_cons, lk_nil, subL_nil, subL_cons, upIds, AV.ids, AV.ids.idsL, AObj.ids, Hp.get_cons, get_nil, allCell, AV.cell, vInt, vBool, vStr, id, true_and, and_true, and_self, List.append_nil, List.nil_append, List.not_mem_nil, List.mem_cons, or_false, false_or, or_self, not_true_eq_false, not_false_eq_true, false_imp_iff, false_implies, List.map_nil, not_false_eq_true, List.contains_cons, List.contains_nil, Bool.or_false, Bool.false_or, Bool.true_or, Bool.or_true, Bool.and_true, Bool.true_and, implies_true, if_true, if_false, reduceCtorEq, Nat.reduceEqDiff, Nat.reduceBEq, Nat.reduceAdd, reduceIte, ↓reduceIte]
  rfl
 ·rintro k ⟨hk, hr⟩
  simp only [bytesD, G_rval_at, calmE, F_Next, AV.flat, AV.flat.flatL, getD_iD, iD, num_iD, List.length_map, goTG_val, goTG_new, goTG_up, goTG_none, goG_none, goG_new, goG_up, ne_eq, evK, evH, retHF, DRun_mk, runT_nil, runT_none, runT_guard, goT_val, goT_new, goT_store, goTH_true, goTH_false, evO, keys, Option.toList_some, Option.toList_none, nzL_nil, nzL_cons, nz_k, nz_sl, nz_nil, nz_agg, startL, evC, evV, goE_val, goE_new, goE_store, goH_true, goH_false, goG_val, lk_cons, lk_nil, lk_func, lk_int, lk_bool, lk_string, lk_slice, lk_agg, look_mk, St.effOf, eff, effCall, effBinC, isConst, effBin, effUn, effConv, effPick, effNil, effFold, fold1, effLoad, effStore, effFieldAddr, effField, fieldOf, sliceOf, effIndexAddr, effIndex, effLen, effExtract, effSlice, dats, bnd, effBuild, placesOf, effBuildSlice, effMakeSlice, effAppend, srcOf, fillA, chunk, seg, toD, toDs, put, eqAV, fieldsEq, leafEq, strip, unw, allB, selP_or, selP_and, tis, TyD.agg, AV.cells, AV.cell, allCell, vInt, vBool, vStr, subL_nil, subL_cons, upIds, AV.ids, AV.ids.idsL, AObj.ids, drops, Hp.get_cons, get_nil, retF, resL, one, fz, fz.fzL, List.map_cons, List.map_nil, List.nil_append, List.append_nil, List.cons_append, List.all_cons, List.all_nil, List.length_cons, List.length_nil, List.getElem?_cons_zero, List.getElem?_cons_succ, List.getD_cons_zero, List.getD_cons_succ, List.take_succ_cons, List.take_zero, List.drop_succ_cons, List.drop_zero, List.take_nil, List.drop_nil, List.contains_cons, List.contains_nil, Option.getD_some, Option.getD_none, Option.map_some, Option.map_none, if_true, if_false, true_and, and_true, and_self, or_self, or_false, false_or, false_and, and_false, reduceCtorEq, sel_and, sel_or, decide_eq_true_eq, Bool.and_eq_true, Bool.or_eq_true, Bool.and_true, Bool.true_and, Bool.or_false, Bool.false_or, Bool.true_or, Bool.or_true, Bool.not_true, Bool.not_false, Bool.false_eq_true, implies_true, not_false_eq_true, Nat.reduceLT, Nat.reduceEqDiff, Nat.reduceAdd, Nat.reduceMul, Nat.reduceMod, Nat.reduceLeDiff, Nat.reduceBEq, Nat.zero_add, Nat.add_zero, reduceIte, ↓reduceIte, List.not_mem_nil]
  by_cases h1 : (k : Int) < l.length
  ·rw [if_pos h1]
   refine ⟨⟨hb, by omega⟩, ?_⟩
   obtain ⟨r, n, ok, e, k1, k2, k3, k4⟩ := val_step hb (by omega) hr
   simp only [e]
   cases ok with
   | true =>
    rw [if_neg (by decide)]
    refine ⟨k + n, by omega, ⟨k2, k3 rfl⟩, Le.of id [] ?_⟩
    simp only [bytesD, Mt_tup, Mt_agg, Mt_fn, forall_eq, forall_eq_or_imp, ne_eq, List.all_cons, List.all_nil, pr, Nat.reduceLeDiff, slR_nil, slR_cons, hpR_nil, hpR_cells, hpR_row, idsR_nil, idsR_cons, mtE_v, mtE_sl, mtE_nil, mtE_refl, mtE_row, mtE_born, mtE_ptr, mtE_rp, mtE_agg, mtE_tup, mtE_fn, mtE_ep, MtL_nil, MtL_cons, Mt_v, Mt_sl, Mt_nil, Mt_refl, Mt_row, Mt_born, Mt_ptr, MtO_cells, MtO_row, liveIds, distinct, Dat.v.injEq, Dat.sl.injEq, Value.int.injEq, Value.bool.injEq, Value.string.injEq, lk_cons, lk_nil, subL_nil, subL_cons, upIds, AV.ids, AV.ids.idsL, AObj.ids, Hp.get_cons, get_nil, allCell, AV.cell, vInt, vBool, vStr, id, true_and, and_true, and_self, List.append_nil, List.nil_append, List.not_mem_nil, List.mem_cons, or_false, false_or, or_self, not_true_eq_false, not_false_eq_true, false_imp_iff, false_implies, List.map_nil, not_false_eq_true, List.contains_cons, List.contains_nil, Bool.or_false, Bool.false_or, Bool.true_or, Bool.or_true, Bool.and_true, Bool.true_and, implies_true, if_true, if_false, reduceCtorEq, Nat.reduceEqDiff, Nat.reduceBEq, Nat.reduceAdd, reduceIte, ↓reduceIte]
    rw [w64 (by omega) (by omega)]
    omega
   | false =>
    rw [k4 rfl]
    first | done | exact Sub.refl _
  ·rw [if_neg h1]
   have h2 := hr 0 (by omega)
   rw [List.drop_eq_nil_of_le (by omega), vals_nil, Nat.add_zero] at h2
   rw [← h2]
theorem rval_calm : ∀ args sc res, F_val args = some (sc, res) → sc → Calm Try.prog 13 args res := by
 intro args sc res h hs
 unfold F_val at h
 split at h <;> cases h
 rename_i xs
 obtain ⟨h1, h2, h3⟩ := hs
 have hq := rval_body (xs.map numOf) h2 (by simpa using h3)
 rw [bytesD, ← h1, List.length_map] at hq
 exact known_G_rval.calm mixed rfl rfl hq
end Go.Proofs.Ytgbialeahdoelaa.Eng

end

section
namespace Go.Proofs.Ytgbialeahdoelaa.Jlex
open Go.RowKit Go.Proofs.YtgbialeahdoelaaW.PrintWords Go.Proofs.Ytgbialeahdoelaa.Base Go.Proofs.Ytgbialeahdoelaa.Utf Go.Proofs.Ytgbialeahdoelaa.Jstr

theorem toks_absorb {l : List Int} {j : Int} {ts : List (Int × Int × Int)} {e : Option Int} (h : Toks l j ts e) : ∀ (b0 : List Int) (i : Int), (∀ x ∈ b0, blk x = true) → j = i + (b0.length : Int) → Toks (b0 ++ l) i ts e := by
 have both : ∀ {b0 b : List Int}, (∀ x ∈ b0, blk x = true) → (∀ x ∈ b, blk x = true) → ∀ x ∈ b0 ++ b, blk x = true := by
  intro b0 b h1 h2 x hx
  rcases List.mem_append.1 hx with h | h
  ·exact h1 x h
  ·exact h2 x h
 intro b0 i h0 hj
 cases h with
 | nil hb => exact Toks.nil (both h0 hb)
 | @bad b c t _ hb hc ht =>
  have := Toks.bad (i := i) (both h0 hb) hc ht
  rw [List.append_assoc] at this
  rw [hj, show i + (b0.length : Int) + (b.length : Int) = i + ((b0 ++ b).length : Int) by rw [List.length_append]; omega]
  exact this
 | @cons b c t _ k n ts e hb hc ht hr =>
  have ep : i + (b0.length : Int) + (b.length : Int) = i + ((b0 ++ b).length : Int) := by rw [List.length_append]; omega
  rw [hj, ep] at hr ⊢
  have := Toks.cons (i := i) (both h0 hb) hc ht hr
  rw [List.append_assoc] at this
  exact this
def shift (d : Int) (x : Int × Int × Int) : Int × Int × Int := (x.1, x.2.1 + d, x.2.2 + d)
end Go.Proofs.Ytgbialeahdoelaa.Jlex

end

section
namespace Go.Proofs.Ytgbialeahdoelaa.Eng
open Go Go.Proofs.Ytgbialeahdoelaa.Base
set_option maxRecDepth 100000
set_option linter.unusedSimpArgs false
set_option linter.unusedVariables false
theorem toksF_some : ∀ (n : Nat) (l : List Int) (i : Int), l.length < n → ∃ r, Jlex.toksF n l i = some r
 | 0, l, i, h => by omega
 | n + 1, l, i, h => by
  rw [Jlex.toksF]
  have hlen := (List.dropWhile_sublist (p := Jlex.blk) (l := l)).length_le
  rcases hd : l.dropWhile Jlex.blk with _ | ⟨c, t⟩
  ·exact ⟨_, rfl⟩
  ·rw [hd] at hlen
   rcases ht : Jlex.tok (c :: t) with ⟨k, _ | m⟩
   ·simp only [ht]; exact ⟨_, rfl⟩
   ·have hm := Jlex.tok_le ht
    simp only [ht]
    obtain ⟨r, hr⟩ := toksF_some n ((c :: t).drop m) (i + ((l.takeWhile Jlex.blk).length : Int) + (m : Int)) (by rw [List.length_drop]; omega)
    rw [hr]
    exact ⟨_, rfl⟩
theorem toksF_of {l : List Int} {ts : List (Int × Int × Int)} {e : Option Int} (h : Jlex.Toks l 0 ts e) : Jlex.toksF (l.length + 1) l 0 = some (ts, e) := by
 obtain ⟨⟨ts', e'⟩, h1⟩ := toksF_some (l.length + 1) l 0 (by omega)
 obtain ⟨rfl, rfl⟩ := Jlex.toks_bytes_unique h (Jlex.toksF_ok _ _ _ _ _ h1)
 exact h1
def splitF (l : List Int) : List (Int × Int × Int) × Int × Int :=
 if 20000 < l.length then ([], 5, 20000) else if (vals l.length l).2 = false then ([], 2, ((vals l.length l).1 : Nat)) else
 match Jlex.toksF (l.length + 1) l 0 with
 | some (ts, none) => (ts, 0, 0)
 | some (_, some p) => ([], 3, p)
 | none => ([], 0, 0)
theorem splitF_long {l : List Int} (h : 20000 < l.length) : splitF l = ([], 5, 20000) := if_pos h
theorem splitF_utf {l : List Int} (h : ¬ 20000 < l.length) (h2 : (vals l.length l).2 = false) : splitF l = ([], 2, (((vals l.length l).1 : Nat) : Int)) := by
 unfold splitF; rw [if_neg h, if_pos h2]
theorem splitF_ok {l : List Int} (h : ¬ 20000 < l.length) (h2 : (vals l.length l).2 = true) {ts : List (Int × Int × Int)} (ht : Jlex.Toks l 0 ts none) : splitF l = (ts, 0, 0) := by
 unfold splitF; rw [if_neg h, if_neg (by rw [h2]; decide), toksF_of ht]
theorem splitF_bad {l : List Int} (h : ¬ 20000 < l.length) (h2 : (vals l.length l).2 = true) {ts : List (Int × Int × Int)} {p : Int} (ht : Jlex.Toks l 0 ts (some p)) : splitF l = ([], 3, p) := by
 unfold splitF; rw [if_neg h, if_neg (by rw [h2]; decide), toksF_of ht]
def tkR (x : Int × Int × Int) : List Dat := [.v (.int .i64 x.1), .v (.int .i64 x.2.1), .v (.int .i64 x.2.2)]
theorem tk_at (ts : List (Int × Int × Int)) (n : Nat) : (ts.map tkR).getD n [.v (.int .i64 0), .v (.int .i64 0), .v (.int .i64 0)] = tkR (ts.getD n (0, 0, 0)) := by
 rw [List.getD_eq_getElem?_getD, List.getD_eq_getElem?_getD, List.getElem?_map]
 cases ts[n]? <;> rfl
theorem tk_cells (x : Int × Int × Int) : (tkR x).length = 3 ∧ (tkR x).getD 0 default = .v (.int .i64 x.1) ∧ (tkR x).getD 1 default = .v (.int .i64 x.2.1) ∧ (tkR x).getD 2 default = .v (.int .i64 x.2.2) := ⟨rfl, rfl, rfl, rfl⟩
def toksD (ts : List (Int × Int × Int)) : Dat := .sl 3 (ts.map tkR)
def faultD (e a : Int) : AV := .agg [vInt .i64 e, vInt .i64 a]
def splitD (r : List (Int × Int × Int) × Int × Int) : AV := .tup [.d (toksD r.1), faultD r.2.1 r.2.2]
def F_spj : List AV → Option (Prop × AV)
 | [.d (.sl 1 xs)] => some (xs = (xs.map numOf).map (iD .u8) ∧ Bytes (xs.map numOf), splitD (splitF (xs.map numOf)))
 | _ => none
end Go.Proofs.Ytgbialeahdoelaa.Eng

end

section
namespace Go.Proofs.Ytgbialeahdoelaa.Eng
open Go Go.Proofs.Ytgbialeahdoelaa.Base
set_option maxRecDepth 100000
set_option linter.unusedSimpArgs false
set_option linter.unusedVariables false
theorem wu8 {x : Int} (h0 : 0 ≤ x) (h1 : x < 256) : IntKind.u8.wrap x = x := by rw [IntKind.wrap_u8]; omega
theorem rblank_body (c : Int) : Body Try.prog Gam.none (DRun Try.prog Gam.none) 49 [.d (.v (.int .u8 c))] (vBool (blkB c)) := by
 refine Body.of Try.func49 Try.ntmps49 (by kernel_rfl) rfl rfl rfl ?_
 simp only [goTG_val, goTG_new, goTG_up, goTG_none, goG_none, goG_new, goG_up, ne_eq, evK, evH, retHF, DRun_mk, runT_nil, runT_none, runT_guard, goT_val, goT_new, goT_store, goTH_true, goTH_false, evO, keys, Option.toList_some, Option.toList_none, nzL_nil, nzL_cons, nz_k, nz_sl, nz_nil, nz_agg, startL, evC, evV, goE_val, goE_new, goE_store, goH_true, goH_false, goG_val, lk_cons, lk_nil, lk_func, lk_int, lk_bool, lk_string, lk_slice, lk_agg, look_mk, St.effOf, eff, effCall, effBinC, isConst, effBin, effUn, effConv, effPick, effNil, effFold, fold1, effLoad, effStore, effFieldAddr, effField, fieldOf, sliceOf, effIndexAddr, effIndex, effLen, effExtract, effSlice, dats, bnd, effBuild, placesOf, effBuildSlice, effMakeSlice, effAppend, srcOf, fillA, chunk, seg, toD, toDs, put, eqAV, fieldsEq, leafEq, strip, unw, allB, selP_or, selP_and, tis, TyD.agg, AV.cells, AV.cell, allCell, vInt, vBool, vStr, subL_nil, subL_cons, upIds, AV.ids, AV.ids.idsL, AObj.ids, drops, Hp.get_cons, get_nil, retF, resL, one, fz, fz.fzL, List.map_cons, List.map_nil, List.nil_append, List.append_nil, List.cons_append, List.all_cons, List.all_nil, List.length_cons, List.length_nil, List.getElem?_cons_zero, List.getElem?_cons_succ, List.getD_cons_zero, List.getD_cons_succ, List.take_succ_cons, List.take_zero, List.drop_succ_cons, List.drop_zero, List.take_nil, List.drop_nil, List.contains_cons, List.contains_nil, Option.getD_some, Option.getD_none, Option.map_some, Option.map_none, if_true, if_false, true_and, and_true, and_self, or_self, or_false, false_or, false_and, and_false, reduceCtorEq, sel_and, sel_or, decide_eq_true_eq, Bool.and_eq_true, Bool.or_eq_true, Bool.and_true, Bool.true_and, Bool.or_false, Bool.false_or, Bool.true_or, Bool.or_true, Bool.not_true, Bool.not_false, Bool.false_eq_true, implies_true, not_false_eq_true, Nat.reduceLT, Nat.reduceEqDiff, Nat.reduceAdd, Nat.reduceMul, Nat.reduceMod, Nat.reduceLeDiff, Nat.reduceBEq, Nat.zero_add, Nat.add_zero, reduceIte, ↓reduceIte, List.not_mem_nil]
 refine Sub.eq ?_
 congr 3
 rw [Bool.eq_iff_iff]
 unfold blkB
 rw [decide_eq_true_eq]
 repeat' split
 all_goals
  simp only [beq_iff_eq, decide_eq_true_eq, Bool.false_eq_true, true_iff, false_iff, Bool.or_eq_true, Bool.and_eq_true] at *
  try omega
theorem rblank_calm : ∀ args sc res, F_pr blkB args = some (sc, res) → sc → Calm Try.prog 49 args res := by
 intro args sc res h hs
 unfold F_pr at h
 split at h <;> cases h
 exact (Known.none _).calm mixed rfl rfl (rblank_body _)
def F_goes : List AV → Option (Prop × AV)
 | [.d (.sl 1 xs), .d (.v (.int .i64 a))] => some (xs = (xs.map numOf).map (iD .u8) ∧ Bytes (xs.map numOf) ∧ 0 ≤ a, vBool (Jlex.goes ((xs.map numOf).drop a.toNat)))
 | _ => none
theorem goes_body (l : List Int) (hb : Bytes l) (a : Nat) : Body Try.prog Gam.none (DRun Try.prog Gam.none) 50 [.d (bytesD l), vInt .i64 a] (vBool (Jlex.goes (l.drop a))) := by
 refine Body.of Try.func50 Try.ntmps50 (by kernel_rfl) rfl rfl rfl ?_
 simp only [bytesD, getD_iD, iD, num_iD, Int.toNat_natCast, List.length_map, Int.reduceLE, Int.reduceLT, Int.reduceGT, Int.reduceGE, Int.reduceBEq, Int.reduceBNe, Int.reduceEq, Int.reduceToNat, Int.reduceSub, Int.reduceAdd, Int.reduceMul, Int.reducePow, Int.reduceNeg, goTG_val, goTG_new, goTG_up, goTG_none, goG_none, goG_new, goG_up, ne_eq, evK, evH, retHF, DRun_mk, runT_nil, runT_none, runT_guard, goT_val, goT_new, goT_store, goTH_true, goTH_false, evO, keys, Option.toList_some, Option.toList_none, nzL_nil, nzL_cons, nz_k, nz_sl, nz_nil, nz_agg, startL, evC, evV, goE_val, goE_new, goE_store, goH_true, goH_false, goG_val, lk_cons, lk_nil, lk_func, lk_int, lk_bool, lk_string, lk_slice, lk_agg, look_mk, St.effOf, eff, effCall, effBinC, isConst, effBin, effUn, effConv, effPick, effNil, effFold, fold1, effLoad, effStore, effFieldAddr, effField, fieldOf, sliceOf, effIndexAddr, effIndex, effLen, effExtract, effSlice, dats, bnd, effBuild, placesOf, effBuildSlice, effMakeSlice, effAppend, srcOf, fillA, chunk, seg, toD, toDs, put, eqAV, fieldsEq, leafEq, strip, unw, allB, selP_or, selP_and, tis, TyD.agg, AV.cells, AV.cell, allCell, vInt, vBool, vStr, subL_nil, subL_cons, upIds, AV.ids, AV.ids.idsL, AObj.ids, drops, Hp.get_cons, get_nil, retF, resL, one, fz, fz.fzL, List.map_cons, List.map_nil, List.nil_append, List.append_nil, List.cons_append, List.all_cons, List.all_nil, List.length_cons, List.length_nil, List.getElem?_cons_zero, List.getElem?_cons_succ, List.getD_cons_zero, List.getD_cons_succ, List.take_succ_cons, List.take_zero, List.drop_succ_cons, List.drop_zero, List.take_nil, List.drop_nil, List.contains_cons, List.contains_nil, Option.getD_some, Option.getD_none, Option.map_some, Option.map_none, if_true, if_false, true_and, and_true, and_self, or_self, or_false, false_or, false_and, and_false, reduceCtorEq, sel_and, sel_or, decide_eq_true_eq, Bool.and_eq_true, Bool.or_eq_true, Bool.and_true, Bool.true_and, Bool.or_false, Bool.false_or, Bool.true_or, Bool.or_true, Bool.not_true, Bool.not_false, Bool.false_eq_true, implies_true, not_false_eq_true, Nat.reduceLT, Nat.reduceEqDiff, Nat.reduceAdd, Nat.reduceMul, Nat.reduceMod, Nat.reduceLeDiff, Nat.reduceBEq, Nat.zero_add, Nat.add_zero, reduceIte, ↓reduceIte, List.not_mem_nil]
 by_cases h1 : a < l.length
 ·obtain ⟨c, t, h⟩ : ∃ c t, l.drop a = c :: t := by
   rcases h : l.drop a with _ | ⟨c, t⟩
   ·have := List.drop_eq_nil_iff.1 h; omega
   ·exact ⟨c, t, rfl⟩
  have hc : l.getD a 0 = c := by
   have h2 : l[a]? = some c := by have := congrArg List.head? h; rwa [List.head?_drop] at this
   rw [List.getD_eq_getElem?_getD, h2]; rfl
  rw [if_neg (by omega)]
  simp only [hc, h]
  refine ⟨by omega, ?_⟩
  refine Sub.eq ?_
  congr 3
  rw [Bool.eq_iff_iff]
  unfold Jlex.goes Jlex.go
  rw [decide_eq_true_eq]
  repeat' split
  all_goals
   simp only [beq_iff_eq, decide_eq_true_eq, Bool.false_eq_true, true_iff, false_iff, Bool.or_eq_true, Bool.and_eq_true] at *
   try omega
 ·rw [if_pos (by omega), List.drop_eq_nil_of_le (by omega)]
  exact Sub.refl _
theorem goes_calm : ∀ args sc res, F_goes args = some (sc, res) → sc → Calm Try.prog 50 args res := by
 intro args sc res h hs
 unfold F_goes at h
 split at h <;> cases h
 rename_i xs a
 obtain ⟨h1, hb, h3⟩ := hs
 obtain ⟨k, rfl⟩ := Int.eq_ofNat_of_zero_le h3
 have hq := goes_body (xs.map numOf) hb k
 rw [bytesD, ← h1] at hq
 exact (Known.none _).calm mixed rfl rfl hq
theorem hexd_body (c : Int) (hc : 0 ≤ c ∧ c < 256) : Body Try.prog Gam.none (DRun Try.prog Gam.none) 59 [.d (.v (.int .u8 c))] (vInt .i64 (Jstr.hexv c)) := by
 refine Body.of Try.func59 Try.ntmps59 (by kernel_rfl) rfl rfl rfl ?_
 simp only [Int.reduceLE, Int.reduceLT, Int.reduceGT, Int.reduceGE, Int.reduceBEq, Int.reduceBNe, Int.reduceEq, Int.reduceToNat, Int.reduceSub, Int.reduceAdd, Int.reduceMul, Int.reducePow, Int.reduceNeg, goTG_val, goTG_new, goTG_up, goTG_none, goG_none, goG_new, goG_up, ne_eq, evK, evH, retHF, DRun_mk, runT_nil, runT_none, runT_guard, goT_val, goT_new, goT_store, goTH_true, goTH_false, evO, keys, Option.toList_some, Option.toList_none, nzL_nil, nzL_cons, nz_k, nz_sl, nz_nil, nz_agg, startL, evC, evV, goE_val, goE_new, goE_store, goH_true, goH_false, goG_val, lk_cons, lk_nil, lk_func, lk_int, lk_bool, lk_string, lk_slice, lk_agg, look_mk, St.effOf, eff, effCall, effBinC, isConst, effBin, effUn, effConv, effPick, effNil, effFold, fold1, effLoad, effStore, effFieldAddr, effField, fieldOf, sliceOf, effIndexAddr, effIndex, effLen, effExtract, effSlice, dats, bnd, effBuild, placesOf, effBuildSlice, effMakeSlice, effAppend, srcOf, fillA, chunk, seg, toD, toDs, put, eqAV, fieldsEq, leafEq, strip, unw, allB, selP_or, selP_and, tis, TyD.agg, AV.cells, AV.cell, allCell, vInt, vBool, vStr, subL_nil, subL_cons, upIds, AV.ids, AV.ids.idsL, AObj.ids, drops, Hp.get_cons, get_nil, retF, resL, one, fz, fz.fzL, List.map_cons, List.map_nil, List.nil_append, List.append_nil, List.cons_append, List.all_cons, List.all_nil, List.length_cons, List.length_nil, List.getElem?_cons_zero, List.getElem?_cons_succ, List.getD_cons_zero, List.getD_cons_succ, List.take_succ_cons, List.take_zero, List.drop_succ_cons, List.drop_zero, List.take_nil, List.drop_nil, List.contains_cons, List.contains_nil, Option.getD_some, Option.getD_none, Option.map_some, Option.map_none, if_true, if_false, true_and, and_true, and_self, or_self, or_false, false_or, false_and, and_false, reduceCtorEq, sel_and, sel_or, decide_eq_true_eq, Bool.and_eq_true, Bool.or_eq_true, Bool.and_true, Bool.true_and, Bool.or_false, Bool.false_or, Bool.true_or, Bool.or_true, Bool.not_true, Bool.not_false, Bool.false_eq_true, implies_true, not_false_eq_true, Nat.reduceLT, Nat.reduceEqDiff, Nat.reduceAdd, Nat.reduceMul, Nat.reduceMod, Nat.reduceLeDiff, Nat.reduceBEq, Nat.zero_add, Nat.add_zero, reduceIte, ↓reduceIte, List.not_mem_nil]
 unfold Jstr.hexv
 by_cases c1 : c ≥ 48 ∧ c ≤ 57
 ·rw [if_pos c1, if_pos (by omega), wu8 (by omega) (by omega), w64 (by omega) (by omega)]
 rw [if_neg c1, if_neg (show ¬ (48 ≤ c ∧ c ≤ 57) by omega)]
 by_cases c2 : c ≥ 97 ∧ c ≤ 102
 ·rw [if_pos c2, if_pos (by omega), wu8 (by omega) (by omega), w64 (n := c - 97) (by omega) (by omega), w64 (by omega) (by omega), show c - 97 + 10 = c - 87 by omega]
 rw [if_neg c2, if_neg (show ¬ (97 ≤ c ∧ c ≤ 102) by omega)]
 by_cases c3 : c ≥ 65 ∧ c ≤ 70
 ·rw [if_pos c3, if_pos (by omega), wu8 (by omega) (by omega), w64 (n := c - 65) (by omega) (by omega), w64 (by omega) (by omega), show c - 65 + 10 = c - 55 by omega]
 rw [if_neg c3, if_neg (show ¬ (65 ≤ c ∧ c ≤ 70) by omega)]
def F_hexd : List AV → Option (Prop × AV)
 | [.d (.v (.int .u8 c))] => some (0 ≤ c ∧ c < 256, vInt .i64 (Jstr.hexv c))
 | _ => none
theorem hexd_calm : ∀ args sc res, F_hexd args = some (sc, res) → sc → Calm Try.prog 59 args res := by
 intro args sc res h hs
 unfold F_hexd at h
 split at h <;> cases h
 exact (Known.none _).calm mixed rfl rfl (hexd_body _ hs)
def F_rrun : List AV → Option (Prop × AV)
 | [.d (.v (.string s)), .d (.v (.int .i64 a))] => some (s.size ≤ 1000000000 ∧ 0 ≤ a ∧ a ≤ s.size, vInt .i64 (runN digB (sB s) a.toNat))
 | _ => none
theorem rrun_body (s : ByteArray) (a : Nat) (hl : s.size ≤ 1000000000) (ha : a ≤ s.size) : Body Try.prog Gam.none (DRun Try.prog Gam.none) 71 [vStr s, vInt .i64 a] (vInt .i64 (runN digB (sB s) a)) := by
 refine Body.of Try.func71 Try.ntmps71 (by kernel_rfl) rfl rfl rfl ?_
 have hn := sB_len s
 simp only [bt_sB, Int.reduceLE, Int.reduceLT, Int.reduceGT, Int.reduceGE, Int.reduceBEq, Int.reduceBNe, Int.reduceEq, Int.reduceToNat, Int.reduceSub, Int.reduceAdd, Int.reduceMul, Int.reducePow, Int.reduceNeg, goTG_val, goTG_new, goTG_up, goTG_none, goG_none, goG_new, goG_up, ne_eq, evK, evH, retHF, DRun_mk, runT_nil, runT_none, runT_guard, goT_val, goT_new, goT_store, goTH_true, goTH_false, evO, keys, Option.toList_some, Option.toList_none, nzL_nil, nzL_cons, nz_k, nz_sl, nz_nil, nz_agg, startL, evC, evV, goE_val, goE_new, goE_store, goH_true, goH_false, goG_val, lk_cons, lk_nil, lk_func, lk_int, lk_bool, lk_string, lk_slice, lk_agg, look_mk, St.effOf, eff, effCall, effBinC, isConst, effBin, effUn, effConv, effPick, effNil, effFold, fold1, effLoad, effStore, effFieldAddr, effField, fieldOf, sliceOf, effIndexAddr, effIndex, effLen, effExtract, effSlice, dats, bnd, effBuild, placesOf, effBuildSlice, effMakeSlice, effAppend, srcOf, fillA, chunk, seg, toD, toDs, put, eqAV, fieldsEq, leafEq, strip, unw, allB, selP_or, selP_and, tis, TyD.agg, AV.cells, AV.cell, allCell, vInt, vBool, vStr, subL_nil, subL_cons, upIds, AV.ids, AV.ids.idsL, AObj.ids, drops, Hp.get_cons, get_nil, retF, resL, one, fz, fz.fzL, List.map_cons, List.map_nil, List.nil_append, List.append_nil, List.cons_append, List.all_cons, List.all_nil, List.length_cons, List.length_nil, List.getElem?_cons_zero, List.getElem?_cons_succ, List.getD_cons_zero, List.getD_cons_succ, List.take_succ_cons, List.take_zero, List.drop_succ_cons, List.drop_zero, List.take_nil, List.drop_nil, List.contains_cons, List.contains_nil, Option.getD_some, Option.getD_none, Option.map_some, Option.map_none, if_true, if_false, true_and, and_true, and_self, or_self, or_false, false_or, false_and, and_false, reduceCtorEq, sel_and, sel_or, decide_eq_true_eq, Bool.and_eq_true, Bool.or_eq_true, Bool.and_true, Bool.true_and, Bool.or_false, Bool.false_or, Bool.true_or, Bool.or_true, Bool.not_true, Bool.not_false, Bool.false_eq_true, implies_true, not_false_eq_true, Nat.reduceLT, Nat.reduceEqDiff, Nat.reduceAdd, Nat.reduceMul, Nat.reduceMod, Nat.reduceLeDiff, Nat.reduceBEq, Nat.zero_add, Nat.add_zero, reduceIte, ↓reduceIte, List.not_mem_nil]
 refine wpc_loop (fun k : Nat => ⟨24, [], [(0, vStr s), (1, vInt .i64 k)], []⟩) (fun k => k ≤ s.size ∧ runN digB (sB s) k = runN digB (sB s) a) (fun k => s.size - k) a ⟨ha, rfl⟩ ?_ ?_
 ·refine Le.of id [] ?_
  simp only [Mt_tup, Mt_agg, Mt_fn, forall_eq, forall_eq_or_imp, ne_eq, List.all_cons, List.all_nil, pr, Nat.reduceLeDiff, slR_nil, slR_cons, hpR_nil, hpR_cells, hpR_row, idsR_nil, idsR_cons, mtE_v, mtE_sl, mtE_nil, mtE_refl, mtE_row, mtE_born, mtE_ptr, mtE_rp, mtE_agg, mtE_tup, mtE_fn, mtE_ep, MtL_nil, MtL_cons, Mt_v, Mt_sl, Mt_nil, Mt_refl, Mt_row, Mt_born, Mt_ptr, MtO_cells, MtO_row, liveIds, distinct, Dat.v.injEq, Dat.sl.injEq, Value.int.injEq, Value.bool.injEq, Value.string.injEq, lk_cons, lk_nil, subL_nil, subL_cons, upIds, AV.ids, AV.ids.idsL, AObj.ids, Hp.get_cons, get_nil, allCell, AV.cell, vInt, vBool, vStr, id, true_and, and_true, and_self, List.append_nil, List.nil_append, List.not_mem_nil, List.mem_cons, or_false, false_or, or_self, not_true_eq_false, not_false_eq_true, false_imp_iff, false_implies, List.map_nil, not_false_eq_true, List.contains_cons, List.contains_nil, Bool.or_false, Bool.false_or, Bool.true_or, Bool.or_true, Bool.and_true, Bool.true_and, implies_true, if_true, if_false, reduceCtorEq, Nat.reduceEqDiff, Nat.reduceBEq, Nat.reduceAdd, reduceIte, ↓reduceIte]
  try exact ⟨rfl, rfl⟩
 ·rintro k ⟨hk, hr⟩
  simp only [bt_sB, Int.toNat_natCast, Int.reduceLE, Int.reduceLT, Int.reduceGT, Int.reduceGE, Int.reduceBEq, Int.reduceBNe, Int.reduceEq, Int.reduceToNat, Int.reduceSub, Int.reduceAdd, Int.reduceMul, Int.reducePow, Int.reduceNeg, goTG_val, goTG_new, goTG_up, goTG_none, goG_none, goG_new, goG_up, ne_eq, evK, evH, retHF, DRun_mk, runT_nil, runT_none, runT_guard, goT_val, goT_new, goT_store, goTH_true, goTH_false, evO, keys, Option.toList_some, Option.toList_none, nzL_nil, nzL_cons, nz_k, nz_sl, nz_nil, nz_agg, startL, evC, evV, goE_val, goE_new, goE_store, goH_true, goH_false, goG_val, lk_cons, lk_nil, lk_func, lk_int, lk_bool, lk_string, lk_slice, lk_agg, look_mk, St.effOf, eff, effCall, effBinC, isConst, effBin, effUn, effConv, effPick, effNil, effFold, fold1, effLoad, effStore, effFieldAddr, effField, fieldOf, sliceOf, effIndexAddr, effIndex, effLen, effExtract, effSlice, dats, bnd, effBuild, placesOf, effBuildSlice, effMakeSlice, effAppend, srcOf, fillA, chunk, seg, toD, toDs, put, eqAV, fieldsEq, leafEq, strip, unw, allB, selP_or, selP_and, tis, TyD.agg, AV.cells, AV.cell, allCell, vInt, vBool, vStr, subL_nil, subL_cons, upIds, AV.ids, AV.ids.idsL, AObj.ids, drops, Hp.get_cons, get_nil, retF, resL, one, fz, fz.fzL, List.map_cons, List.map_nil, List.nil_append, List.append_nil, List.cons_append, List.all_cons, List.all_nil, List.length_cons, List.length_nil, List.getElem?_cons_zero, List.getElem?_cons_succ, List.getD_cons_zero, List.getD_cons_succ, List.take_succ_cons, List.take_zero, List.drop_succ_cons, List.drop_zero, List.take_nil, List.drop_nil, List.contains_cons, List.contains_nil, Option.getD_some, Option.getD_none, Option.map_some, Option.map_none, if_true, if_false, true_and, and_true, and_self, or_self, or_false, false_or, false_and, and_false, reduceCtorEq, sel_and, sel_or, decide_eq_true_eq, Bool.and_eq_true, Bool.or_eq_true, Bool.and_true, Bool.true_and, Bool.or_false, Bool.false_or, Bool.true_or, Bool.or_true, Bool.not_true, Bool.not_false, Bool.false_eq_true, implies_true, not_false_eq_true, Nat.reduceLT, Nat.reduceEqDiff, Nat.reduceAdd, Nat.reduceMul, Nat.reduceMod, Nat.reduceLeDiff, Nat.reduceBEq, Nat.zero_add, Nat.add_zero, reduceIte, ↓reduceIte, List.not_mem_nil]
  refine ⟨fun h => by omega, fun h => by omega, ?_⟩
  by_cases c1 : ((k : Int) < (s.size : Int) ∧ (sB s).getD k 0 ≥ 48) ∧ (sB s).getD k 0 ≤ 57
  ·rw [if_pos c1]
   refine ⟨k + 1, by omega, ⟨by omega, ?_⟩, Le.of id [] ?_⟩
   ·rw [← hr, runN_step (l := sB s) (k := k) (by omega), if_pos (by unfold digB; rw [decide_eq_true_eq]; omega)]
   ·simp only [Mt_tup, Mt_agg, Mt_fn, forall_eq, forall_eq_or_imp, ne_eq, List.all_cons, List.all_nil, pr, Nat.reduceLeDiff, slR_nil, slR_cons, hpR_nil, hpR_cells, hpR_row, idsR_nil, idsR_cons, mtE_v, mtE_sl, mtE_nil, mtE_refl, mtE_row, mtE_born, mtE_ptr, mtE_rp, mtE_agg, mtE_tup, mtE_fn, mtE_ep, MtL_nil, MtL_cons, Mt_v, Mt_sl, Mt_nil, Mt_refl, Mt_row, Mt_born, Mt_ptr, MtO_cells, MtO_row, liveIds, distinct, Dat.v.injEq, Dat.sl.injEq, Value.int.injEq, Value.bool.injEq, Value.string.injEq, lk_cons, lk_nil, subL_nil, subL_cons, upIds, AV.ids, AV.ids.idsL, AObj.ids, Hp.get_cons, get_nil, allCell, AV.cell, vInt, vBool, vStr, id, true_and, and_true, and_self, List.append_nil, List.nil_append, List.not_mem_nil, List.mem_cons, or_false, false_or, or_self, not_true_eq_false, not_false_eq_true, false_imp_iff, false_implies, List.map_nil, not_false_eq_true, List.contains_cons, List.contains_nil, Bool.or_false, Bool.false_or, Bool.true_or, Bool.or_true, Bool.and_true, Bool.true_and, implies_true, if_true, if_false, reduceCtorEq, Nat.reduceEqDiff, Nat.reduceBEq, Nat.reduceAdd, reduceIte, ↓reduceIte]
    rw [w64 (by omega) (by omega)]; omega
  ·rw [if_neg c1, ← hr]
   by_cases h1 : k < s.size
   ·rw [runN_step (l := sB s) (k := k) (by omega), if_neg (by unfold digB; rw [decide_eq_true_eq]; omega)]
   ·rw [runN_end (by omega)]
theorem rrun_calm : ∀ args sc res, F_rrun args = some (sc, res) → sc → Calm Try.prog 71 args res := by
 intro args sc res h hs
 unfold F_rrun at h
 split at h <;> cases h
 rename_i s a
 obtain ⟨h1, h2, h3⟩ := hs
 obtain ⟨k, rfl⟩ := Int.eq_ofNat_of_zero_le h2
 exact (Known.none _).calm mixed rfl rfl (rrun_body s k h1 (by omega))
end Go.Proofs.Ytgbialeahdoelaa.Eng

end

section
namespace Go.Proofs.Ytgbialeahdoelaa.Eng
open Go Go.Proofs.Ytgbialeahdoelaa.Base
set_option maxRecDepth 100000
set_option linter.unusedSimpArgs false
set_option linter.unusedVariables false
def rn4 (l : List Int) (j : Nat) : Int := if ((runN digB l j : Int) == (j : Int)) = true then -1 else if Jlex.goes (l.drop (runN digB l j)) = true then -1 else runN digB l j
def rn3 (l : List Int) (k : Nat) : Int :=
 if (k : Int) < (l.length : Int) ∧ ((l.getD k 0 == 101) = true ∨ (l.getD k 0 == 69) = true) then
  (if ((k + 1 : Nat) : Int) < (l.length : Int) ∧ ((l.getD (k + 1) 0 == 43) = true ∨ (l.getD (k + 1) 0 == 45) = true) then rn4 l (k + 1 + 1) else rn4 l (k + 1))
 else if Jlex.goes (l.drop k) = true then -1 else k
def rn2 (l : List Int) (k : Nat) : Int :=
 if (k : Int) < (l.length : Int) ∧ (l.getD k 0 == 46) = true then (if ((runN digB l (k + 1) : Int) == ((k + 1 : Nat) : Int)) = true then -1 else rn3 l (runN digB l (k + 1))) else rn3 l k
def rn1 (l : List Int) (i : Nat) : Int :=
 if ((runN digB l i : Int) == (i : Int)) = true ∨ (l.getD i 0 == 48) = true ∧ (runN digB l i : Int) > ((i + 1 : Nat) : Int) then -1 else rn2 l (runN digB l i)
def rn0 (l : List Int) (a : Nat) : Int := if (a : Int) < (l.length : Int) ∧ (l.getD a 0 == 45) = true then rn1 l (a + 1) else rn1 l a
theorem getD_drop {l t : List Int} {a : Nat} {c : Int} (h : l.drop a = c :: t) : l.getD a 0 = c ∧ a < l.length := by
 have h2 : l[a]? = some c := by have := congrArg List.head? h; rwa [List.head?_drop] at this
 refine ⟨by rw [List.getD_eq_getElem?_getD, h2]; rfl, (List.getElem?_eq_some_iff.1 h2).1⟩
theorem rn4_eq (l : List Int) (b : Nat) : rn4 l b = ansN b (Jlex.nE3 (l.drop b)) := by
 unfold rn4 Jlex.nE3
 rw [runN_dl, ← List.drop_drop]
 by_cases c : Jlex.dl (l.drop b) = 0
 ·rw [if_pos (by rw [beq_iff_eq]; omega), if_pos c]; rfl
 ·rw [if_neg (by rw [beq_iff_eq]; omega), if_neg c]
  split
  ·rfl
  ·rfl
theorem rn3_eq (l : List Int) (a : Nat) : rn3 l a = ansN a (Jlex.nE2 (l.drop a)) := by
 unfold rn3
 rcases h : l.drop a with _ | ⟨c, t⟩
 ·have := List.drop_eq_nil_iff.1 h
  rw [if_neg (by omega)]; rfl
 ·obtain ⟨hc, hl⟩ := getD_drop h
  rw [hc]
  simp only [beq_iff_eq]
  unfold Jlex.nE2
  by_cases c1 : c = 101 ∨ c = 69
  ·rw [if_pos ⟨by omega, c1⟩]
   simp only [if_pos c1]
   have h1 := drop_tail h
   rcases t with _ | ⟨s, t⟩
   ·have := List.drop_eq_nil_iff.1 h1
    rw [if_neg (by omega), rn4_eq, h1]; rfl
   ·obtain ⟨hs, hl2⟩ := getD_drop h1
    rw [hs]
    by_cases c2 : s = 43 ∨ s = 45
    ·rw [if_pos ⟨by omega, c2⟩]
     simp only [if_pos c2]
     rw [rn4_eq, drop_tail h1, ansN_map]
    ·rw [if_neg (fun h => c2 h.2)]
     simp only [if_neg c2]
     rw [rn4_eq, h1, ansN_map]
  ·rw [if_neg (fun h => c1 h.2)]
   simp only [if_neg c1]
   show (if Jlex.go c = true then (-1 : Int) else (a : Int)) = _
   split
   ·rfl
   ·rfl
theorem rn2_eq (l : List Int) (a : Nat) : rn2 l a = ansN a (Jlex.nE1 (l.drop a)) := by
 unfold rn2
 rcases h : l.drop a with _ | ⟨c, t⟩
 ·have := List.drop_eq_nil_iff.1 h
  rw [if_neg (by omega), rn3_eq, h]; rfl
 ·obtain ⟨hc, hl⟩ := getD_drop h
  rw [hc]
  simp only [beq_iff_eq]
  unfold Jlex.nE1
  by_cases c1 : c = 46
  ·rw [if_pos ⟨by omega, c1⟩]
   simp only [if_pos c1]
   have h1 := drop_tail h
   rw [runN_dl, h1]
   by_cases c2 : Jlex.dl t = 0
   ·rw [if_pos (by omega), if_pos c2]; rfl
   ·rw [if_neg (by omega), if_neg c2, rn3_eq, ansN_map, ← List.drop_drop, h1]
    congr 1; omega
  ·rw [if_neg (fun h => c1 h.2)]
   simp only [if_neg c1]
   rw [rn3_eq, h]
theorem nE1_dig {c : Int} {t : List Int} (h : Jlex.dig c = true) : Jlex.nE1 (c :: t) = none := by
 unfold Jlex.dig at h
 simp only [decide_eq_true_eq] at h
 show (if c = 46 then _ else Jlex.nE2 (c :: t)) = none
 rw [if_neg (by omega)]
 show (if c = 101 ∨ c = 69 then _ else if Jlex.go c = true then none else some 0) = none
 rw [if_neg (by omega), if_pos (by unfold Jlex.go; rw [decide_eq_true_eq]; omega)]
theorem rn1_eq (l : List Int) (a : Nat) : rn1 l a = ansN a (Jlex.nE0 (l.drop a)) := by
 unfold rn1
 rw [runN_dl]
 rcases h : l.drop a with _ | ⟨c, t⟩
 ·rw [if_pos (.inl (by rw [beq_iff_eq]; rfl))]; rfl
 ·obtain ⟨hc, hl⟩ := getD_drop h
  rw [hc]
  simp only [beq_iff_eq]
  unfold Jlex.nE0
  have hd : Jlex.dl (c :: t) = if Jlex.dig c = true then Jlex.dl t + 1 else 0 := by
   unfold Jlex.dl
   rw [List.takeWhile_cons]
   split <;> simp
  by_cases c1 : c = 48
  ·simp only [if_pos c1]
   have h48 : Jlex.dig c = true := by rw [c1]; decide
   rw [if_pos h48] at hd
   rw [hd]
   by_cases c2 : Jlex.dl t = 0
   ·rw [if_neg (by omega), rn2_eq, c2, Nat.zero_add, drop_tail h, ansN_map]
   ·rw [if_pos (.inr ⟨c1, by omega⟩)]
    rcases t with _ | ⟨d, t⟩
    ·exact absurd rfl c2
    ·have : Jlex.dig d = true := by
      cases hdg : Jlex.dig d with
      | true => rfl
      | false =>
       exfalso; apply c2
       unfold Jlex.dl
       rw [List.takeWhile_cons_of_neg (by rw [hdg]; exact Bool.false_ne_true)]; rfl
     rw [nE1_dig this]; rfl
  ·simp only [if_neg c1]
   by_cases c2 : Jlex.dl (c :: t) = 0
   ·rw [if_pos (.inl (by omega)), if_pos c2]; rfl
   ·rw [if_neg (by omega), if_neg c2, rn2_eq, ansN_map, ← List.drop_drop, h]
theorem rn0_eq (l : List Int) (a : Nat) : rn0 l a = ansN a (Jlex.numLen (l.drop a)) := by
 unfold rn0
 rcases h : l.drop a with _ | ⟨c, t⟩
 ·have := List.drop_eq_nil_iff.1 h
  rw [if_neg (by omega), rn1_eq, h]; rfl
 ·obtain ⟨hc, hl⟩ := getD_drop h
  rw [hc]
  simp only [beq_iff_eq]
  unfold Jlex.numLen
  by_cases c1 : c = 45
  ·rw [if_pos ⟨by omega, c1⟩]
   simp only [if_pos c1]
   rw [rn1_eq, drop_tail h, ansN_map]
  ·rw [if_neg (fun h => c1 h.2)]
   simp only [if_neg c1]
   rw [rn1_eq, h]
noncomputable def G_rnb : Gam := ((Gam.none.add 71 fun a => F_rrun (NT.nz.nzL [] a)).add 50 fun a => F_goes (NT.nz.nzL [.s 1] a))
theorem known_G_rnb : Known Try.prog G_rnb := ((Known.none _).addC _ rrun_calm).addC _ goes_calm
theorem G_rnb_at : (∀ h d a, G_rnb 71 h d a = calmE (fun a => F_rrun (NT.nz.nzL [] a)) h a) ∧ (∀ h d a, G_rnb 50 h d a = calmE (fun a => F_goes (NT.nz.nzL [.s 1] a)) h a) := ⟨fun _ _ _ => rfl, fun _ _ _ => rfl⟩
theorem rnb_body (l : List Int) (hb : Bytes l) (a : Nat) (hl : l.length ≤ 100000000) (ha : a ≤ l.length) : Body Try.prog G_rnb (DRun Try.prog G_rnb) 52 [.d (bytesD l), vInt .i64 a] (vInt .i64 (ansN a (Jlex.numLen (l.drop a)))) := by
 refine Body.of Try.func52 Try.ntmps52 (by kernel_rfl) rfl rfl rfl ?_
 have nz1 : ∀ xs, (NT.s 1).nz (.d (.sl 1 xs)) = .d (.sl 1 xs) := fun xs => rfl
 simp only [bytesD, getD_iD, iD, num_iD, nz1, bt_sB, byteOf_num, sB_str hb, str_size, G_rnb_at, calmE, F_rrun, F_goes, Int.toNat_natCast, AV.flat, AV.flat.flatL, List.length_map, Int.reduceLE, Int.reduceLT, Int.reduceGT, Int.reduceGE, Int.reduceBEq, Int.reduceBNe, Int.reduceEq, Int.reduceToNat, Int.reduceSub, Int.reduceAdd, Int.reduceMul, Int.reducePow, Int.reduceNeg, goTG_val, goTG_new, goTG_up, goTG_none, goG_none, goG_new, goG_up, ne_eq, evK, evH, retHF, DRun_mk, runT_nil, runT_none, runT_guard, goT_val, goT_new, goT_store, goTH_true, goTH_false, evO, keys, Option.toList_some, Option.toList_none, nzL_nil, nzL_cons, nz_k, nz_sl, nz_nil, nz_agg, startL, evC, evV, goE_val, goE_new, goE_store, goH_true, goH_false, goG_val, lk_cons, lk_nil, lk_func, lk_int, lk_bool, lk_string, lk_slice, lk_agg, look_mk, St.effOf, eff, effCall, effBinC, isConst, effBin, effUn, effConv, effPick, effNil, effFold, fold1, effLoad, effStore, effFieldAddr, effField, fieldOf, sliceOf, effIndexAddr, effIndex, effLen, effExtract, effSlice, dats, bnd, effBuild, placesOf, effBuildSlice, effMakeSlice, effAppend, srcOf, fillA, chunk, seg, toD, toDs, put, eqAV, fieldsEq, leafEq, strip, unw, allB, selP_or, selP_and, tis, TyD.agg, AV.cells, AV.cell, allCell, vInt, vBool, vStr, subL_nil, subL_cons, upIds, AV.ids, AV.ids.idsL, AObj.ids, drops, Hp.get_cons, get_nil, retF, resL, one, fz, fz.fzL, List.map_cons, List.map_nil, List.nil_append, List.append_nil, List.cons_append, List.all_cons, List.all_nil, List.length_cons, List.length_nil, List.getElem?_cons_zero, List.getElem?_cons_succ, List.getD_cons_zero, List.getD_cons_succ, List.take_succ_cons, List.take_zero, List.drop_succ_cons, List.drop_zero, List.take_nil, List.drop_nil, List.contains_cons, List.contains_nil, Option.getD_some, Option.getD_none, Option.map_some, Option.map_none, if_true, if_false, true_and, and_true, and_self, or_self, or_false, false_or, false_and, and_false, reduceCtorEq, sel_and, sel_or, decide_eq_true_eq, Bool.and_eq_true, Bool.or_eq_true, Bool.and_true, Bool.true_and, Bool.or_false, Bool.false_or, Bool.true_or, Bool.or_true, Bool.not_true, Bool.not_false, Bool.false_eq_true, implies_true, not_false_eq_true, Nat.reduceLT, Nat.reduceEqDiff, Nat.reduceAdd, Nat.reduceMul, Nat.reduceMod, Nat.reduceLeDiff, Nat.reduceBEq, Nat.zero_add, Nat.add_zero, reduceIte, ↓reduceIte, List.not_mem_nil]
 have wn : ∀ k : Nat, k ≤ 1000000000 → IntKind.i64.wrap ((k : Int) + 1) = ((k + 1 : Nat) : Int) := fun k hk => by rw [w64 (by omega) (by omega)]; omega
 refine ⟨byteOf_all l, fun h => ⟨by omega, h⟩, ?_⟩
 rw [← rn0_eq]
 unfold rn0
 by_cases m : ((a : Nat) : Int) < (l.length : Int) ∧ (l.getD a 0 == 45) = true
 ·rw [if_pos m, if_pos m]
  simp only [wn (a) (by omega), Int.toNat_natCast]
  simp only [wn (a + 1) (by omega), Int.toNat_natCast]
  have r2 := runN_le (p := digB) (l := l) (a := a + 1) (by omega)
  refine ⟨⟨by omega, by omega, by omega⟩, fun h => ?_, ?_⟩
  ·simp only [Bool.not_eq_true', beq_eq_false_iff_ne, ne_eq] at h; omega
  unfold rn1
  by_cases z1 : (((runN digB l (a + 1) : Nat) : Int) == ((a + 1 : Nat) : Int)) = true ∨ (l.getD (a + 1) 0 == 48) = true ∧ ((runN digB l (a + 1) : Nat) : Int) > ((a + 1 + 1 : Nat) : Int)
  ·rw [if_pos z1, if_pos z1]
  ·rw [if_neg z1, if_neg z1]
   refine ⟨by first | omega | (intro h; omega) | (refine ⟨hb, ?_⟩; omega) | exact ⟨by omega, by omega, by omega⟩, ?_⟩
   unfold rn2
   by_cases d3 : ((runN digB l (a + 1) : Nat) : Int) < (l.length : Int) ∧ (l.getD (runN digB l (a + 1)) 0 == 46) = true
   ·rw [if_pos d3, if_pos d3]
    simp only [wn (runN digB l (a + 1)) (by omega), Int.toNat_natCast]
    have r5 := runN_le (p := digB) (l := l) (a := runN digB l (a + 1) + 1) (by omega)
    refine ⟨by first | omega | (intro h; omega) | (refine ⟨hb, ?_⟩; omega) | exact ⟨by omega, by omega, by omega⟩, ?_⟩
    by_cases q4 : (((runN digB l (runN digB l (a + 1) + 1) : Nat) : Int) == ((runN digB l (a + 1) + 1 : Nat) : Int)) = true
    ·rw [if_pos q4, if_pos q4]
    ·rw [if_neg q4, if_neg q4]
     refine ⟨by first | omega | (intro h; omega) | (refine ⟨hb, ?_⟩; omega) | exact ⟨by omega, by omega, by omega⟩, ?_⟩
     refine ⟨by first | omega | (intro h; omega) | (refine ⟨hb, ?_⟩; omega) | exact ⟨by omega, by omega, by omega⟩, ?_⟩
     unfold rn3
     by_cases e6 : ((runN digB l (runN digB l (a + 1) + 1) : Nat) : Int) < (l.length : Int) ∧ ((l.getD (runN digB l (runN digB l (a + 1) + 1)) 0 == 101) = true ∨ (l.getD (runN digB l (runN digB l (a + 1) + 1)) 0 == 69) = true)
     ·rw [if_pos e6, if_pos e6]
      simp only [wn (runN digB l (runN digB l (a + 1) + 1)) (by omega), Int.toNat_natCast]
      refine ⟨by first | omega | (intro h; omega) | (refine ⟨hb, ?_⟩; omega) | exact ⟨by omega, by omega, by omega⟩, ?_⟩
      refine ⟨by first | omega | (intro h; omega) | (refine ⟨hb, ?_⟩; omega) | exact ⟨by omega, by omega, by omega⟩, ?_⟩
      by_cases s7 : ((runN digB l (runN digB l (a + 1) + 1) + 1 : Nat) : Int) < (l.length : Int) ∧ ((l.getD (runN digB l (runN digB l (a + 1) + 1) + 1) 0 == 43) = true ∨ (l.getD (runN digB l (runN digB l (a + 1) + 1) + 1) 0 == 45) = true)
      ·rw [if_pos s7, if_pos s7]
       simp only [wn (runN digB l (runN digB l (a + 1) + 1) + 1) (by omega), Int.toNat_natCast]
       have r8 := runN_le (p := digB) (l := l) (a := runN digB l (runN digB l (a + 1) + 1) + 1 + 1) (by omega)
       refine ⟨by first | omega | (intro h; omega) | (refine ⟨hb, ?_⟩; omega) | exact ⟨by omega, by omega, by omega⟩, ?_⟩
       unfold rn4
       by_cases c9 : (((runN digB l (runN digB l (runN digB l (a + 1) + 1) + 1 + 1) : Nat) : Int) == ((runN digB l (runN digB l (a + 1) + 1) + 1 + 1 : Nat) : Int)) = true
       ·rw [if_pos c9, if_pos c9]
       ·rw [if_neg c9, if_neg c9]
        refine ⟨by first | omega | (intro h; omega) | (refine ⟨hb, ?_⟩; omega) | exact ⟨by omega, by omega, by omega⟩, ?_⟩
        by_cases g10 : Jlex.goes (l.drop (runN digB l (runN digB l (runN digB l (a + 1) + 1) + 1 + 1))) = true
        ·rw [if_pos g10, if_pos g10]
        ·rw [if_neg g10, if_neg g10]
      ·rw [if_neg s7, if_neg s7]
       have r11 := runN_le (p := digB) (l := l) (a := runN digB l (runN digB l (a + 1) + 1) + 1) (by omega)
       refine ⟨by first | omega | (intro h; omega) | (refine ⟨hb, ?_⟩; omega) | exact ⟨by omega, by omega, by omega⟩, ?_⟩
       unfold rn4
       by_cases c12 : (((runN digB l (runN digB l (runN digB l (a + 1) + 1) + 1) : Nat) : Int) == ((runN digB l (runN digB l (a + 1) + 1) + 1 : Nat) : Int)) = true
       ·rw [if_pos c12, if_pos c12]
       ·rw [if_neg c12, if_neg c12]
        refine ⟨by first | omega | (intro h; omega) | (refine ⟨hb, ?_⟩; omega) | exact ⟨by omega, by omega, by omega⟩, ?_⟩
        by_cases g13 : Jlex.goes (l.drop (runN digB l (runN digB l (runN digB l (a + 1) + 1) + 1))) = true
        ·rw [if_pos g13, if_pos g13]
        ·rw [if_neg g13, if_neg g13]
     ·rw [if_neg e6, if_neg e6]
      refine ⟨by first | omega | (intro h; omega) | (refine ⟨hb, ?_⟩; omega) | exact ⟨by omega, by omega, by omega⟩, ?_⟩
      by_cases g14 : Jlex.goes (l.drop (runN digB l (runN digB l (a + 1) + 1))) = true
      ·rw [if_pos g14, if_pos g14]
      ·rw [if_neg g14, if_neg g14]
   ·rw [if_neg d3, if_neg d3]
    refine ⟨by first | omega | (intro h; omega) | (refine ⟨hb, ?_⟩; omega) | exact ⟨by omega, by omega, by omega⟩, ?_⟩
    refine ⟨by first | omega | (intro h; omega) | (refine ⟨hb, ?_⟩; omega) | exact ⟨by omega, by omega, by omega⟩, ?_⟩
    unfold rn3
    by_cases e15 : ((runN digB l (a + 1) : Nat) : Int) < (l.length : Int) ∧ ((l.getD (runN digB l (a + 1)) 0 == 101) = true ∨ (l.getD (runN digB l (a + 1)) 0 == 69) = true)
    ·rw [if_pos e15, if_pos e15]
     simp only [wn (runN digB l (a + 1)) (by omega), Int.toNat_natCast]
     refine ⟨by first | omega | (intro h; omega) | (refine ⟨hb, ?_⟩; omega) | exact ⟨by omega, by omega, by omega⟩, ?_⟩
     refine ⟨by first | omega | (intro h; omega) | (refine ⟨hb, ?_⟩; omega) | exact ⟨by omega, by omega, by omega⟩, ?_⟩
     by_cases s16 : ((runN digB l (a + 1) + 1 : Nat) : Int) < (l.length : Int) ∧ ((l.getD (runN digB l (a + 1) + 1) 0 == 43) = true ∨ (l.getD (runN digB l (a + 1) + 1) 0 == 45) = true)
     ·rw [if_pos s16, if_pos s16]
      simp only [wn (runN digB l (a + 1) + 1) (by omega), Int.toNat_natCast]
      have r17 := runN_le (p := digB) (l := l) (a := runN digB l (a + 1) + 1 + 1) (by omega)
      refine ⟨by first | omega | (intro h; omega) | (refine ⟨hb, ?_⟩; omega) | exact ⟨by omega, by omega, by omega⟩, ?_⟩
      unfold rn4
      by_cases c18 : (((runN digB l (runN digB l (a + 1) + 1 + 1) : Nat) : Int) == ((runN digB l (a + 1) + 1 + 1 : Nat) : Int)) = true
      ·rw [if_pos c18, if_pos c18]
      ·rw [if_neg c18, if_neg c18]
       refine ⟨by first | omega | (intro h; omega) | (refine ⟨hb, ?_⟩; omega) | exact ⟨by omega, by omega, by omega⟩, ?_⟩
       by_cases g19 : Jlex.goes (l.drop (runN digB l (runN digB l (a + 1) + 1 + 1))) = true
       ·rw [if_pos g19, if_pos g19]
       ·rw [if_neg g19, if_neg g19]
     ·rw [if_neg s16, if_neg s16]
      have r20 := runN_le (p := digB) (l := l) (a := runN digB l (a + 1) + 1) (by omega)
      refine ⟨by first | omega | (intro h; omega) | (refine ⟨hb, ?_⟩; omega) | exact ⟨by omega, by omega, by omega⟩, ?_⟩
      unfold rn4
      by_cases c21 : (((runN digB l (runN digB l (a + 1) + 1) : Nat) : Int) == ((runN digB l (a + 1) + 1 : Nat) : Int)) = true
      ·rw [if_pos c21, if_pos c21]
      ·rw [if_neg c21, if_neg c21]
       refine ⟨by first | omega | (intro h; omega) | (refine ⟨hb, ?_⟩; omega) | exact ⟨by omega, by omega, by omega⟩, ?_⟩
       by_cases g22 : Jlex.goes (l.drop (runN digB l (runN digB l (a + 1) + 1))) = true
       ·rw [if_pos g22, if_pos g22]
       ·rw [if_neg g22, if_neg g22]
    ·rw [if_neg e15, if_neg e15]
     refine ⟨by first | omega | (intro h; omega) | (refine ⟨hb, ?_⟩; omega) | exact ⟨by omega, by omega, by omega⟩, ?_⟩
     by_cases g23 : Jlex.goes (l.drop (runN digB l (a + 1))) = true
     ·rw [if_pos g23, if_pos g23]
     ·rw [if_neg g23, if_neg g23]
 ·rw [if_neg m, if_neg m]
  simp only [wn (a) (by omega), Int.toNat_natCast]
  have r25 := runN_le (p := digB) (l := l) (a := a) (by omega)
  refine ⟨⟨by omega, by omega, by omega⟩, fun h => ?_, ?_⟩
  ·simp only [Bool.not_eq_true', beq_eq_false_iff_ne, ne_eq] at h; omega
  unfold rn1
  by_cases z24 : (((runN digB l (a) : Nat) : Int) == ((a : Nat) : Int)) = true ∨ (l.getD (a) 0 == 48) = true ∧ ((runN digB l (a) : Nat) : Int) > ((a + 1 : Nat) : Int)
  ·rw [if_pos z24, if_pos z24]
  ·rw [if_neg z24, if_neg z24]
   refine ⟨by first | omega | (intro h; omega) | (refine ⟨hb, ?_⟩; omega) | exact ⟨by omega, by omega, by omega⟩, ?_⟩
   unfold rn2
   by_cases d26 : ((runN digB l (a) : Nat) : Int) < (l.length : Int) ∧ (l.getD (runN digB l (a)) 0 == 46) = true
   ·rw [if_pos d26, if_pos d26]
    simp only [wn (runN digB l (a)) (by omega), Int.toNat_natCast]
    have r28 := runN_le (p := digB) (l := l) (a := runN digB l (a) + 1) (by omega)
    refine ⟨by first | omega | (intro h; omega) | (refine ⟨hb, ?_⟩; omega) | exact ⟨by omega, by omega, by omega⟩, ?_⟩
    by_cases q27 : (((runN digB l (runN digB l (a) + 1) : Nat) : Int) == ((runN digB l (a) + 1 : Nat) : Int)) = true
    ·rw [if_pos q27, if_pos q27]
    ·rw [if_neg q27, if_neg q27]
     refine ⟨by first | omega | (intro h; omega) | (refine ⟨hb, ?_⟩; omega) | exact ⟨by omega, by omega, by omega⟩, ?_⟩
     refine ⟨by first | omega | (intro h; omega) | (refine ⟨hb, ?_⟩; omega) | exact ⟨by omega, by omega, by omega⟩, ?_⟩
     unfold rn3
     by_cases e29 : ((runN digB l (runN digB l (a) + 1) : Nat) : Int) < (l.length : Int) ∧ ((l.getD (runN digB l (runN digB l (a) + 1)) 0 == 101) = true ∨ (l.getD (runN digB l (runN digB l (a) + 1)) 0 == 69) = true)
     ·rw [if_pos e29, if_pos e29]
      simp only [wn (runN digB l (runN digB l (a) + 1)) (by omega), Int.toNat_natCast]
      refine ⟨by first | omega | (intro h; omega) | (refine ⟨hb, ?_⟩; omega) | exact ⟨by omega, by omega, by omega⟩, ?_⟩
      refine ⟨by first | omega | (intro h; omega) | (refine ⟨hb, ?_⟩; omega) | exact ⟨by omega, by omega, by omega⟩, ?_⟩
      by_cases s30 : ((runN digB l (runN digB l (a) + 1) + 1 : Nat) : Int) < (l.length : Int) ∧ ((l.getD (runN digB l (runN digB l (a) + 1) + 1) 0 == 43) = true ∨ (l.getD (runN digB l (runN digB l (a) + 1) + 1) 0 == 45) = true)
      ·rw [if_pos s30, if_pos s30]
       simp only [wn (runN digB l (runN digB l (a) + 1) + 1) (by omega), Int.toNat_natCast]
       have r31 := runN_le (p := digB) (l := l) (a := runN digB l (runN digB l (a) + 1) + 1 + 1) (by omega)
       refine ⟨by first | omega | (intro h; omega) | (refine ⟨hb, ?_⟩; omega) | exact ⟨by omega, by omega, by omega⟩, ?_⟩
       unfold rn4
       by_cases c32 : (((runN digB l (runN digB l (runN digB l (a) + 1) + 1 + 1) : Nat) : Int) == ((runN digB l (runN digB l (a) + 1) + 1 + 1 : Nat) : Int)) = true
       ·rw [if_pos c32, if_pos c32]
       ·rw [if_neg c32, if_neg c32]
        refine ⟨by first | omega | (intro h; omega) | (refine ⟨hb, ?_⟩; omega) | exact ⟨by omega, by omega, by omega⟩, ?_⟩
        by_cases g33 : Jlex.goes (l.drop (runN digB l (runN digB l (runN digB l (a) + 1) + 1 + 1))) = true
        ·rw [if_pos g33, if_pos g33]
        ·rw [if_neg g33, if_neg g33]
      ·rw [if_neg s30, if_neg s30]
       have r34 := runN_le (p := digB) (l := l) (a := runN digB l (runN digB l (a) + 1) + 1) (by omega)
       refine ⟨by first | omega | (intro h; omega) | (refine ⟨hb, ?_⟩; omega) | exact ⟨by omega, by omega, by omega⟩, ?_⟩
       unfold rn4
       by_cases c35 : (((runN digB l (runN digB l (runN digB l (a) + 1) + 1) : Nat) : Int) == ((runN digB l (runN digB l (a) + 1) + 1 : Nat) : Int)) = true
       ·rw [if_pos c35, if_pos c35]
       ·rw [if_neg c35, if_neg c35]
        refine ⟨by first | omega | (intro h; omega) | (refine ⟨hb, ?_⟩; omega) | exact ⟨by omega, by omega, by omega⟩, ?_⟩
        by_cases g36 : Jlex.goes (l.drop (runN digB l (runN digB l (runN digB l (a) + 1) + 1))) = true
        ·rw [if_pos g36, if_pos g36]
        ·rw [if_neg g36, if_neg g36]
     ·rw [if_neg e29, if_neg e29]
      refine ⟨by first | omega | (intro h; omega) | (refine ⟨hb, ?_⟩; omega) | exact ⟨by omega, by omega, by omega⟩, ?_⟩
      by_cases g37 : Jlex.goes (l.drop (runN digB l (runN digB l (a) + 1))) = true
      ·rw [if_pos g37, if_pos g37]
      ·rw [if_neg g37, if_neg g37]
   ·rw [if_neg d26, if_neg d26]
    refine ⟨by first | omega | (intro h; omega) | (refine ⟨hb, ?_⟩; omega) | exact ⟨by omega, by omega, by omega⟩, ?_⟩
    refine ⟨by first | omega | (intro h; omega) | (refine ⟨hb, ?_⟩; omega) | exact ⟨by omega, by omega, by omega⟩, ?_⟩
    unfold rn3
    by_cases e38 : ((runN digB l (a) : Nat) : Int) < (l.length : Int) ∧ ((l.getD (runN digB l (a)) 0 == 101) = true ∨ (l.getD (runN digB l (a)) 0 == 69) = true)
    ·rw [if_pos e38, if_pos e38]
     simp only [wn (runN digB l (a)) (by omega), Int.toNat_natCast]
     refine ⟨by first | omega | (intro h; omega) | (refine ⟨hb, ?_⟩; omega) | exact ⟨by omega, by omega, by omega⟩, ?_⟩
     refine ⟨by first | omega | (intro h; omega) | (refine ⟨hb, ?_⟩; omega) | exact ⟨by omega, by omega, by omega⟩, ?_⟩
     by_cases s39 : ((runN digB l (a) + 1 : Nat) : Int) < (l.length : Int) ∧ ((l.getD (runN digB l (a) + 1) 0 == 43) = true ∨ (l.getD (runN digB l (a) + 1) 0 == 45) = true)
     ·rw [if_pos s39, if_pos s39]
      simp only [wn (runN digB l (a) + 1) (by omega), Int.toNat_natCast]
      have r40 := runN_le (p := digB) (l := l) (a := runN digB l (a) + 1 + 1) (by omega)
      refine ⟨by first | omega | (intro h; omega) | (refine ⟨hb, ?_⟩; omega) | exact ⟨by omega, by omega, by omega⟩, ?_⟩
      unfold rn4
      by_cases c41 : (((runN digB l (runN digB l (a) + 1 + 1) : Nat) : Int) == ((runN digB l (a) + 1 + 1 : Nat) : Int)) = true
      ·rw [if_pos c41, if_pos c41]
      ·rw [if_neg c41, if_neg c41]
       refine ⟨by first | omega | (intro h; omega) | (refine ⟨hb, ?_⟩; omega) | exact ⟨by omega, by omega, by omega⟩, ?_⟩
       by_cases g42 : Jlex.goes (l.drop (runN digB l (runN digB l (a) + 1 + 1))) = true
       ·rw [if_pos g42, if_pos g42]
       ·rw [if_neg g42, if_neg g42]
     ·rw [if_neg s39, if_neg s39]
      have r43 := runN_le (p := digB) (l := l) (a := runN digB l (a) + 1) (by omega)
      refine ⟨by first | omega | (intro h; omega) | (refine ⟨hb, ?_⟩; omega) | exact ⟨by omega, by omega, by omega⟩, ?_⟩
      unfold rn4
      by_cases c44 : (((runN digB l (runN digB l (a) + 1) : Nat) : Int) == ((runN digB l (a) + 1 : Nat) : Int)) = true
      ·rw [if_pos c44, if_pos c44]
      ·rw [if_neg c44, if_neg c44]
       refine ⟨by first | omega | (intro h; omega) | (refine ⟨hb, ?_⟩; omega) | exact ⟨by omega, by omega, by omega⟩, ?_⟩
       by_cases g45 : Jlex.goes (l.drop (runN digB l (runN digB l (a) + 1))) = true
       ·rw [if_pos g45, if_pos g45]
       ·rw [if_neg g45, if_neg g45]
    ·rw [if_neg e38, if_neg e38]
     refine ⟨by first | omega | (intro h; omega) | (refine ⟨hb, ?_⟩; omega) | exact ⟨by omega, by omega, by omega⟩, ?_⟩
     by_cases g46 : Jlex.goes (l.drop (runN digB l (a))) = true
     ·rw [if_pos g46, if_pos g46]
     ·rw [if_neg g46, if_neg g46]
def F_rnb : List AV → Option (Prop × AV)
 | [.d (.sl 1 xs), .d (.v (.int .i64 a))] => some (xs = (xs.map numOf).map (iD .u8) ∧ Bytes (xs.map numOf) ∧ xs.length ≤ 100000000 ∧ 0 ≤ a ∧ a ≤ xs.length, vInt .i64 (ansN a.toNat (Jlex.numLen ((xs.map numOf).drop a.toNat))))
 | _ => none
theorem rnb_calm : ∀ args sc res, F_rnb args = some (sc, res) → sc → Calm Try.prog 52 args res := by
 intro args sc res h hs
 unfold F_rnb at h
 split at h <;> cases h
 rename_i xs a
 obtain ⟨h1, hb, h2, h3, h4⟩ := hs
 obtain ⟨k, rfl⟩ := Int.eq_ofNat_of_zero_le h3
 have hq := rnb_body (xs.map numOf) hb k (by simpa using h2) (by simpa using h4)
 rw [bytesD, ← h1] at hq
 exact known_G_rnb.calm mixed rfl rfl hq
end Go.Proofs.Ytgbialeahdoelaa.Eng

end

section
namespace Go.Proofs.Ytgbialeahdoelaa.Eng
open Go Go.Proofs.Ytgbialeahdoelaa.Base
set_option maxRecDepth 100000
set_option linter.unusedSimpArgs false
set_option linter.unusedVariables false
theorem hex4_all {l : List Int} (hb : Bytes l) (m : Nat) : hex4B (l.drop m) = true ↔ ∀ j, j < 4 → m + j < l.length ∧ 0 ≤ Jstr.hexv (l.getD (m + j) 0) := by
 have hbd : Bytes (l.drop m) := fun x hx => hb x (List.mem_of_mem_drop hx)
 have hg : ∀ j, l.getD (m + j) 0 = (l.drop m).getD j 0 := fun j => by rw [List.getD_eq_getElem?_getD, List.getD_eq_getElem?_getD, List.getElem?_drop]
 have hl : (l.drop m).length = l.length - m := List.length_drop
 simp only [hg]
 rw [hex4B_iff hbd]
 constructor
 ·intro h j hj
  have h4 := Jlex.hex4_len h
  refine ⟨by omega, ?_⟩
  generalize l.drop m = u at h
  rcases u with _ | ⟨p, _ | ⟨q, _ | ⟨r, _ | ⟨s, t⟩⟩⟩⟩
  ·exact h.elim
  ·exact h.elim
  ·exact h.elim
  ·exact h.elim
  ·obtain ⟨h1, h2, h3, h4⟩ := h
   obtain rfl | rfl | rfl | rfl : j = 0 ∨ j = 1 ∨ j = 2 ∨ j = 3 := by omega
   ·exact h1
   ·exact h2
   ·exact h3
   ·exact h4
 ·intro h
  have h0 := h 0 (by omega)
  have h1 := h 1 (by omega)
  have h2 := h 2 (by omega)
  have h3 := h 3 (by omega)
  have h4 : 4 ≤ (l.drop m).length := by omega
  generalize l.drop m = u at h0 h1 h2 h3 h4
  rcases u with _ | ⟨p, _ | ⟨q, _ | ⟨r, _ | ⟨s, t⟩⟩⟩⟩
  ·simp at h4
  ·simp at h4
  ·simp at h4
  ·simp at h4
  ·exact ⟨h0.2, h1.2, h2.2, h3.2⟩
def escL : List Int := [34, 92, 47, 98, 102, 110, 114, 116]
def escP (j : Nat) (d : Int) : Bool := (escL.take j).contains d
theorem escP_step {j : Nat} (hj : j < 8) (d : Int) : escP (j + 1) d = (escP j d || d == escL.getD j 0) := by
 unfold escP
 have : escL[j]? = some (escL.getD j 0) := by
  obtain rfl | rfl | rfl | rfl | rfl | rfl | rfl | rfl : j = 0 ∨ j = 1 ∨ j = 2 ∨ j = 3 ∨ j = 4 ∨ j = 5 ∨ j = 6 ∨ j = 7 := by omega
  all_goals rfl
 rw [List.take_add_one, this, Option.toList_some, Bool.eq_iff_iff]
 simp only [List.contains_eq_mem, List.mem_append, List.mem_singleton, Bool.or_eq_true, decide_eq_true_eq, beq_iff_eq]
theorem escP_all (d : Int) : escP 8 d = decide (Jstr.esc d) := by
 rw [Bool.eq_iff_iff, decide_eq_true_eq]
 unfold escP escL Jstr.esc
 simp
def ansT (l : List Int) (k : Nat) : Int := ansN k (Jlex.textLen (l.drop k))
noncomputable def G_rtx : Gam := (Gam.none.add 59 fun a => F_hexd (NT.nz.nzL [] a))
theorem known_G_rtx : Known Try.prog G_rtx := (Known.none _).addC _ hexd_calm
theorem G_rtx_at : (∀ h d a, G_rtx 59 h d a = calmE (fun a => F_hexd (NT.nz.nzL [] a)) h a) := fun _ _ _ => rfl
theorem rtx_body (l : List Int) (hb : Bytes l) (a : Nat) (hl : l.length ≤ 100000000) (ha : a < l.length) : Body Try.prog G_rtx (DRun Try.prog G_rtx) 51 [.d (bytesD l), vInt .i64 a] (vInt .i64 (ansN (a + 1) (Jlex.textLen (l.drop (a + 1))))) := by
 refine Body.of Try.func51 Try.ntmps51 (by kernel_rfl) rfl rfl rfl ?_
 have nz1 : ∀ xs, (NT.s 1).nz (.d (.sl 1 xs)) = .d (.sl 1 xs) := fun xs => rfl
 have wn : ∀ k j : Nat, k ≤ 1000000000 → j ≤ 100 → IntKind.i64.wrap ((k : Int) + (j : Int)) = ((k + j : Nat) : Int) := fun k j hk hj => by rw [w64 (by omega) (by omega)]; omega
 simp only [bytesD, num_iD, G_rtx_at, calmE, F_hexd, Int.toNat_natCast, AV.flat, AV.flat.flatL, List.length_map, Int.reduceLE, Int.reduceLT, Int.reduceGT, Int.reduceGE, Int.reduceBEq, Int.reduceBNe, Int.reduceEq, Int.reduceToNat, Int.reduceSub, Int.reduceAdd, Int.reduceMul, Int.reducePow, Int.reduceNeg, goTG_val, goTG_new, goTG_up, goTG_none, goG_none, goG_new, goG_up, ne_eq, evK, evH, retHF, DRun_mk, runT_nil, runT_none, runT_guard, goT_val, goT_new, goT_store, goTH_true, goTH_false, evO, keys, Option.toList_some, Option.toList_none, nzL_nil, nzL_cons, nz_k, nz_sl, nz_nil, nz_agg, startL, evC, evV, goE_val, goE_new, goE_store, goH_true, goH_false, goG_val, lk_cons, lk_nil, lk_func, lk_int, lk_bool, lk_string, lk_slice, lk_agg, look_mk, St.effOf, eff, effCall, effBinC, isConst, effBin, effUn, effConv, effPick, effNil, effFold, fold1, effLoad, effStore, effFieldAddr, effField, fieldOf, sliceOf, effIndexAddr, effIndex, effLen, effExtract, effSlice, dats, bnd, effBuild, placesOf, effBuildSlice, effMakeSlice, effAppend, srcOf, fillA, chunk, seg, toD, toDs, put, eqAV, fieldsEq, leafEq, strip, unw, allB, selP_or, selP_and, tis, TyD.agg, AV.cells, AV.cell, allCell, vInt, vBool, vStr, subL_nil, subL_cons, upIds, AV.ids, AV.ids.idsL, AObj.ids, drops, Hp.get_cons, get_nil, retF, resL, one, fz, fz.fzL, List.map_cons, List.map_nil, List.nil_append, List.append_nil, List.cons_append, List.all_cons, List.all_nil, List.length_cons, List.length_nil, List.getElem?_cons_zero, List.getElem?_cons_succ, List.getD_cons_zero, List.getD_cons_succ, List.take_succ_cons, List.take_zero, List.drop_succ_cons, List.drop_zero, List.take_nil, List.drop_nil, List.contains_cons, List.contains_nil, Option.getD_some, Option.getD_none, Option.map_some, Option.map_none, if_true, if_false, true_and, and_true, and_self, or_self, or_false, false_or, false_and, and_false, reduceCtorEq, sel_and, sel_or, decide_eq_true_eq, Bool.and_eq_true, Bool.or_eq_true, Bool.and_true, Bool.true_and, Bool.or_false, Bool.false_or, Bool.true_or, Bool.or_true, Bool.not_true, Bool.not_false, Bool.false_eq_true, implies_true, not_false_eq_true, Nat.reduceLT, Nat.reduceEqDiff, Nat.reduceAdd, Nat.reduceMul, Nat.reduceMod, Nat.reduceLeDiff, Nat.reduceBEq, Nat.zero_add, Nat.add_zero, reduceIte, ↓reduceIte, List.not_mem_nil]
 refine wpc_loop (fun k : Nat => ⟨103, [], [(0, .d (bytesD l)), (5, vInt .i64 k)], []⟩) (fun k => k ≤ l.length ∧ ansT l k = ansN (a + 1) (Jlex.textLen (l.drop (a + 1)))) (fun k => l.length - k) (a + 1) ⟨ha, rfl⟩ ?_ ?_
 ·refine Le.of id [] ?_
  simp only [bytesD, Mt_tup, Mt_agg, Mt_fn, forall_eq, forall_eq_or_imp, ne_eq, List.all_cons, List.all_nil, pr, Nat.reduceLeDiff, slR_nil, slR_cons, hpR_nil, hpR_cells, hpR_row, idsR_nil, idsR_cons, mtE_v, mtE_sl, mtE_nil, mtE_refl, mtE_row, mtE_born, mtE_ptr, mtE_rp, mtE_agg, mtE_tup, mtE_fn, mtE_ep, MtL_nil, MtL_cons, Mt_v, Mt_sl, Mt_nil, Mt_refl, Mt_row, Mt_born, Mt_ptr, MtO_cells, MtO_row, liveIds, distinct, Dat.v.injEq, Dat.sl.injEq, Value.int.injEq, Value.bool.injEq, Value.string.injEq, lk_cons, lk_nil, subL_nil, subL_cons, upIds, AV.ids, AV.ids.idsL, AObj.ids, Hp.get_cons, get_nil, allCell, AV.cell, vInt, vBool, vStr, id, true_and, and_true, and_self, List.append_nil, List.nil_append, List.not_mem_nil, List.mem_cons, or_false, false_or, or_self, not_true_eq_false, not_false_eq_true, false_imp_iff, false_implies, List.map_nil, not_false_eq_true, List.contains_cons, List.contains_nil, Bool.or_false, Bool.false_or, Bool.true_or, Bool.or_true, Bool.and_true, Bool.true_and, implies_true, if_true, if_false, reduceCtorEq, Nat.reduceEqDiff, Nat.reduceBEq, Nat.reduceAdd, reduceIte, ↓reduceIte]
  rw [w64 (by omega) (by omega)]; omega
 ·rintro k ⟨hk, hr⟩
  simp only [bytesD, getD_iD, iD, num_iD, nz1, G_rtx_at, calmE, F_hexd, Int.toNat_natCast, AV.flat, AV.flat.flatL, List.length_map, Int.reduceLE, Int.reduceLT, Int.reduceGT, Int.reduceGE, Int.reduceBEq, Int.reduceBNe, Int.reduceEq, Int.reduceToNat, Int.reduceSub, Int.reduceAdd, Int.reduceMul, Int.reducePow, Int.reduceNeg, goTG_val, goTG_new, goTG_up, goTG_none, goG_none, goG_new, goG_up, ne_eq, evK, evH, retHF, DRun_mk, runT_nil, runT_none, runT_guard, goT_val, goT_new, goT_store, goTH_true, goTH_false, evO, keys, Option.toList_some, Option.toList_none, nzL_nil, nzL_cons, nz_k, nz_sl, nz_nil, nz_agg, startL, evC, evV, goE_val, goE_new, goE_store, goH_true, goH_false, goG_val, lk_cons, lk_nil, lk_func, lk_int, lk_bool, lk_string, lk_slice, lk_agg, look_mk, St.effOf, eff, effCall, effBinC, isConst, effBin, effUn, effConv, effPick, effNil, effFold, fold1, effLoad, effStore, effFieldAddr, effField, fieldOf, sliceOf, effIndexAddr, effIndex, effLen, effExtract, effSlice, dats, bnd, effBuild, placesOf, effBuildSlice, effMakeSlice, effAppend, srcOf, fillA, chunk, seg, toD, toDs, put, eqAV, fieldsEq, leafEq, strip, unw, allB, selP_or, selP_and, tis, TyD.agg, AV.cells, AV.cell, allCell, vInt, vBool, vStr, subL_nil, subL_cons, upIds, AV.ids, AV.ids.idsL, AObj.ids, drops, Hp.get_cons, get_nil, retF, resL, one, fz, fz.fzL, List.map_cons, List.map_nil, List.nil_append, List.append_nil, List.cons_append, List.all_cons, List.all_nil, List.length_cons, List.length_nil, List.getElem?_cons_zero, List.getElem?_cons_succ, List.getD_cons_zero, List.getD_cons_succ, List.take_succ_cons, List.take_zero, List.drop_succ_cons, List.drop_zero, List.take_nil, List.drop_nil, List.contains_cons, List.contains_nil, Option.getD_some, Option.getD_none, Option.map_some, Option.map_none, if_true, if_false, true_and, and_true, and_self, or_self, or_false, false_or, false_and, and_false, reduceCtorEq, sel_and, sel_or, decide_eq_true_eq, Bool.and_eq_true, Bool.or_eq_true, Bool.and_true, Bool.true_and, Bool.or_false, Bool.false_or, Bool.true_or, Bool.or_true, Bool.not_true, Bool.not_false, Bool.false_eq_true, implies_true, not_false_eq_true, Nat.reduceLT, Nat.reduceEqDiff, Nat.reduceAdd, Nat.reduceMul, Nat.reduceMod, Nat.reduceLeDiff, Nat.reduceBEq, Nat.zero_add, Nat.add_zero, reduceIte, ↓reduceIte, List.not_mem_nil]
  by_cases h1 : k < l.length
  ·rw [if_pos (by omega)]
   refine ⟨by omega, ?_⟩
   obtain ⟨c, t, h⟩ : ∃ c t, l.drop k = c :: t := by
    rcases h : l.drop k with _ | ⟨c, t⟩
    ·have := List.drop_eq_nil_iff.1 h; omega
    ·exact ⟨c, t, rfl⟩
   have hc := (getD_drop h).1
   have hbt : Bytes t := fun x hx => hb x ((List.drop_sublist k l).subset (by rw [h]; exact List.mem_cons_of_mem _ hx))
   have hlt := congrArg List.length h
   rw [List.length_drop, List.length_cons] at hlt
   unfold ansT at hr
   rw [h, textLen_step hbt] at hr
   rw [hc]
   simp only [beq_iff_eq, bne_iff_ne, ne_eq]
   by_cases c1 : c = 34
   ·rw [if_pos c1]
    rw [if_pos c1] at hr
    rw [← hr, w64 (by omega) (by omega)]
    exact Sub.refl _
   rw [if_neg c1]
   rw [if_neg c1] at hr
   refine ⟨by omega, ?_⟩
   by_cases c2 : c < 32
   ·rw [if_pos c2]
    rw [if_pos c2] at hr
    rw [← hr]
    exact Sub.refl _
   rw [if_neg c2]
   rw [if_neg c2] at hr
   refine ⟨by omega, ?_⟩
   by_cases c3 : c = 92
   ·rw [if_neg (fun h => h c3)]
    rw [if_pos c3] at hr
    have e1 : IntKind.i64.wrap ((k : Int) + 1) = ((k + 1 : Nat) : Int) := wn k 1 (by omega) (by omega)
    have e2 : IntKind.i64.wrap ((k : Int) + 2) = ((k + 2 : Nat) : Int) := wn k 2 (by omega) (by omega)
    have e6 : IntKind.i64.wrap ((k : Int) + 6) = ((k + 6 : Nat) : Int) := wn k 6 (by omega) (by omega)
    simp only [e1, e2, Int.toNat_natCast]
    refine ⟨fun h => by omega, ?_⟩
    have ht1 := drop_tail h
    by_cases c4 : ((k + 1 : Nat) : Int) < (l.length : Int) ∧ l.getD (k + 1) 0 = 117
    ·rw [if_pos c4]
     obtain ⟨d, t, rfl⟩ : ∃ d t', t = d :: t' := by
      rcases t with _ | ⟨d, t⟩
      ·simp only [List.length_nil] at hlt; omega
      ·exact ⟨d, t, rfl⟩
     have hd := (getD_drop ht1).1
     have hd117 : d = 117 := hd.symm.trans c4.2
     have ht2 : l.drop (k + 2) = t := drop_tail ht1
     have hesc : escN (d :: t) = if hex4B t = true then some 6 else none := by
      rw [escN_cons, hd117, if_neg (by decide)]
      by_cases q : hex4B t = true
      ·rw [if_pos ⟨rfl, q⟩, if_pos q]
      ·rw [if_neg (fun h => q h.2), if_neg q]
     have hall := hex4_all hb (k + 2)
     rw [ht2] at hall
     rw [hesc] at hr
     refine wpc_loop (fun j : Nat => ⟨103, [], [(0, .d (bytesD l)), (5, vInt .i64 k), (6, vInt .i64 ((k + 2 + j : Nat) : Int))], []⟩) (fun j => j ≤ 4 ∧ ∀ i, i < j → k + 2 + i < l.length ∧ 0 ≤ Jstr.hexv (l.getD (k + 2 + i) 0)) (fun j => 4 - j) 0 ⟨by omega, fun i hi => by omega⟩ ?_ ?_
     ·refine Le.of id [] ?_
      simp only [bytesD, Mt_tup, Mt_agg, Mt_fn, forall_eq, forall_eq_or_imp, ne_eq, List.all_cons, List.all_nil, pr, Nat.reduceLeDiff, slR_nil, slR_cons, hpR_nil, hpR_cells, hpR_row, idsR_nil, idsR_cons, mtE_v, mtE_sl, mtE_nil, mtE_refl, mtE_row, mtE_born, mtE_ptr, mtE_rp, mtE_agg, mtE_tup, mtE_fn, mtE_ep, MtL_nil, MtL_cons, Mt_v, Mt_sl, Mt_nil, Mt_refl, Mt_row, Mt_born, Mt_ptr, MtO_cells, MtO_row, liveIds, distinct, Dat.v.injEq, Dat.sl.injEq, Value.int.injEq, Value.bool.injEq, Value.string.injEq, lk_cons, lk_nil, subL_nil, subL_cons, upIds, AV.ids, AV.ids.idsL, AObj.ids, Hp.get_cons, get_nil, allCell, AV.cell, vInt, vBool, vStr, id, true_and, and_true, and_self, List.append_nil, List.nil_append, List.not_mem_nil, List.mem_cons, or_false, false_or, or_self, not_true_eq_false, not_false_eq_true, false_imp_iff, false_implies, List.map_nil, not_false_eq_true, List.contains_cons, List.contains_nil, Bool.or_false, Bool.false_or, Bool.true_or, Bool.or_true, Bool.and_true, Bool.true_and, implies_true, if_true, if_false, reduceCtorEq, Nat.reduceEqDiff, Nat.reduceBEq, Nat.reduceAdd, reduceIte, ↓reduceIte]
     ·rintro j ⟨hj, hj2⟩
      have f1 : IntKind.i64.wrap (((k + 2 + j : Nat) : Int) + 1) = ((k + 2 + j + 1 : Nat) : Int) := wn (k + 2 + j) 1 (by omega) (by omega)
      simp only [bytesD, getD_iD, iD, num_iD, nz1, e6, f1, G_rtx_at, calmE, F_hexd, Int.toNat_natCast, AV.flat, AV.flat.flatL, List.length_map, Int.reduceLE, Int.reduceLT, Int.reduceGT, Int.reduceGE, Int.reduceBEq, Int.reduceBNe, Int.reduceEq, Int.reduceToNat, Int.reduceSub, Int.reduceAdd, Int.reduceMul, Int.reducePow, Int.reduceNeg, goTG_val, goTG_new, goTG_up, goTG_none, goG_none, goG_new, goG_up, ne_eq, evK, evH, retHF, DRun_mk, runT_nil, runT_none, runT_guard, goT_val, goT_new, goT_store, goTH_true, goTH_false, evO, keys, Option.toList_some, Option.toList_none, nzL_nil, nzL_cons, nz_k, nz_sl, nz_nil, nz_agg, startL, evC, evV, goE_val, goE_new, goE_store, goH_true, goH_false, goG_val, lk_cons, lk_nil, lk_func, lk_int, lk_bool, lk_string, lk_slice, lk_agg, look_mk, St.effOf, eff, effCall, effBinC, isConst, effBin, effUn, effConv, effPick, effNil, effFold, fold1, effLoad, effStore, effFieldAddr, effField, fieldOf, sliceOf, effIndexAddr, effIndex, effLen, effExtract, effSlice, dats, bnd, effBuild, placesOf, effBuildSlice, effMakeSlice, effAppend, srcOf, fillA, chunk, seg, toD, toDs, put, eqAV, fieldsEq, leafEq, strip, unw, allB, selP_or, selP_and, tis, TyD.agg, AV.cells, AV.cell, allCell, vInt, vBool, vStr, subL_nil, subL_cons, upIds, AV.ids, AV.ids.idsL, AObj.ids, drops, Hp.get_cons, get_nil, retF, resL, one, fz, fz.fzL, List.map_cons, List.map_nil, List.nil_append, List.append_nil, List.cons_append, List.all_cons, List.all_nil, List.length_cons, List.length_nil, List.getElem?_cons_zero, List.getElem?_cons_succ, List.getD_cons_zero, List.getD_cons_succ, List.take_succ_cons, List.take_zero, List.drop_succ_cons, List.drop_zero, List.take_nil, List.drop_nil, List.contains_cons, List.contains_nil, Option.getD_some, Option.getD_none, Option.map_some, Option.map_none, if_true, if_false, true_and, and_true, and_self, or_self, or_false, false_or, false_and, and_false, reduceCtorEq, sel_and, sel_or, decide_eq_true_eq, Bool.and_eq_true, Bool.or_eq_true, Bool.and_true, Bool.true_and, Bool.or_false, Bool.false_or, Bool.true_or, Bool.or_true, Bool.not_true, Bool.not_false, Bool.false_eq_true, implies_true, not_false_eq_true, Nat.reduceLT, Nat.reduceEqDiff, Nat.reduceAdd, Nat.reduceMul, Nat.reduceMod, Nat.reduceLeDiff, Nat.reduceBEq, Nat.zero_add, Nat.add_zero, reduceIte, ↓reduceIte, List.not_mem_nil]
      by_cases q : j < 4
      ·rw [if_pos (by omega)]
       have hby : k + 2 + j < l.length → 0 ≤ l.getD (k + 2 + j) 0 ∧ l.getD (k + 2 + j) 0 < 256 := fun q => by
        rw [List.getD_eq_getElem?_getD, List.getElem?_eq_getElem q]
        exact hb _ (List.getElem_mem q)
       refine ⟨fun h => ?_, fun h => ?_, ?_⟩
       ·simp only [Bool.not_eq_true', decide_eq_false_iff_not] at h; omega
       ·simp only [Bool.not_eq_true', decide_eq_false_iff_not] at h; exact hby (by omega)
       by_cases q2 : ((k + 2 + j : Nat) : Int) ≥ (l.length : Int) ∨ Jstr.hexv (l.getD (k + 2 + j) 0) < 0
       ·rw [if_pos q2]
        rw [if_neg (fun hq => by have := (hall.1 hq) j q; omega)] at hr
        rw [← hr]
        exact Sub.refl _
       ·rw [if_neg q2]
        refine ⟨j + 1, by omega, ⟨by omega, fun i hi => ?_⟩, Le.of id [] ?_⟩
        ·by_cases q3 : i = j
         ·subst q3; omega
         ·exact hj2 i (by omega)
        ·simp only [bytesD, Mt_tup, Mt_agg, Mt_fn, forall_eq, forall_eq_or_imp, ne_eq, List.all_cons, List.all_nil, pr, Nat.reduceLeDiff, slR_nil, slR_cons, hpR_nil, hpR_cells, hpR_row, idsR_nil, idsR_cons, mtE_v, mtE_sl, mtE_nil, mtE_refl, mtE_row, mtE_born, mtE_ptr, mtE_rp, mtE_agg, mtE_tup, mtE_fn, mtE_ep, MtL_nil, MtL_cons, Mt_v, Mt_sl, Mt_nil, Mt_refl, Mt_row, Mt_born, Mt_ptr, MtO_cells, MtO_row, liveIds, distinct, Dat.v.injEq, Dat.sl.injEq, Value.int.injEq, Value.bool.injEq, Value.string.injEq, lk_cons, lk_nil, subL_nil, subL_cons, upIds, AV.ids, AV.ids.idsL, AObj.ids, Hp.get_cons, get_nil, allCell, AV.cell, vInt, vBool, vStr, id, true_and, and_true, and_self, List.append_nil, List.nil_append, List.not_mem_nil, List.mem_cons, or_false, false_or, or_self, not_true_eq_false, not_false_eq_true, false_imp_iff, false_implies, List.map_nil, not_false_eq_true, List.contains_cons, List.contains_nil, Bool.or_false, Bool.false_or, Bool.true_or, Bool.or_true, Bool.and_true, Bool.true_and, implies_true, if_true, if_false, reduceCtorEq, Nat.reduceEqDiff, Nat.reduceBEq, Nat.reduceAdd, reduceIte, ↓reduceIte]
         rfl
      ·rw [if_neg (by omega)]
       have hq : hex4B t = true := hall.2 (fun i hi => hj2 i (by omega))
       have := hj2 3 (by omega)
       rw [if_pos hq] at hr
       simp only [ansN_map] at hr
       refine ⟨k + 6, by omega, ⟨by omega, ?_⟩, Le.of id [] ?_⟩
       ·unfold ansT; rw [← hr, ← h, List.drop_drop]
       ·simp only [bytesD, Mt_tup, Mt_agg, Mt_fn, forall_eq, forall_eq_or_imp, ne_eq, List.all_cons, List.all_nil, pr, Nat.reduceLeDiff, slR_nil, slR_cons, hpR_nil, hpR_cells, hpR_row, idsR_nil, idsR_cons, mtE_v, mtE_sl, mtE_nil, mtE_refl, mtE_row, mtE_born, mtE_ptr, mtE_rp, mtE_agg, mtE_tup, mtE_fn, mtE_ep, MtL_nil, MtL_cons, Mt_v, Mt_sl, Mt_nil, Mt_refl, Mt_row, Mt_born, Mt_ptr, MtO_cells, MtO_row, liveIds, distinct, Dat.v.injEq, Dat.sl.injEq, Value.int.injEq, Value.bool.injEq, Value.string.injEq, lk_cons, lk_nil, subL_nil, subL_cons, upIds, AV.ids, AV.ids.idsL, AObj.ids, Hp.get_cons, get_nil, allCell, AV.cell, vInt, vBool, vStr, id, true_and, and_true, and_self, List.append_nil, List.nil_append, List.not_mem_nil, List.mem_cons, or_false, false_or, or_self, not_true_eq_false, not_false_eq_true, false_imp_iff, false_implies, List.map_nil, not_false_eq_true, List.contains_cons, List.contains_nil, Bool.or_false, Bool.false_or, Bool.true_or, Bool.or_true, Bool.and_true, Bool.true_and, implies_true, if_true, if_false, reduceCtorEq, Nat.reduceEqDiff, Nat.reduceBEq, Nat.reduceAdd, reduceIte, ↓reduceIte]
    ·rw [if_neg c4]
     refine wpc_loop (fun j : Nat => ⟨103, [], [(0, .d (bytesD l)), (5, vInt .i64 k), (7, vBool (decide (k + 1 < l.length) && escP j (l.getD (k + 1) 0))), (8, vStr ⟨#[34, 92, 47, 98, 102, 110, 114, 116]⟩), (9, vInt .i64 j)], []⟩) (fun j => j ≤ 8) (fun j => 8 - j) 0 (by omega) ?_ ?_
     ·refine Le.of id [] ?_
      simp only [bytesD, Mt_tup, Mt_agg, Mt_fn, forall_eq, forall_eq_or_imp, ne_eq, List.all_cons, List.all_nil, pr, Nat.reduceLeDiff, slR_nil, slR_cons, hpR_nil, hpR_cells, hpR_row, idsR_nil, idsR_cons, mtE_v, mtE_sl, mtE_nil, mtE_refl, mtE_row, mtE_born, mtE_ptr, mtE_rp, mtE_agg, mtE_tup, mtE_fn, mtE_ep, MtL_nil, MtL_cons, Mt_v, Mt_sl, Mt_nil, Mt_refl, Mt_row, Mt_born, Mt_ptr, MtO_cells, MtO_row, liveIds, distinct, Dat.v.injEq, Dat.sl.injEq, Value.int.injEq, Value.bool.injEq, Value.string.injEq, lk_cons, lk_nil, subL_nil, subL_cons, upIds, AV.ids, AV.ids.idsL, AObj.ids, Hp.get_cons, get_nil, allCell, AV.cell, vInt, vBool, vStr, id, true_and, and_true, and_self, List.append_nil, List.nil_append, List.not_mem_nil, List.mem_cons, or_false, false_or, or_self, not_true_eq_false, not_false_eq_true, false_imp_iff, false_implies, List.map_nil, not_false_eq_true, List.contains_cons, List.contains_nil, Bool.or_false, Bool.false_or, Bool.true_or, Bool.or_true, Bool.and_true, Bool.true_and, implies_true, if_true, if_false, reduceCtorEq, Nat.reduceEqDiff, Nat.reduceBEq, Nat.reduceAdd, reduceIte, ↓reduceIte]
      have e0 : escP 0 (l.getD (k + 1) 0) = false := rfl
      rw [e0, Bool.and_false]
      exact ⟨rfl, rfl⟩
     ·intro j hj
      have hS : sB ⟨#[34, 92, 47, 98, 102, 110, 114, 116]⟩ = escL := rfl
      have hZ : ((ByteArray.size ⟨#[34, 92, 47, 98, 102, 110, 114, 116]⟩ : Nat) : Int) = 8 := rfl
      have f1 : IntKind.i64.wrap ((j : Int) + 1) = ((j + 1 : Nat) : Int) := wn j 1 (by omega) (by omega)
      simp only [bytesD, getD_iD, iD, num_iD, nz1, bt_sB, hS, hZ, e1, e2, f1, G_rtx_at, calmE, F_hexd, Int.toNat_natCast, AV.flat, AV.flat.flatL, List.length_map, Int.reduceLE, Int.reduceLT, Int.reduceGT, Int.reduceGE, Int.reduceBEq, Int.reduceBNe, Int.reduceEq, Int.reduceToNat, Int.reduceSub, Int.reduceAdd, Int.reduceMul, Int.reducePow, Int.reduceNeg, goTG_val, goTG_new, goTG_up, goTG_none, goG_none, goG_new, goG_up, ne_eq, evK, evH, retHF, DRun_mk, runT_nil, runT_none, runT_guard, goT_val, goT_new, goT_store, goTH_true, goTH_false, evO, keys, Option.toList_some, Option.toList_none, nzL_nil, nzL_cons, nz_k, nz_sl, nz_nil, nz_agg, startL, evC, evV, goE_val, goE_new, goE_store, goH_true, goH_false, goG_val, lk_cons, lk_nil, lk_func, lk_int, lk_bool, lk_string, lk_slice, lk_agg, look_mk, St.effOf, eff, effCall, effBinC, isConst, effBin, effUn, effConv, effPick, effNil, effFold, fold1, effLoad, effStore, effFieldAddr, effField, fieldOf, sliceOf, effIndexAddr, effIndex, effLen, effExtract, effSlice, dats, bnd, effBuild, placesOf, effBuildSlice, effMakeSlice, effAppend, srcOf, fillA, chunk, seg, toD, toDs, put, eqAV, fieldsEq, leafEq, strip, unw, allB, selP_or, selP_and, tis, TyD.agg, AV.cells, AV.cell, allCell, vInt, vBool, vStr, subL_nil, subL_cons, upIds, AV.ids, AV.ids.idsL, AObj.ids, drops, Hp.get_cons, get_nil, retF, resL, one, fz, fz.fzL, List.map_cons, List.map_nil, List.nil_append, List.append_nil, List.cons_append, List.all_cons, List.all_nil, List.length_cons, List.length_nil, List.getElem?_cons_zero, List.getElem?_cons_succ, List.getD_cons_zero, List.getD_cons_succ, List.take_succ_cons, List.take_zero, List.drop_succ_cons, List.drop_zero, List.take_nil, List.drop_nil, List.contains_cons, List.contains_nil, Option.getD_some, Option.getD_none, Option.map_some, Option.map_none, if_true, if_false, true_and, and_true, and_self, or_self, or_false, false_or, false_and, and_false, reduceCtorEq, sel_and, sel_or, decide_eq_true_eq, Bool.and_eq_true, Bool.or_eq_true, Bool.and_true, Bool.true_and, Bool.or_false, Bool.false_or, Bool.true_or, Bool.or_true, Bool.not_true, Bool.not_false, Bool.false_eq_true, implies_true, not_false_eq_true, Nat.reduceLT, Nat.reduceEqDiff, Nat.reduceAdd, Nat.reduceMul, Nat.reduceMod, Nat.reduceLeDiff, Nat.reduceBEq, Nat.zero_add, Nat.add_zero, reduceIte, ↓reduceIte, List.not_mem_nil]
      by_cases q : (j : Int) < 8 ∧ ((k + 1 : Nat) : Int) < (l.length : Int)
      ·rw [if_pos q]
       refine ⟨fun _ => by omega, fun _ => by omega, by kernel_rfl, j + 1, by omega, by omega, Le.of id [] ?_⟩
       simp only [bytesD, Mt_tup, Mt_agg, Mt_fn, forall_eq, forall_eq_or_imp, ne_eq, List.all_cons, List.all_nil, pr, Nat.reduceLeDiff, slR_nil, slR_cons, hpR_nil, hpR_cells, hpR_row, idsR_nil, idsR_cons, mtE_v, mtE_sl, mtE_nil, mtE_refl, mtE_row, mtE_born, mtE_ptr, mtE_rp, mtE_agg, mtE_tup, mtE_fn, mtE_ep, MtL_nil, MtL_cons, Mt_v, Mt_sl, Mt_nil, Mt_refl, Mt_row, Mt_born, Mt_ptr, MtO_cells, MtO_row, liveIds, distinct, Dat.v.injEq, Dat.sl.injEq, Value.int.injEq, Value.bool.injEq, Value.string.injEq, lk_cons, lk_nil, subL_nil, subL_cons, upIds, AV.ids, AV.ids.idsL, AObj.ids, Hp.get_cons, get_nil, allCell, AV.cell, vInt, vBool, vStr, id, true_and, and_true, and_self, List.append_nil, List.nil_append, List.not_mem_nil, List.mem_cons, or_false, false_or, or_self, not_true_eq_false, not_false_eq_true, false_imp_iff, false_implies, List.map_nil, not_false_eq_true, List.contains_cons, List.contains_nil, Bool.or_false, Bool.false_or, Bool.true_or, Bool.or_true, Bool.and_true, Bool.true_and, implies_true, if_true, if_false, reduceCtorEq, Nat.reduceEqDiff, Nat.reduceBEq, Nat.reduceAdd, reduceIte, ↓reduceIte]
       rw [escP_step (by omega), decide_eq_true (show k + 1 < l.length by omega), Bool.true_and]
       cases escP j (l.getD (k + 1) 0)
       ·simp
       ·rw [if_pos ⟨by omega, rfl⟩]; rfl
      ·rw [if_neg q]
       rcases t with _ | ⟨d, t⟩
       ·simp only [List.length_nil] at hlt
        rw [decide_eq_false (show ¬ (k + 1 < l.length) by omega), Bool.false_and, Bool.not_false, if_pos rfl]
        have hr : (-1 : Int) = ansN (a + 1) (Jlex.textLen (l.drop (a + 1))) := hr
        rw [← hr]
       ·simp only [List.length_cons] at hlt
        have hd := (getD_drop ht1).1
        have hj8 : j = 8 := by omega
        rw [hd] at c4 ⊢
        rw [escN_cons] at hr
        rw [decide_eq_true (show k + 1 < l.length by omega), Bool.true_and, hj8, escP_all]
        by_cases c5 : Jstr.esc d
        ·rw [if_pos c5] at hr
         simp only [ansN_map] at hr
         rw [decide_eq_true c5, Bool.not_true, if_neg Bool.false_ne_true]
         refine ⟨k + 2, by omega, ⟨by omega, ?_⟩, Le.of id [] ?_⟩
         ·unfold ansT; rw [← hr, ← h, List.drop_drop]
         ·simp only [bytesD, Mt_tup, Mt_agg, Mt_fn, forall_eq, forall_eq_or_imp, ne_eq, List.all_cons, List.all_nil, pr, Nat.reduceLeDiff, slR_nil, slR_cons, hpR_nil, hpR_cells, hpR_row, idsR_nil, idsR_cons, mtE_v, mtE_sl, mtE_nil, mtE_refl, mtE_row, mtE_born, mtE_ptr, mtE_rp, mtE_agg, mtE_tup, mtE_fn, mtE_ep, MtL_nil, MtL_cons, Mt_v, Mt_sl, Mt_nil, Mt_refl, Mt_row, Mt_born, Mt_ptr, MtO_cells, MtO_row, liveIds, distinct, Dat.v.injEq, Dat.sl.injEq, Value.int.injEq, Value.bool.injEq, Value.string.injEq, lk_cons, lk_nil, subL_nil, subL_cons, upIds, AV.ids, AV.ids.idsL, AObj.ids, Hp.get_cons, get_nil, allCell, AV.cell, vInt, vBool, vStr, id, true_and, and_true, and_self, List.append_nil, List.nil_append, List.not_mem_nil, List.mem_cons, or_false, false_or, or_self, not_true_eq_false, not_false_eq_true, false_imp_iff, false_implies, List.map_nil, not_false_eq_true, List.contains_cons, List.contains_nil, Bool.or_false, Bool.false_or, Bool.true_or, Bool.or_true, Bool.and_true, Bool.true_and, implies_true, if_true, if_false, reduceCtorEq, Nat.reduceEqDiff, Nat.reduceBEq, Nat.reduceAdd, reduceIte, ↓reduceIte]
        ·rw [if_neg c5, if_neg (fun h => c4 ⟨by omega, h.1⟩)] at hr
         rw [decide_eq_false c5, Bool.not_false, if_pos rfl, ← hr]
         exact Sub.refl _
   ·rw [if_pos c3]
    rw [if_neg c3, ansN_map] at hr
    refine ⟨k + 1, by omega, ⟨by omega, by unfold ansT; rw [← hr, drop_tail h]⟩, Le.of id [] ?_⟩
    simp only [bytesD, Mt_tup, Mt_agg, Mt_fn, forall_eq, forall_eq_or_imp, ne_eq, List.all_cons, List.all_nil, pr, Nat.reduceLeDiff, slR_nil, slR_cons, hpR_nil, hpR_cells, hpR_row, idsR_nil, idsR_cons, mtE_v, mtE_sl, mtE_nil, mtE_refl, mtE_row, mtE_born, mtE_ptr, mtE_rp, mtE_agg, mtE_tup, mtE_fn, mtE_ep, MtL_nil, MtL_cons, Mt_v, Mt_sl, Mt_nil, Mt_refl, Mt_row, Mt_born, Mt_ptr, MtO_cells, MtO_row, liveIds, distinct, Dat.v.injEq, Dat.sl.injEq, Value.int.injEq, Value.bool.injEq, Value.string.injEq, lk_cons, lk_nil, subL_nil, subL_cons, upIds, AV.ids, AV.ids.idsL, AObj.ids, Hp.get_cons, get_nil, allCell, AV.cell, vInt, vBool, vStr, id, true_and, and_true, and_self, List.append_nil, List.nil_append, List.not_mem_nil, List.mem_cons, or_false, false_or, or_self, not_true_eq_false, not_false_eq_true, false_imp_iff, false_implies, List.map_nil, not_false_eq_true, List.contains_cons, List.contains_nil, Bool.or_false, Bool.false_or, Bool.true_or, Bool.or_true, Bool.and_true, Bool.true_and, implies_true, if_true, if_false, reduceCtorEq, Nat.reduceEqDiff, Nat.reduceBEq, Nat.reduceAdd, reduceIte, ↓reduceIte]
    rw [w64 (by omega) (by omega)]; omega
  ·rw [if_neg (by omega)]
   unfold ansT at hr
   rw [List.drop_eq_nil_of_le (by omega)] at hr
   rw [← hr]
   exact Sub.refl _
theorem rtx_calm : ∀ args sc res, F_txj args = some (sc, res) → sc → Calm Try.prog 51 args res := by
 intro args sc res h hs
 unfold F_txj at h
 split at h <;> cases h
 rename_i xs a
 obtain ⟨h1, hb, h2, h3, h4⟩ := hs
 obtain ⟨k, rfl⟩ := Int.eq_ofNat_of_zero_le h3
 have hq := rtx_body (xs.map numOf) hb k (by simpa using h2) (by rw [List.length_map]; omega)
 rw [bytesD, ← h1] at hq
 exact known_G_rtx.calm mixed rfl rfl hq
end Go.Proofs.Ytgbialeahdoelaa.Eng

end
