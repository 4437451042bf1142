/- The reference's Next, on the small machine. -/
import Derived.Test.YtlhhibhcoefolaaSRef
namespace Go.Proofs.Ytlhhibhcoefolaa.Eng
open Go Go.Proofs.Ytlhhibhcoefolaa.Base
set_option linter.unusedVariables false
set_option maxRecDepth 100000
set_option linter.unusedSimpArgs false
def tailV (d : Int) : Int × Bool := if Utf.cont d then (d - 128, true) else (0, false)
def F_tail : List AV → Option (Prop × AV)
  | [.d (.sl 1 xs), .d (.v (.int .i64 i))] => some (xs = (xs.map numOf).map (iD .u8) ∧ Bytes (xs.map numOf) ∧ 0 ≤ i ∧ xs.length ≤ 140737488355328, .tup [vInt .i64 (tailV ((xs.map numOf).getD i.toNat 0)).1, vBool (tailV ((xs.map numOf).getD i.toNat 0)).2])
  | _ => none
theorem getD_byte {l : List Int} (hb : Bytes l) (i : Nat) : 0 ≤ l.getD i 0 ∧ l.getD i 0 < 256 := by
  rw [List.getD_eq_getElem?_getD]
  cases h : l[i]? with
  | none => simp
  | some d => exact hb d (List.mem_of_getElem? h)
theorem tail_body {Γ : Gam} (l : List Int) (hb : Bytes l) (hl : l.length ≤ 140737488355328) (i : Int) (hi : 0 ≤ i) : Body Try.prog Γ (DRun Try.prog Γ) 37 [.d (bytesD l), .d (.v (.int .i64 i))] (.tup [vInt .i64 (tailV (l.getD i.toNat 0)).1, vBool (tailV (l.getD i.toNat 0)).2]) := by
  refine Body.of Try.func37 Try.ntmps37 (by kernel_rfl) rfl rfl rfl ?_
  simp only [bytesD, AV.flat, AV.flat.flatL, getD_iD, iD, List.length_map, goTG_val, goTG_new, goTG_up, goTG_none, goG_none, goG_new, goG_up, ne_eq, evK, evH, retHF, DRun_mk, runT_nil, runT_none, runT_guard, goT_val, goT_new, goT_store, goTH_true, goTH_false, evO, keys, Option.toList_some, Option.toList_none, nzL_nil, nzL_cons, nz_k, nz_sl, nz_nil, nz_agg, startL, evC, evV, goE_val, goE_new, goE_store, goH_true, goH_false, goG_val, lk_cons, lk_nil, lk_func, lk_int, lk_bool, lk_string, lk_slice, lk_agg, look_mk, St.effOf, eff, effCall, effBinC, isConst, effBin, effUn, effConv, effPick, effNil, effFold, fold1, effLoad, effStore, effFieldAddr, effField, fieldOf, sliceOf, effIndexAddr, effIndex, effLen, effExtract, effSlice, dats, bnd, effBuild, placesOf, effBuildSlice, effMakeSlice, effAppend, srcOf, fillA, chunk, seg, toD, toDs, put, eqAV, fieldsEq, leafEq, strip, unw, allB, selP_or, selP_and, tis, TyD.agg, AV.cells, AV.cell, allCell, vInt, vBool, vStr, subL_nil, subL_cons, upIds, AV.ids, AV.ids.idsL, AObj.ids, drops, Hp.get_cons, get_nil, retF, resL, one, fz, fz.fzL, List.map_cons, List.map_nil, List.nil_append, List.append_nil, List.cons_append, List.all_cons, List.all_nil, List.length_cons, List.length_nil, List.getElem?_cons_zero, List.getElem?_cons_succ, List.getD_cons_zero, List.getD_cons_succ, List.take_succ_cons, List.take_zero, List.drop_succ_cons, List.drop_zero, List.take_nil, List.drop_nil, List.contains_cons, List.contains_nil, Option.getD_some, Option.getD_none, Option.map_some, Option.map_none, if_true, if_false, true_and, and_true, and_self, or_self, or_false, false_or, false_and, and_false, reduceCtorEq, sel_and, sel_or, decide_eq_true_eq, Bool.and_eq_true, Bool.or_eq_true, Bool.and_true, Bool.true_and, Bool.or_false, Bool.false_or, Bool.true_or, Bool.or_true, Bool.not_true, Bool.not_false, Bool.false_eq_true, implies_true, not_false_eq_true, Nat.reduceLT, Nat.reduceEqDiff, Nat.reduceAdd, Nat.reduceMul, Nat.reduceMod, Nat.reduceLeDiff, Nat.reduceBEq, Nat.zero_add, Nat.add_zero, reduceIte, ↓reduceIte, List.not_mem_nil]
  have hd := getD_byte hb i.toNat
  refine ⟨fun h => ⟨hi, by simpa using h⟩, ?_⟩
  by_cases h1 : i ≥ (l.length : Int)
  · rw [if_pos (.inl h1), List.getD_eq_getElem?_getD, List.getElem?_eq_none (by omega)]
    exact Sub.refl _
  · unfold tailV
    generalize l.getD i.toNat 0 = d at hd ⊢
    have hc := and_cont hd.1 hd.2
    by_cases k : Utf.cont d
    · rw [if_neg (by rw [hc.mpr k]; simpa using h1), if_pos k, u8_and63 (x := d) hd.1 hd.2, w64 (by omega) (by omega)]
      refine ⟨by omega, Sub.eq ?_⟩
      unfold Utf.cont at k
      simp only [vInt, vBool, show d % 64 = d - 128 by omega]
    · rw [if_pos (.inr (by simpa using fun h => k (hc.mp h))), if_neg k]
def G_rn : Gam := Gam.none.add 37 fun a => F_tail (NT.nz.nzL [.s 1, .k] a)
theorem tail_calm : ∀ args sc res, F_tail args = some (sc, res) → sc → Calm Try.prog 37 args res := by
  intro args sc res h hs
  unfold F_tail at h
  split at h <;> cases h
  rename_i xs i
  obtain ⟨h1, h2, h3, h4⟩ := hs
  have hb := tail_body (Γ := Gam.none) (xs.map numOf) h2 (by simpa using h4) i h3
  rw [bytesD, ← h1] at hb
  exact (Known.none _).calm mixed rfl rfl hb
theorem G_rn_at (h : Nat → Option AObj) (d : Nat) (a : List AV) : G_rn 37 h d a = calmE (fun a => F_tail (NT.nz.nzL [.s 1, .k] a)) h a := rfl
theorem known_rn : Known Try.prog G_rn := (Known.none _).addC _ tail_calm
theorem i64_and31 {x : Int} (h0 : 0 ≤ x) (h1 : x < 2147483648) : bits .and .i64 x 31 = x % 32 :=
  bits_mask .i64 31 (by decide) wraps_i64 5 (by decide) x h0 h1
theorem i64_and15 {x : Int} (h0 : 0 ≤ x) (h1 : x < 2147483648) : bits .and .i64 x 15 = x % 16 :=
  bits_mask .i64 31 (by decide) wraps_i64 4 (by decide) x h0 h1
theorem i64_and7 {x : Int} (h0 : 0 ≤ x) (h1 : x < 2147483648) : bits .and .i64 x 7 = x % 8 :=
  bits_mask .i64 31 (by decide) wraps_i64 3 (by decide) x h0 h1
def S_RN (b : Dat) (i n low : Int) (p : Int × Nat) : St := ⟨94, [], [(0, .d b), (1, vInt .i64 i), (8, vInt .i64 n), (9, vInt .i64 p.1), (10, vInt .i64 low), (11, vInt .i64 (p.2 + 1))], []⟩
theorem RNext_body (l : List Int) (hb : Bytes l) (hl : l.length ≤ 140737488355328) (i : Int) : Body Try.prog G_rn (DRun Try.prog G_rn) 26 [.d (bytesD l), .d (.v (.int .i64 i))] (.tup [vInt .i64 (Utf.nx l i).1, vInt .i64 (Utf.nx l i).2.1, vBool (Utf.nx l i).2.2]) := by
  refine Body.of Try.func26 Try.ntmps26 (by kernel_rfl) rfl rfl rfl ?_
  simp only [bytesD, G_rn_at, calmE, F_tail, AV.flat, AV.flat.flatL, getD_iD, iD, num_iD, List.length_map, goTG_val, goTG_new, goTG_up, goTG_none, goG_none, goG_new, goG_up, ne_eq, evK, evH, retHF, DRun_mk, runT_nil, runT_none, runT_guard, goT_val, goT_new, goT_store, goTH_true, goTH_false, evO, keys, Option.toList_some, Option.toList_none, nzL_nil, nzL_cons, nz_k, nz_sl, nz_nil, nz_agg, startL, evC, evV, goE_val, goE_new, goE_store, goH_true, goH_false, goG_val, lk_cons, lk_nil, lk_func, lk_int, lk_bool, lk_string, lk_slice, lk_agg, look_mk, St.effOf, eff, effCall, effBinC, isConst, effBin, effUn, effConv, effPick, effNil, effFold, fold1, effLoad, effStore, effFieldAddr, effField, fieldOf, sliceOf, effIndexAddr, effIndex, effLen, effExtract, effSlice, dats, bnd, effBuild, placesOf, effBuildSlice, effMakeSlice, effAppend, srcOf, fillA, chunk, seg, toD, toDs, put, eqAV, fieldsEq, leafEq, strip, unw, allB, selP_or, selP_and, tis, TyD.agg, AV.cells, AV.cell, allCell, vInt, vBool, vStr, subL_nil, subL_cons, upIds, AV.ids, AV.ids.idsL, AObj.ids, drops, Hp.get_cons, get_nil, retF, resL, one, fz, fz.fzL, List.map_cons, List.map_nil, List.nil_append, List.append_nil, List.cons_append, List.all_cons, List.all_nil, List.length_cons, List.length_nil, List.getElem?_cons_zero, List.getElem?_cons_succ, List.getD_cons_zero, List.getD_cons_succ, List.take_succ_cons, List.take_zero, List.drop_succ_cons, List.drop_zero, List.take_nil, List.drop_nil, List.contains_cons, List.contains_nil, Option.getD_some, Option.getD_none, Option.map_some, Option.map_none, if_true, if_false, true_and, and_true, and_self, or_self, or_false, false_or, false_and, and_false, reduceCtorEq, sel_and, sel_or, decide_eq_true_eq, Bool.and_eq_true, Bool.or_eq_true, Bool.and_true, Bool.true_and, Bool.or_false, Bool.false_or, Bool.true_or, Bool.or_true, Bool.not_true, Bool.not_false, Bool.false_eq_true, implies_true, not_false_eq_true, Nat.reduceLT, Nat.reduceEqDiff, Nat.reduceAdd, Nat.reduceMul, Nat.reduceMod, Nat.reduceLeDiff, Nat.reduceBEq, Nat.zero_add, Nat.add_zero, reduceIte, ↓reduceIte, List.not_mem_nil]
  by_cases hi : i < 0 ∨ i ≥ (l.length : Int)
  · rw [if_pos hi, Utf.nx, if_pos (by omega)]
  · rw [if_neg hi]
    have hi' : ¬ (i < 0 ∨ (l.length : Int) ≤ i) := by omega
    obtain ⟨c, t, ht⟩ : ∃ c t, l.drop i.toNat = c :: t := by
      cases h : l.drop i.toNat with
      | nil => have := List.drop_eq_nil_iff.mp h; omega
      | cons c t => exact ⟨c, t, rfl⟩
    have hc : l.getD i.toNat 0 = c := by
      rw [List.getD_eq_getElem?_getD, ← Nat.add_zero i.toNat, ← List.getElem?_drop, ht]; rfl
    have hbt : Bytes (c :: t) := by rw [← ht]; exact fun x hx => hb x (List.mem_of_mem_drop hx)
    have hr := hbt.head
    have ht1 : l.drop (i.toNat + 1) = t := by rw [← List.drop_drop, ht]; rfl
    have hg : ∀ k : Nat, l.getD (i + ((k : Int) + 1)).toNat 0 = t.getD k 0 := fun k => by
      rw [show (i + ((k : Int) + 1)).toNat = i.toNat + 1 + k by omega, List.getD_eq_getElem?_getD, ← List.getElem?_drop, ht1, ← List.getD_eq_getElem?_getD]
    rw [hc]
    have hn : Utf.nx l i = Utf.dec (c :: t) := by rw [Utf.nx, if_neg hi', ht]
    rw [hn, ref_dec hbt]
    refine ⟨by omega, ?_⟩
    have q1 : bits .and .i64 c 31 = c % 32 := i64_and31 hr.1 (by omega)
    have q2 : bits .and .i64 c 15 = c % 16 := i64_and15 hr.1 (by omega)
    have q3 : bits .and .i64 c 7 = c % 8 := i64_and7 hr.1 (by omega)
    rw [w64 (n := c) (by omega) (by omega)]
    simp only [ge_iff_le]
    have w1 : 192 ≤ c → c < 224 → c % 32 = c - 192 := by omega
    have w2 : 224 ≤ c → c < 240 → c % 16 = c - 224 := by omega
    have w3 : 240 ≤ c → c < 248 → c % 8 = c - 240 := by omega
    by_cases a1 : c < 128
    rw [if_pos a1, if_pos a1]
    obtain ⟨m, low, r0, em, el, er, key, k1, k2, k3, k4⟩ : ∃ (m : Nat) (low r0 : Int), m = 0 ∧ low = 0 ∧ r0 = c ∧ (c, 1, true) = runR low (m + 1) m r0 t ∧ m ≤ 3 ∧ 0 ≤ r0 ∧ r0 < 128 ∧ (0 < m → r0 < 32) := by
      refine ⟨0, 0, c, rfl, rfl, rfl, ?_, by omega, by omega, by omega, by omega⟩
      rw [runR, finR, if_neg (by omega)]; rfl
    rotate_left
    rw [if_neg a1, if_neg a1]
    by_cases a2 : 192 ≤ c ∧ c < 224
    rw [if_pos a2, if_pos a2, q1, w1 a2.1 a2.2]
    obtain ⟨m, low, r0, em, el, er, key, k1, k2, k3, k4⟩ : ∃ (m : Nat) (low r0 : Int), m = 1 ∧ low = 128 ∧ r0 = c - 192 ∧ runR 128 2 1 (c - 192) t = runR low (m + 1) m r0 t ∧ m ≤ 3 ∧ 0 ≤ r0 ∧ r0 < 128 ∧ (0 < m → r0 < 32) :=
      ⟨1, 128, c - 192, rfl, rfl, rfl, rfl, by omega, by omega, by omega, by omega⟩
    rotate_left
    rw [if_neg a2, if_neg a2]
    by_cases a3 : 224 ≤ c ∧ c < 240
    rw [if_pos a3, if_pos a3, q2, w2 a3.1 a3.2]
    obtain ⟨m, low, r0, em, el, er, key, k1, k2, k3, k4⟩ : ∃ (m : Nat) (low r0 : Int), m = 2 ∧ low = 2048 ∧ r0 = c - 224 ∧ runR 2048 3 2 (c - 224) t = runR low (m + 1) m r0 t ∧ m ≤ 3 ∧ 0 ≤ r0 ∧ r0 < 128 ∧ (0 < m → r0 < 32) :=
      ⟨2, 2048, c - 224, rfl, rfl, rfl, rfl, by omega, by omega, by omega, by omega⟩
    rotate_left
    rw [if_neg a3, if_neg a3]
    by_cases a4 : 240 ≤ c ∧ c < 248
    rw [if_pos a4, if_pos a4, q3, w3 a4.1 a4.2]
    obtain ⟨m, low, r0, em, el, er, key, k1, k2, k3, k4⟩ : ∃ (m : Nat) (low r0 : Int), m = 3 ∧ low = 65536 ∧ r0 = c - 240 ∧ runR 65536 4 3 (c - 240) t = runR low (m + 1) m r0 t ∧ m ≤ 3 ∧ 0 ≤ r0 ∧ r0 < 128 ∧ (0 < m → r0 < 32) :=
      ⟨3, 65536, c - 240, rfl, rfl, rfl, rfl, by omega, by omega, by omega, by omega⟩
    rotate_left
    · rw [if_neg a4, if_neg a4]
      exact Sub.refl _
    all_goals
      rw [key]
      clear key hn
      refine wpc_loop (S_RN (bytesD l) i (m + 1) low) (fun p => p.2 ≤ m ∧ 0 ≤ p.1 ∧ (0 < m → p.1 < 32 * 64 ^ p.2) ∧ (m = 0 → p.1 < 128) ∧ runR low (m + 1) (m - p.2) p.1 (t.drop p.2) = runR low (m + 1) m r0 t) (fun p => m - p.2) (r0, 0) ⟨Nat.zero_le _, k2, fun h => by simpa using k4 h, fun _ => k3, rfl⟩ ?_ ?_
      · refine Le.of id [] ?_
        simp only [S_RN, bytesD, em, el, er, iD, List.length_map, Mt_tup, Mt_agg, Mt_fn, forall_eq, forall_eq_or_imp, ne_eq, List.all_cons, List.all_nil, pr, Nat.reduceLeDiff, slR_nil, slR_cons, hpR_nil, hpR_cells, hpR_row, idsR_nil, idsR_cons, mtE_v, mtE_sl, mtE_nil, mtE_refl, mtE_row, mtE_born, mtE_ptr, mtE_rp, mtE_agg, mtE_tup, mtE_fn, mtE_ep, MtL_nil, MtL_cons, Mt_v, Mt_sl, Mt_nil, Mt_refl, Mt_row, Mt_born, Mt_ptr, MtO_cells, MtO_row, liveIds, distinct, Dat.v.injEq, Dat.sl.injEq, Value.int.injEq, Value.bool.injEq, Value.string.injEq, lk_cons, lk_nil, subL_nil, subL_cons, upIds, AV.ids, AV.ids.idsL, AObj.ids, Hp.get_cons, get_nil, allCell, AV.cell, vInt, vBool, vStr, id, true_and, and_true, and_self, List.append_nil, List.nil_append, List.not_mem_nil, List.mem_cons, or_false, false_or, or_self, not_true_eq_false, not_false_eq_true, false_imp_iff, false_implies, List.map_nil, not_false_eq_true, List.contains_cons, List.contains_nil, Bool.or_false, Bool.false_or, Bool.true_or, Bool.or_true, Bool.and_true, Bool.true_and, implies_true, if_true, if_false, reduceCtorEq, Nat.reduceEqDiff, Nat.reduceBEq, Nat.reduceAdd, reduceIte, ↓reduceIte]
        first | rfl | exact ⟨by omega, by omega⟩
      · rintro ⟨x, j⟩ ⟨h1, h2, h3, h5, h4⟩
        simp only [S_RN, bytesD, G_rn_at, calmE, F_tail, AV.flat, AV.flat.flatL, getD_iD, iD, num_iD, List.length_map, goTG_val, goTG_new, goTG_up, goTG_none, goG_none, goG_new, goG_up, ne_eq, evK, evH, retHF, DRun_mk, runT_nil, runT_none, runT_guard, goT_val, goT_new, goT_store, goTH_true, goTH_false, evO, keys, Option.toList_some, Option.toList_none, nzL_nil, nzL_cons, nz_k, nz_sl, nz_nil, nz_agg, startL, evC, evV, goE_val, goE_new, goE_store, goH_true, goH_false, goG_val, lk_cons, lk_nil, lk_func, lk_int, lk_bool, lk_string, lk_slice, lk_agg, look_mk, St.effOf, eff, effCall, effBinC, isConst, effBin, effUn, effConv, effPick, effNil, effFold, fold1, effLoad, effStore, effFieldAddr, effField, fieldOf, sliceOf, effIndexAddr, effIndex, effLen, effExtract, effSlice, dats, bnd, effBuild, placesOf, effBuildSlice, effMakeSlice, effAppend, srcOf, fillA, chunk, seg, toD, toDs, put, eqAV, fieldsEq, leafEq, strip, unw, allB, selP_or, selP_and, tis, TyD.agg, AV.cells, AV.cell, allCell, vInt, vBool, vStr, subL_nil, subL_cons, upIds, AV.ids, AV.ids.idsL, AObj.ids, drops, Hp.get_cons, get_nil, retF, resL, one, fz, fz.fzL, List.map_cons, List.map_nil, List.nil_append, List.append_nil, List.cons_append, List.all_cons, List.all_nil, List.length_cons, List.length_nil, List.getElem?_cons_zero, List.getElem?_cons_succ, List.getD_cons_zero, List.getD_cons_succ, List.take_succ_cons, List.take_zero, List.drop_succ_cons, List.drop_zero, List.take_nil, List.drop_nil, List.contains_cons, List.contains_nil, Option.getD_some, Option.getD_none, Option.map_some, Option.map_none, if_true, if_false, true_and, and_true, and_self, or_self, or_false, false_or, false_and, and_false, reduceCtorEq, sel_and, sel_or, decide_eq_true_eq, Bool.and_eq_true, Bool.or_eq_true, Bool.and_true, Bool.true_and, Bool.or_false, Bool.false_or, Bool.true_or, Bool.or_true, Bool.not_true, Bool.not_false, Bool.false_eq_true, implies_true, not_false_eq_true, Nat.reduceLT, Nat.reduceEqDiff, Nat.reduceAdd, Nat.reduceMul, Nat.reduceMod, Nat.reduceLeDiff, Nat.reduceBEq, Nat.zero_add, Nat.add_zero, reduceIte, ↓reduceIte, List.not_mem_nil]
        simp only [] at h1 h2 h3 h4 h5
        have hx : x < 32 * 64 ^ 3 := by
          rcases Nat.eq_zero_or_pos m with h0 | h0
          · have := h5 h0; omega
          · have := h3 h0
            have hp : (64 : Int) ^ j ≤ 64 ^ 3 := by
              rcases (show j = 0 ∨ j = 1 ∨ j = 2 ∨ j = 3 by omega) with rfl | rfl | rfl | rfl <;> decide
            omega
        by_cases hj : j < m
        · rw [if_pos (by omega)]
          rw [w64 (n := i + ((j : Int) + 1)) (by omega) (by omega), hg]
          refine ⟨⟨hb, by omega, hl⟩, ?_⟩
          have hm : m - j = (m - (j + 1)) + 1 := by omega
          have hd : t.getD j 0 = (t.drop j).headD 0 := by
            rw [List.getD_eq_getElem?_getD, ← Nat.add_zero j, ← List.getElem?_drop]
            cases List.drop (j + 0) t <;> rfl
          have hdr : t.drop (j + 1) = (t.drop j).drop 1 := by rw [List.drop_drop]
          have hbd : Bytes (t.drop j) := fun y hy => hbt y (List.mem_cons_of_mem _ (List.mem_of_mem_drop hy))
          rw [hm] at h4
          cases hq : t.drop j with
          | nil =>
            rw [hq, runR] at h4
            simp only [hd, hq, List.headD_nil, show tailV 0 = (0, false) from rfl, Bool.not_false, if_true]
            rw [← h4]
            exact Sub.refl _
          | cons d u =>
            rw [hq] at h4 hdr hbd
            simp only [List.drop_succ_cons, List.drop_zero] at hdr
            rw [runR] at h4
            by_cases hk : Utf.cont d
            · rw [if_pos hk] at h4
              simp only [hd, hq, List.headD_cons, tailV, if_pos hk, Bool.not_true, Bool.false_eq_true, if_false]
              unfold Utf.cont at hk
              refine ⟨by omega, (x * 64 + (d - 128), j + 1), by simp only []; omega, ⟨hj, by simp only []; omega, fun h => ?_, fun h => by omega, by simp only [hdr]; exact h4⟩, Le.of id [] ?_⟩
              · have := h3 h
                simp only [Int.pow_succ]; omega
              · simp only [iD, List.length_map, Mt_tup, Mt_agg, Mt_fn, forall_eq, forall_eq_or_imp, ne_eq, List.all_cons, List.all_nil, pr, Nat.reduceLeDiff, slR_nil, slR_cons, hpR_nil, hpR_cells, hpR_row, idsR_nil, idsR_cons, mtE_v, mtE_sl, mtE_nil, mtE_refl, mtE_row, mtE_born, mtE_ptr, mtE_rp, mtE_agg, mtE_tup, mtE_fn, mtE_ep, MtL_nil, MtL_cons, Mt_v, Mt_sl, Mt_nil, Mt_refl, Mt_row, Mt_born, Mt_ptr, MtO_cells, MtO_row, liveIds, distinct, Dat.v.injEq, Dat.sl.injEq, Value.int.injEq, Value.bool.injEq, Value.string.injEq, lk_cons, lk_nil, subL_nil, subL_cons, upIds, AV.ids, AV.ids.idsL, AObj.ids, Hp.get_cons, get_nil, allCell, AV.cell, vInt, vBool, vStr, id, true_and, and_true, and_self, List.append_nil, List.nil_append, List.not_mem_nil, List.mem_cons, or_false, false_or, or_self, not_true_eq_false, not_false_eq_true, false_imp_iff, false_implies, List.map_nil, not_false_eq_true, List.contains_cons, List.contains_nil, Bool.or_false, Bool.false_or, Bool.true_or, Bool.or_true, Bool.and_true, Bool.true_and, implies_true, if_true, if_false, reduceCtorEq, Nat.reduceEqDiff, Nat.reduceBEq, Nat.reduceAdd, reduceIte, ↓reduceIte]
                rw [show (2 : Int) ^ min (Int.toNat 6) IntKind.i64.bits = 64 from rfl, w64 (n := x * 64) (by omega) (by omega), i64_or6 h2 (by omega) (by omega) (by omega), w64 (n := ((j : Int) + 1) + 1) (by omega) (by omega)]
                exact ⟨by omega, by omega⟩
            · rw [if_neg hk] at h4
              simp only [hd, hq, List.headD_cons, tailV, if_neg hk, Bool.not_false, if_true]
              rw [← h4]
              exact Sub.refl _
        · rw [if_neg (by omega)]
          have hj2 : m - j = 0 := by omega
          rw [hj2, runR, finR] at h4
          rw [← h4]
          have key : (x < low ∨ x > 1114111 ∨ (55296 ≤ x ∧ x < 57344)) ∨ ¬ (x < low ∨ x > 1114111 ∨ (55296 ≤ x ∧ x < 57344)) := Classical.em _
          rcases key with h | h
          · rw [if_pos (by simpa [or_assoc] using h), if_pos h]
            exact Sub.refl _
          · rw [if_neg (by simpa [and_assoc] using h), if_neg h]
def F_RNext : List AV → Option (Prop × AV) := F_Next
theorem RNext_calm : ∀ args sc res, F_Next args = some (sc, res) → sc → Calm Try.prog 26 args res := by
  intro args sc res h hs
  unfold F_Next at h
  split at h <;> cases h
  rename_i xs i
  obtain ⟨h1, h2, h3⟩ := hs
  have hb := RNext_body (xs.map numOf) h2 (by simpa using h3) i
  rw [bytesD, ← h1] at hb
  exact known_rn.calm mixed rfl rfl hb
end Go.Proofs.Ytlhhibhcoefolaa.Eng
