/- Names of CSS: escapes read, on the small machine. -/
import Derived.Test.YtelgddealjbgiaaDoorSCn2
namespace Go.Proofs.YtelgddealjbgiaaDoor.Eng
open Go Go.Proofs.YtelgddealjbgiaaDoor.Base
set_option maxRecDepth 100000
set_option linter.unusedSimpArgs false
set_option linter.unusedVariables false
/-- Digits of base 16 from a place on, at most so many: the number, and the place behind. -/
def hexN (l : List (Int × Int)) : Nat → Int → Int → Int × Int
  | 0, n, e => (n, e)
  | f + 1, n, e => if hexP (atR l e) then hexN l f (16 * n + hexV (atR l e)) (e + 1) else (n, e)
def fixN (n : Int) : Int := if (n = 0 ∨ n > 1114111) ∨ (n ≥ 55296 ∧ n ≤ 57343) then 65533 else n
/-- What an escape stands for, and where it ends. -/
def escV (l : List (Int × Int)) (i : Int) : Int × Int :=
  if i + 1 ≥ l.length then (65533, i + 1) else
  let p := hexN l 6 0 (i + 1)
  if p.2 = i + 1 then (atR l (i + 1), i + 2) else (fixN p.1, if blankC (atR l p.2) then p.2 + 1 else p.2)
def okR (l : List (Int × Int)) : Prop := ∀ x ∈ l, 0 ≤ x.1 ∧ x.1 ≤ 1114111
theorem atR_range {l : List (Int × Int)} (h : okR l) (i : Int) : -1 ≤ atR l i ∧ atR l i ≤ 1114111 := by
  unfold atR
  split
  · omega
  · rename_i c
    obtain ⟨k, rfl⟩ := Int.eq_ofNat_of_zero_le (show 0 ≤ i by omega)
    obtain ⟨x, hx⟩ : ∃ x, l[k]? = some x := ⟨_, List.getElem?_eq_getElem (by omega)⟩
    rw [Int.toNat_natCast, List.getD_eq_getElem?_getD, hx]
    have := h x (List.mem_of_getElem? hx)
    simp only [Option.getD_some]; omega
theorem hexV_range {r : Int} (h : hexP r) : 0 ≤ hexV r ∧ hexV r < 16 := by
  unfold hexP digP at h
  unfold hexV digP
  repeat' split
  all_goals omega
theorem hexV_iff (r : Int) : 0 ≤ hexV r ↔ hexP r := by
  constructor
  · intro h
    unfold hexV at h
    unfold hexP
    repeat' split at h
    all_goals first | (exact .inl (by assumption)) | (exact .inr (.inl (by assumption))) | (exact .inr (.inr (by assumption))) | omega
  · intro h; exact (hexV_range h).1
theorem enc_small : ∀ k : Fin 128, Utf8.encode (k.val : Int) = ⟨#[UInt8.ofNat k.val]⟩ := by decide +kernel
theorem or16 {x y : Int} (hx : 0 ≤ x) (h1 : x < 16777216) (h0 : 0 ≤ y) (h2 : y < 16) : bits .or .i64 (x * 16) y = x * 16 + y :=
  bits_join .i64 31 (by decide) wraps_i64 4 (x * 16) y (by omega) (by omega) (by omega) h0 h2 (by omega)
/-- A code point of base 16, as a text. -/
theorem hex_text {r : Int} (h : hexP r) : Utf8.encode (IntKind.i32.wrap r) = ⟨#[UInt8.ofNat r.toNat]⟩ ∧ ((UInt8.ofNat r.toNat).toNat : Int) = r := by
  have hb : 0 ≤ r ∧ r < 128 := by unfold hexP digP at h; omega
  obtain ⟨k, rfl⟩ := Int.eq_ofNat_of_zero_le hb.1
  have hw : IntKind.i32.wrap (k : Int) = k := by rw [IntKind.wrap_i32]; omega
  rw [hw]
  refine ⟨enc_small ⟨k, by omega⟩, ?_⟩
  rw [Int.toNat_natCast, UInt8.toNat_ofNat']
  omega
theorem hexN_stop {l : List (Int × Int)} {f : Nat} {n e : Int} (h : f = 0 ∨ ¬ hexP (atR l e)) : hexN l f n e = (n, e) := by
  cases f with
  | zero => rfl
  | succ f =>
    rcases h with h | h
    · omega
    · rw [hexN, if_neg h]
theorem escV_eq {l : List (Int × Int)} {i n e : Int} (h : ¬ i + 1 ≥ l.length) (he : hexN l 6 0 (i + 1) = (n, e)) : escV l i = if e = i + 1 then (atR l (i + 1), i + 2) else (fixN n, if blankC (atR l e) then e + 1 else e) := by
  unfold escV
  rw [if_neg h, he]
theorem pow16 {k : Nat} (h : k ≤ 5) : (16 : Int) ^ k ≤ 1048576 := by
  have : k = 0 ∨ k = 1 ∨ k = 2 ∨ k = 3 ∨ k = 4 ∨ k = 5 := by omega
  rcases this with rfl | rfl | rfl | rfl | rfl | rfl <;> decide
def F_escd : List AV → Option (Prop × AV)
  | [.d (.sl 2 xs), .d (.v (.int .i64 i))] => some (xs = (xs.map runeOf).map rD ∧ xs.length ≤ 1000000 ∧ okR (xs.map runeOf) ∧ 0 ≤ i ∧ i ≤ 1000000, .tup [vInt .i64 (escV (xs.map runeOf) i).1, vInt .i64 (escV (xs.map runeOf) i).2])
  | _ => none
noncomputable def Gc_escd : Gam := (((Gam.none.add 36 fun a => F_at (NT.nz.nzL [.s 2] a)).add 48 fun a => F_hexc (NT.nz.nzL [] a)).add 50 fun a => F_blankc (NT.nz.nzL [] a)).add 49 fun a => F_pi (NT.nz.nzL [] a)
theorem known_Gc_escd : Known Tryd.prog Gc_escd := ((((Known.none _).addC _ atI_calm).addC _ hexI_calm).addC _ blankI_calm).addC _ ps_calm
theorem Gc_escd_at : (∀ h d a, Gc_escd 36 h d a = calmE (fun a => F_at (NT.nz.nzL [.s 2] a)) h a) ∧ (∀ h d a, Gc_escd 48 h d a = calmE (fun a => F_hexc (NT.nz.nzL [] a)) h a) ∧ (∀ h d a, Gc_escd 50 h d a = calmE (fun a => F_blankc (NT.nz.nzL [] a)) h a) ∧ (∀ h d a, Gc_escd 49 h d a = calmE (fun a => F_pi (NT.nz.nzL [] a)) h a) := ⟨fun _ _ _ => rfl, fun _ _ _ => rfl, fun _ _ _ => rfl, fun _ _ _ => rfl⟩
theorem escd_body (l : List (Int × Int)) (i : Int) (hl : l.length ≤ 1000000) (hr : okR l) (h0 : 0 ≤ i) (h1 : i ≤ 1000000) : Body Tryd.prog Gc_escd (DRun Tryd.prog Gc_escd) 28 [.d (runesD l), vInt .i64 i] (.tup [vInt .i64 (escV l i).1, vInt .i64 (escV l i).2]) := by
  refine Body.of Tryd.func28 Tryd.ntmps28 (by kernel_rfl) rfl rfl rfl ?_
  have nz2 : ∀ xs, (NT.s 2).nz (.d (.sl 2 xs)) = .d (.sl 2 xs) := fun xs => rfl
  have w1 : IntKind.i64.wrap (i + 1) = i + 1 := w64 (by omega) (by omega)
  simp only [runesD, rD_runeOf, nz2, w1, Gc_escd_at, calmE, F_at, F_hexc, F_blankc, F_pi, AV.flat, AV.flat.flatL, List.length_map, Int.reduceLE, Int.reduceLT, Int.reduceGT, Int.reduceGE, Int.reduceBEq, Int.reduceBNe, Int.reduceEq, Int.reduceToNat, Int.reduceSub, Int.reduceAdd, Int.reduceMul, Int.reducePow, goTG_val, goTG_new, goTG_up, goTG_none, goG_none, goG_new, goG_up, ne_eq, evK, evH, retHF, DRun_mk, runT_nil, runT_none, runT_guard, goT_val, goT_new, goT_store, goTH_true, goTH_false, evO, keys, Option.toList_some, Option.toList_none, nzL_nil, nzL_cons, nz_k, nz_sl, nz_nil, nz_agg, startL, evC, evV, goE_val, goE_new, goE_store, goH_true, goH_false, goG_val, lk_cons, lk_nil, lk_func, lk_int, lk_bool, lk_string, lk_slice, lk_agg, look_mk, St.effOf, eff, effCall, effBinC, isConst, effBin, effUn, effConv, effPick, effNil, effFold, fold1, effLoad, effStore, effFieldAddr, effField, fieldOf, sliceOf, effIndexAddr, effIndex, effLen, effExtract, effSlice, dats, bnd, effBuild, placesOf, effBuildSlice, effMakeSlice, effAppend, srcOf, fillA, chunk, seg, toD, toDs, put, eqAV, fieldsEq, leafEq, strip, unw, allB, selP_or, selP_and, tis, TyD.agg, AV.cells, AV.cell, allCell, vInt, vBool, vStr, subL_nil, subL_cons, upIds, AV.ids, AV.ids.idsL, AObj.ids, drops, Hp.get_cons, get_nil, retF, resL, one, fz, fz.fzL, List.map_cons, List.map_nil, List.nil_append, List.append_nil, List.cons_append, List.all_cons, List.all_nil, List.length_cons, List.length_nil, List.getElem?_cons_zero, List.getElem?_cons_succ, List.getD_cons_zero, List.getD_cons_succ, List.take_succ_cons, List.take_zero, List.drop_succ_cons, List.drop_zero, List.take_nil, List.drop_nil, List.contains_cons, List.contains_nil, Option.getD_some, Option.getD_none, Option.map_some, Option.map_none, if_true, if_false, true_and, and_true, and_self, or_self, or_false, false_or, false_and, and_false, reduceCtorEq, sel_and, sel_or, decide_eq_true_eq, Bool.and_eq_true, Bool.or_eq_true, Bool.and_true, Bool.true_and, Bool.or_false, Bool.false_or, Bool.true_or, Bool.or_true, Bool.not_true, Bool.not_false, Bool.false_eq_true, implies_true, not_false_eq_true, Nat.reduceLT, Nat.reduceEqDiff, Nat.reduceAdd, Nat.reduceMul, Nat.reduceMod, Nat.reduceLeDiff, Nat.reduceBEq, Nat.zero_add, Nat.add_zero, reduceIte, ↓reduceIte, List.not_mem_nil]
  by_cases c0 : i + 1 ≥ l.length
  · rw [if_pos c0]
    unfold escV
    rw [if_pos c0]
  rw [if_neg c0]
  refine wpc_loop (fun q : Nat × Int => ⟨75, [], [(0, .d (runesD l)), (1, vInt .i64 (i + 1)), (6, vInt .i64 q.2), (7, vInt .i64 (i + 1 + q.1))], []⟩) (fun q => q.1 ≤ 6 ∧ 0 ≤ q.2 ∧ q.2 < 16 ^ q.1 ∧ hexN l (6 - q.1) q.2 (i + 1 + q.1) = hexN l 6 0 (i + 1)) (fun q => 6 - q.1) (0, 0) ⟨by decide, by decide, by decide, by simp⟩ ?_ ?_
  · refine Le.of id [] ?_
    simp only [runesD, Mt_tup, Mt_agg, Mt_fn, forall_eq, forall_eq_or_imp, ne_eq, List.all_cons, List.all_nil, pr, Nat.reduceLeDiff, slR_nil, slR_cons, hpR_nil, hpR_cells, hpR_row, idsR_nil, idsR_cons, mtE_v, mtE_sl, mtE_nil, mtE_refl, mtE_row, mtE_born, mtE_ptr, mtE_rp, mtE_agg, mtE_tup, mtE_fn, mtE_ep, MtL_nil, MtL_cons, Mt_v, Mt_sl, Mt_nil, Mt_refl, Mt_row, Mt_born, Mt_ptr, MtO_cells, MtO_row, liveIds, distinct, Dat.v.injEq, Dat.sl.injEq, Value.int.injEq, Value.bool.injEq, Value.string.injEq, lk_cons, lk_nil, subL_nil, subL_cons, upIds, AV.ids, AV.ids.idsL, AObj.ids, Hp.get_cons, get_nil, allCell, AV.cell, vInt, vBool, vStr, id, true_and, and_true, and_self, List.append_nil, List.nil_append, List.not_mem_nil, List.mem_cons, or_false, false_or, or_self, not_true_eq_false, not_false_eq_true, false_imp_iff, false_implies, List.map_nil, not_false_eq_true, List.contains_cons, List.contains_nil, Bool.or_false, Bool.false_or, Bool.true_or, Bool.or_true, Bool.and_true, Bool.true_and, implies_true, if_true, if_false, reduceCtorEq, Nat.reduceEqDiff, Nat.reduceBEq, Nat.reduceAdd, reduceIte, ↓reduceIte]
    omega
  · rintro ⟨k, n⟩ ⟨hk, hn0, hn1, he⟩
    simp only [] at hk hn0 hn1 he
    have w7 : IntKind.i64.wrap (i + 1 + 6) = i + 1 + 6 := w64 (by omega) (by omega)
    simp only [runesD, rD_runeOf, nz2, w1, w7, Gc_escd_at, calmE, F_at, F_hexc, F_blankc, F_pi, AV.flat, AV.flat.flatL, List.length_map, Int.reduceLE, Int.reduceLT, Int.reduceGT, Int.reduceGE, Int.reduceBEq, Int.reduceBNe, Int.reduceEq, Int.reduceToNat, Int.reduceSub, Int.reduceAdd, Int.reduceMul, Int.reducePow, goTG_val, goTG_new, goTG_up, goTG_none, goG_none, goG_new, goG_up, ne_eq, evK, evH, retHF, DRun_mk, runT_nil, runT_none, runT_guard, goT_val, goT_new, goT_store, goTH_true, goTH_false, evO, keys, Option.toList_some, Option.toList_none, nzL_nil, nzL_cons, nz_k, nz_sl, nz_nil, nz_agg, startL, evC, evV, goE_val, goE_new, goE_store, goH_true, goH_false, goG_val, lk_cons, lk_nil, lk_func, lk_int, lk_bool, lk_string, lk_slice, lk_agg, look_mk, St.effOf, eff, effCall, effBinC, isConst, effBin, effUn, effConv, effPick, effNil, effFold, fold1, effLoad, effStore, effFieldAddr, effField, fieldOf, sliceOf, effIndexAddr, effIndex, effLen, effExtract, effSlice, dats, bnd, effBuild, placesOf, effBuildSlice, effMakeSlice, effAppend, srcOf, fillA, chunk, seg, toD, toDs, put, eqAV, fieldsEq, leafEq, strip, unw, allB, selP_or, selP_and, tis, TyD.agg, AV.cells, AV.cell, allCell, vInt, vBool, vStr, subL_nil, subL_cons, upIds, AV.ids, AV.ids.idsL, AObj.ids, drops, Hp.get_cons, get_nil, retF, resL, one, fz, fz.fzL, List.map_cons, List.map_nil, List.nil_append, List.append_nil, List.cons_append, List.all_cons, List.all_nil, List.length_cons, List.length_nil, List.getElem?_cons_zero, List.getElem?_cons_succ, List.getD_cons_zero, List.getD_cons_succ, List.take_succ_cons, List.take_zero, List.drop_succ_cons, List.drop_zero, List.take_nil, List.drop_nil, List.contains_cons, List.contains_nil, Option.getD_some, Option.getD_none, Option.map_some, Option.map_none, if_true, if_false, true_and, and_true, and_self, or_self, or_false, false_or, false_and, and_false, reduceCtorEq, sel_and, sel_or, decide_eq_true_eq, Bool.and_eq_true, Bool.or_eq_true, Bool.and_true, Bool.true_and, Bool.or_false, Bool.false_or, Bool.true_or, Bool.or_true, Bool.not_true, Bool.not_false, Bool.false_eq_true, implies_true, not_false_eq_true, Nat.reduceLT, Nat.reduceEqDiff, Nat.reduceAdd, Nat.reduceMul, Nat.reduceMod, Nat.reduceLeDiff, Nat.reduceBEq, Nat.zero_add, Nat.add_zero, reduceIte, ↓reduceIte, List.not_mem_nil]
    by_cases c1 : i + 1 + (k : Int) < i + 1 + 6 ∧ hexP (atR l (i + 1 + k))
    · rw [if_pos c1]
      obtain ⟨e1, e2⟩ := hex_text c1.2
      have hv := hexV_range c1.2
      have p16 := pow16 (k := k) (by omega)
      have ws : IntKind.i64.wrap (n * 2 ^ min 4 IntKind.i64.bits) = n * 16 := by
        show IntKind.i64.wrap (n * 16) = _
        exact w64 (by omega) (by omega)
      have hg : ((⟨#[UInt8.ofNat (atR l (i + 1 + (k : Int))).toNat]⟩ : ByteArray).data.getD 0 0) = UInt8.ofNat (atR l (i + 1 + (k : Int))).toNat := rfl
      refine ⟨⟨_, e1, by rw [e2]; exact c1.2⟩, (k + 1, n * 16 + hexV (atR l (i + 1 + k))), by simp only []; omega, ⟨by simp only []; omega, by simp only []; omega, ?_, ?_⟩, Le.of id [] ?_⟩
      · simp only [Int.pow_succ]; omega
      · rw [← he, show 6 - k = (6 - (k + 1)) + 1 by omega, hexN, if_pos c1.2]
        simp only []
        congr 1
        · omega
        · omega
      · simp only [runesD, e1, hg, e2, ws, or16 hn0 (by omega) hv.1 hv.2, Mt_tup, Mt_agg, Mt_fn, forall_eq, forall_eq_or_imp, ne_eq, List.all_cons, List.all_nil, pr, Nat.reduceLeDiff, slR_nil, slR_cons, hpR_nil, hpR_cells, hpR_row, idsR_nil, idsR_cons, mtE_v, mtE_sl, mtE_nil, mtE_refl, mtE_row, mtE_born, mtE_ptr, mtE_rp, mtE_agg, mtE_tup, mtE_fn, mtE_ep, MtL_nil, MtL_cons, Mt_v, Mt_sl, Mt_nil, Mt_refl, Mt_row, Mt_born, Mt_ptr, MtO_cells, MtO_row, liveIds, distinct, Dat.v.injEq, Dat.sl.injEq, Value.int.injEq, Value.bool.injEq, Value.string.injEq, lk_cons, lk_nil, subL_nil, subL_cons, upIds, AV.ids, AV.ids.idsL, AObj.ids, Hp.get_cons, get_nil, allCell, AV.cell, vInt, vBool, vStr, id, true_and, and_true, and_self, List.append_nil, List.nil_append, List.not_mem_nil, List.mem_cons, or_false, false_or, or_self, not_true_eq_false, not_false_eq_true, false_imp_iff, false_implies, List.map_nil, not_false_eq_true, List.contains_cons, List.contains_nil, Bool.or_false, Bool.false_or, Bool.true_or, Bool.or_true, Bool.and_true, Bool.true_and, implies_true, if_true, if_false, reduceCtorEq, Nat.reduceEqDiff, Nat.reduceBEq, Nat.reduceAdd, reduceIte, ↓reduceIte]
        rw [w64 (by omega) (by omega)]
        omega
    · rw [if_neg c1]
      have hs : 6 - k = 0 ∨ ¬ hexP (atR l (i + 1 + (k : Int))) := by
        by_cases c2 : k = 6
        · exact .inl (by omega)
        · exact .inr fun h => c1 ⟨by omega, h⟩
      rw [hexN_stop hs] at he
      rw [escV_eq c0 he.symm]
      by_cases c2 : k = 0
      · subst c2
        obtain ⟨a, ha⟩ := Int.eq_ofNat_of_zero_le (show 0 ≤ i + 1 by omega)
        obtain ⟨x, hx⟩ : ∃ x, l[a]? = some x := ⟨_, List.getElem?_eq_getElem (by omega)⟩
        have hg : ∀ z, (l.map rD).getD (i + 1).toNat z = rD x := fun z => by rw [ha]; exact getD_map hx z
        have hat : atR l (i + 1) = x.1 := by
          unfold atR
          rw [if_neg (by omega), ha, Int.toNat_natCast, List.getD_eq_getElem?_getD, hx]; rfl
        rw [if_pos (by simp), if_pos (by simp), hg, hat, w64 (n := i + 1 + 1) (by omega) (by omega)]
        refine ⟨⟨by omega, by omega⟩, by show 0 < 2; decide, Sub.eq ?_⟩
        rw [show i + 1 + 1 = i + 2 by omega]; rfl
      · rw [if_neg (by simp; omega), if_neg (show ¬ i + 1 + (k : Int) = i + 1 by omega)]
        unfold fixN
        by_cases c3 : blankC (atR l (i + 1 + (k : Int)))
        · rw [if_pos c3, if_pos c3, w64 (by omega) (by omega)]
          by_cases c4 : (n = 0 ∨ n > 1114111) ∨ n ≥ 55296 ∧ n ≤ 57343
          · rw [if_pos (by simpa using c4), if_pos c4]
          · rw [if_neg (by simpa using c4), if_neg c4]
        · rw [if_neg c3, if_neg c3]
          by_cases c4 : (n = 0 ∨ n > 1114111) ∨ n ≥ 55296 ∧ n ≤ 57343
          · rw [if_pos (by simpa using c4), if_pos c4]
          · rw [if_neg (by simpa using c4), if_neg c4]
theorem escd_calm : ∀ args sc res, F_escd args = some (sc, res) → sc → Calm Tryd.prog 28 args res := by
  intro args sc res h hs
  unfold F_escd at h
  split at h <;> cases h
  rename_i xs i
  obtain ⟨h1, h2, h3, h4, h5⟩ := hs
  have hb := escd_body (xs.map runeOf) i (by simpa using h2) h3 h4 h5
  rw [runesD, ← h1] at hb
  exact known_Gc_escd.calm mixed rfl rfl hb
end Go.Proofs.YtelgddealjbgiaaDoor.Eng
