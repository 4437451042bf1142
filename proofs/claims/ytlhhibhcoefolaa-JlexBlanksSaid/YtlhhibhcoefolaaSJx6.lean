/- Where texts end (jlex), on the small machine. -/
import Derived.Test.YtlhhibhcoefolaaSJx5
namespace Go.Proofs.Ytlhhibhcoefolaa.Eng
open Go Go.Proofs.Ytlhhibhcoefolaa.Base
set_option maxRecDepth 100000
set_option linter.unusedSimpArgs false
set_option linter.unusedVariables false
def hex4B : List Int → Bool
  | p :: q :: r :: s :: _ => hexB p && hexB q && hexB r && hexB s
  | _ => false
/-- How many bytes an escape has; its sign stands ahead. -/
def escN : List Int → Option Nat
  | [] => none
  | d :: t => if Jstr.esc d then some 2 else if d = 117 ∧ hex4B t = true then some 6 else none
theorem escN_cons (d : Int) (t : List Int) : escN (d :: t) = if Jstr.esc d then some 2 else if d = 117 ∧ hex4B t = true then some 6 else none := rfl
theorem hex4B_iff {t : List Int} (hb : Bytes t) : hex4B t = true ↔ Jlex.hex4 t := by
  rcases t with _ | ⟨p, _ | ⟨q, _ | ⟨r, _ | ⟨s, t⟩⟩⟩⟩
  · exact ⟨fun h => Bool.noConfusion h, fun h => h.elim⟩
  · exact ⟨fun h => Bool.noConfusion h, fun h => h.elim⟩
  · exact ⟨fun h => Bool.noConfusion h, fun h => h.elim⟩
  · exact ⟨fun h => Bool.noConfusion h, fun h => h.elim⟩
  · have h1 := hb p (by simp)
    have h2 := hb q (by simp)
    have h3 := hb r (by simp)
    have h4 := hb s (by simp)
    show (hexB p && hexB q && hexB r && hexB s) = true ↔ (0 ≤ Jstr.hexv p ∧ 0 ≤ Jstr.hexv q ∧ 0 ≤ Jstr.hexv r ∧ 0 ≤ Jstr.hexv s)
    rw [in_hex h1, in_hex h2, in_hex h3, in_hex h4]
    simp only [Jlex.hexb, Bool.and_eq_true, decide_eq_true_eq, and_assoc]
theorem textLen_step {c : Int} {t : List Int} (hb : Bytes t) : Jlex.textLen (c :: t) = if c = 34 then some 1 else if c < 32 then none else if c = 92 then (match escN t with
    | none => none
    | some m => (Jlex.textLen ((c :: t).drop m)).map (· + m)) else (Jlex.textLen t).map (· + 1) := by
  rcases t with _ | ⟨d, t⟩
  · by_cases c1 : c = 34
    · simp [Jlex.textLen, c1]
    · by_cases c2 : c < 32
      · simp [Jlex.textLen, c1, c2]
      · by_cases c3 : c = 92
        · simp [Jlex.textLen, c3, escN]
        · simp [Jlex.textLen, c1, c2, c3]
  · have hbt : Bytes t := fun x hx => hb x (List.mem_cons_of_mem _ hx)
    by_cases c1 : c = 34
    · rw [Jlex.textLen_cons, if_pos c1, if_pos c1]
    by_cases c2 : c < 32
    · rw [Jlex.textLen_cons, if_neg c1, if_neg c1, if_pos c2, if_pos c2]
    by_cases c3 : c = 92
    · subst c3
      rw [if_neg c1, if_neg c2, if_pos rfl]
      rw [escN_cons]
      by_cases c4 : d = 117
      · subst c4
        rw [if_neg (by decide)]
        by_cases c5 : hex4B t = true
        · rw [if_pos ⟨rfl, c5⟩, (Jlex.textLen_u t).1 ((hex4B_iff hbt).1 c5)]
          rfl
        · rw [if_neg (fun h => c5 h.2), (Jlex.textLen_u t).2 (fun h => c5 ((hex4B_iff hbt).2 h))]
      · rw [Jlex.textLen_cons, if_neg c1, if_neg c2, if_pos rfl, if_neg c4]
        by_cases c5 : Jstr.esc d
        · rw [if_pos c5, if_pos c5]
          rfl
        · rw [if_neg c5, if_neg c5, if_neg (fun h => c4 h.1)]
    · rw [Jlex.textLen_cons, if_neg c1, if_neg c1, if_neg c2, if_neg c2, if_neg c3, if_neg c3]
theorem in_esc {c : Int} (h : 0 ≤ c ∧ c < 256) : inB ⟨#[34, 92, 47, 98, 102, 110, 114, 116]⟩ c = decide (Jstr.esc c) := fin_int (p := fun c => inB ⟨#[34, 92, 47, 98, 102, 110, 114, 116]⟩ c = decide (Jstr.esc c)) (by decide +kernel) h
/-- Four digits of base 16 stand there, as the code asks it. -/
theorem run_hex4 {l : List Int} {a : Nat} (h : a + 6 ≤ l.length) : (runN hexB (l.take (a + 6)) (a + 2) : Nat) = a + 6 ↔ hex4B (l.drop (a + 2)) = true := by
  unfold runN
  have e : (l.take (a + 6)).drop (a + 2) = (l.drop (a + 2)).take 4 := by rw [List.drop_take]; congr 1; omega
  rw [e]
  have hl : 4 ≤ (l.drop (a + 2)).length := by rw [List.length_drop]; omega
  generalize l.drop (a + 2) = u at hl
  rcases u with _ | ⟨p, _ | ⟨q, _ | ⟨r, _ | ⟨s, t⟩⟩⟩⟩
  · simp at hl
  · simp at hl
  · simp at hl
  · simp at hl
  · simp only [List.take_succ_cons, List.take_zero, hex4B, List.takeWhile_cons, List.takeWhile_nil]
    cases hexB p <;> cases hexB q <;> cases hexB r <;> cases hexB s <;> simp
def escV (l : List Int) (a : Nat) : Int := ansN a (escN (l.drop (a + 1)))
noncomputable def G_esj : Gam := (((Gam.none.add 34 fun a => F_onej (NT.nz.nzL [.s 1] a)).add 12 fun a => F_runj (NT.nz.nzL [.s 1] a)).add 35 fun a => F_eq (NT.nz.nzL [] a))
theorem known_G_esj : Known Try.prog G_esj := (((Known.none _).addC _ onej_calm).addC _ runj_calm).addC _ eqJ_calm
theorem G_esj_at : (∀ h d a, G_esj 34 h d a = calmE (fun a => F_onej (NT.nz.nzL [.s 1] a)) h a) ∧ (∀ h d a, G_esj 12 h d a = calmE (fun a => F_runj (NT.nz.nzL [.s 1] a)) h a) ∧ (∀ h d a, G_esj 35 h d a = calmE (fun a => F_eq (NT.nz.nzL [] a)) h a) := ⟨fun _ _ _ => rfl, fun _ _ _ => rfl, fun _ _ _ => rfl⟩
theorem escj_body (l : List Int) (hb : Bytes l) (a : Nat) (hl : l.length ≤ 100000000) (ha : a ≤ l.length) : Body Try.prog G_esj (DRun Try.prog G_esj) 33 [.d (bytesD l), vInt .i64 a] (vInt .i64 (escV l a)) := by
  refine Body.of Try.func33 Try.ntmps33 (by kernel_rfl) rfl rfl rfl ?_
  have nz1 : ∀ xs, (NT.s 1).nz (.d (.sl 1 xs)) = .d (.sl 1 xs) := fun xs => rfl
  simp only [bytesD, num_iD, nz1, G_esj_at, calmE, F_onej, F_runj, F_eq, isP, Int.toNat_natCast, AV.flat, AV.flat.flatL, List.length_map, Int.reduceLE, Int.reduceLT, Int.reduceGT, Int.reduceGE, Int.reduceBEq, Int.reduceBNe, Int.reduceEq, Int.reduceToNat, Int.reduceSub, Int.reduceAdd, Int.reduceMul, Int.reducePow, Int.reduceNeg, goTG_val, goTG_new, goTG_up, goTG_none, goG_none, goG_new, goG_up, ne_eq, evK, evH, retHF, DRun_mk, runT_nil, runT_none, runT_guard, goT_val, goT_new, goT_store, goTH_true, goTH_false, evO, keys, Option.toList_some, Option.toList_none, nzL_nil, nzL_cons, nz_k, nz_sl, nz_nil, nz_agg, startL, evC, evV, goE_val, goE_new, goE_store, goH_true, goH_false, goG_val, lk_cons, lk_nil, lk_func, lk_int, lk_bool, lk_string, lk_slice, lk_agg, look_mk, St.effOf, eff, effCall, effBinC, isConst, effBin, effUn, effConv, effPick, effNil, effFold, fold1, effLoad, effStore, effFieldAddr, effField, fieldOf, sliceOf, effIndexAddr, effIndex, effLen, effExtract, effSlice, dats, bnd, effBuild, placesOf, effBuildSlice, effMakeSlice, effAppend, srcOf, fillA, chunk, seg, toD, toDs, put, eqAV, fieldsEq, leafEq, strip, unw, allB, selP_or, selP_and, tis, TyD.agg, AV.cells, AV.cell, allCell, vInt, vBool, vStr, subL_nil, subL_cons, upIds, AV.ids, AV.ids.idsL, AObj.ids, drops, Hp.get_cons, get_nil, retF, resL, one, fz, fz.fzL, List.map_cons, List.map_nil, List.nil_append, List.append_nil, List.cons_append, List.all_cons, List.all_nil, List.length_cons, List.length_nil, List.getElem?_cons_zero, List.getElem?_cons_succ, List.getD_cons_zero, List.getD_cons_succ, List.take_succ_cons, List.take_zero, List.drop_succ_cons, List.drop_zero, List.take_nil, List.drop_nil, List.contains_cons, List.contains_nil, Option.getD_some, Option.getD_none, Option.map_some, Option.map_none, if_true, if_false, true_and, and_true, and_self, or_self, or_false, false_or, false_and, and_false, reduceCtorEq, sel_and, sel_or, decide_eq_true_eq, Bool.and_eq_true, Bool.or_eq_true, Bool.and_true, Bool.true_and, Bool.or_false, Bool.false_or, Bool.true_or, Bool.or_true, Bool.not_true, Bool.not_false, Bool.false_eq_true, implies_true, not_false_eq_true, Nat.reduceLT, Nat.reduceEqDiff, Nat.reduceAdd, Nat.reduceMul, Nat.reduceMod, Nat.reduceLeDiff, Nat.reduceBEq, Nat.zero_add, Nat.add_zero, reduceIte, ↓reduceIte, List.not_mem_nil]
  have e1 : IntKind.i64.wrap ((a : Int) + 1) = ((a + 1 : Nat) : Int) := by rw [w64 (by omega) (by omega)]; omega
  have e2 : IntKind.i64.wrap ((a : Int) + 2) = ((a + 2 : Nat) : Int) := by rw [w64 (by omega) (by omega)]; omega
  have e6 : IntKind.i64.wrap ((a : Int) + 6) = ((a + 6 : Nat) : Int) := by rw [w64 (by omega) (by omega)]; omega
  simp only [e1, e2, e6, Int.toNat_natCast, Nat.sub_zero, ← List.map_take, num_iD, List.length_map, List.length_take]
  have hn : (l.length ≤ 1000000000 ∧ (0 : Int) ≤ ((a + 1 : Nat) : Int)) := ⟨by omega, by omega⟩
  refine ⟨hn, ?_⟩
  have hcond : ((((a + 6 : Nat) : Int)) ≤ (l.length : Int)) ↔ a + 6 ≤ l.length := by omega
  have hrun : ∀ k : Nat, (((k : Int) == ((a + 6 : Nat) : Int)) = true) ↔ k = a + 6 := fun k => by rw [beq_iff_eq]; omega
  simp only [hrun]
  unfold escV
  rcases h : l.drop (a + 1) with _ | ⟨d, t⟩
  · rw [oneV_nil h, oneV_nil h]
    simp only [Bool.false_eq_true, if_false, false_and, false_imp_iff, true_and]
    exact ⟨hn, Sub.refl _⟩
  · have hd := byte_at hb h
    rw [oneV_cons h, oneV_cons h, in_esc hd, in_u hd]
    simp only [decide_eq_true_eq]
    rw [escN_cons]
    by_cases c1 : Jstr.esc d
    · rw [if_pos c1, if_pos c1]
      exact Sub.refl _
    · rw [if_neg c1, if_neg c1]
      refine ⟨hn, fun h6 => ⟨by omega, h6.2⟩, fun h6 => ⟨trivial, by omega, by omega, by omega⟩, ?_⟩
      have ht : l.drop (a + 2) = t := drop_tail h
      by_cases c2 : d = 117 ∧ hex4B t = true
      · have hlen : a + 6 ≤ l.length := by
          have := congrArg List.length ht
          rw [List.length_drop] at this
          have h4 : 4 ≤ t.length := by
            obtain ⟨-, h4⟩ := c2
            rcases t with _ | ⟨p, _ | ⟨q, _ | ⟨r, _ | ⟨s, t⟩⟩⟩⟩
            · exact absurd h4 Bool.false_ne_true
            · exact absurd h4 Bool.false_ne_true
            · exact absurd h4 Bool.false_ne_true
            · exact absurd h4 Bool.false_ne_true
            · simp
          omega
        rw [if_pos ⟨⟨c2.1, by omega⟩, (run_hex4 hlen).2 (by rw [ht]; exact c2.2)⟩, if_pos c2]
        exact Sub.refl _
      · rw [if_neg (fun h6 => c2 ⟨h6.1.1, by rw [← ht]; exact (run_hex4 (by omega)).1 h6.2⟩), if_neg c2]
        exact Sub.refl _
def F_escj : List AV → Option (Prop × AV)
  | [.d (.sl 1 xs), .d (.v (.int .i64 a))] => some (xs = (xs.map numOf).map (iD .u8) ∧ Bytes (xs.map numOf) ∧ xs.length ≤ 100000000 ∧ 0 ≤ a ∧ a ≤ xs.length, vInt .i64 (escV (xs.map numOf) a.toNat))
  | _ => none
theorem escj_calm : ∀ args sc res, F_escj args = some (sc, res) → sc → Calm Try.prog 33 args res := by
  intro args sc res h hs
  unfold F_escj at h
  split at h <;> cases h
  rename_i xs a
  obtain ⟨h1, hb, h2, h3, h4⟩ := hs
  obtain ⟨k, rfl⟩ := Int.eq_ofNat_of_zero_le h3
  have hq := escj_body (xs.map numOf) hb k (by simpa using h2) (by simpa using h4)
  rw [bytesD, ← h1] at hq
  exact known_G_esj.calm mixed rfl rfl hq
theorem escN_le {t : List Int} {m : Nat} (h : escN t = some m) : 2 ≤ m ∧ m ≤ t.length + 1 := by
  rcases t with _ | ⟨d, t⟩
  · exact absurd h (by simp [escN])
  rw [escN_cons] at h
  split at h
  · cases h; simp
  · split at h
    · rename_i h4
      cases h
      obtain ⟨-, h4⟩ := h4
      rcases t with _ | ⟨p, _ | ⟨q, _ | ⟨r, _ | ⟨s, t⟩⟩⟩⟩
      · exact absurd h4 Bool.false_ne_true
      · exact absurd h4 Bool.false_ne_true
      · exact absurd h4 Bool.false_ne_true
      · exact absurd h4 Bool.false_ne_true
      · simp
    · cases h
noncomputable def G_txj : Gam := (Gam.none.add 33 fun a => F_escj (NT.nz.nzL [.s 1] a))
theorem known_G_txj : Known Try.prog G_txj := (Known.none _).addC _ escj_calm
theorem G_txj_at : (∀ h d a, G_txj 33 h d a = calmE (fun a => F_escj (NT.nz.nzL [.s 1] a)) h a) := fun _ _ _ => rfl
theorem txj_body (l : List Int) (hb : Bytes l) (a : Nat) (hl : l.length ≤ 100000000) (ha : a < l.length) : Body Try.prog G_txj (DRun Try.prog G_txj) 22 [.d (bytesD l), vInt .i64 a] (vInt .i64 (ansN (a + 1) (Jlex.textLen (l.drop (a + 1))))) := by
  refine Body.of Try.func22 Try.ntmps22 (by kernel_rfl) rfl rfl rfl ?_
  have nz1 : ∀ xs, (NT.s 1).nz (.d (.sl 1 xs)) = .d (.sl 1 xs) := fun xs => rfl
  simp only [bytesD, num_iD, nz1, G_txj_at, calmE, F_escj, Int.toNat_natCast, AV.flat, AV.flat.flatL, List.length_map, Int.reduceLE, Int.reduceLT, Int.reduceGT, Int.reduceGE, Int.reduceBEq, Int.reduceBNe, Int.reduceEq, Int.reduceToNat, Int.reduceSub, Int.reduceAdd, Int.reduceMul, Int.reducePow, Int.reduceNeg, goTG_val, goTG_new, goTG_up, goTG_none, goG_none, goG_new, goG_up, ne_eq, evK, evH, retHF, DRun_mk, runT_nil, runT_none, runT_guard, goT_val, goT_new, goT_store, goTH_true, goTH_false, evO, keys, Option.toList_some, Option.toList_none, nzL_nil, nzL_cons, nz_k, nz_sl, nz_nil, nz_agg, startL, evC, evV, goE_val, goE_new, goE_store, goH_true, goH_false, goG_val, lk_cons, lk_nil, lk_func, lk_int, lk_bool, lk_string, lk_slice, lk_agg, look_mk, St.effOf, eff, effCall, effBinC, isConst, effBin, effUn, effConv, effPick, effNil, effFold, fold1, effLoad, effStore, effFieldAddr, effField, fieldOf, sliceOf, effIndexAddr, effIndex, effLen, effExtract, effSlice, dats, bnd, effBuild, placesOf, effBuildSlice, effMakeSlice, effAppend, srcOf, fillA, chunk, seg, toD, toDs, put, eqAV, fieldsEq, leafEq, strip, unw, allB, selP_or, selP_and, tis, TyD.agg, AV.cells, AV.cell, allCell, vInt, vBool, vStr, subL_nil, subL_cons, upIds, AV.ids, AV.ids.idsL, AObj.ids, drops, Hp.get_cons, get_nil, retF, resL, one, fz, fz.fzL, List.map_cons, List.map_nil, List.nil_append, List.append_nil, List.cons_append, List.all_cons, List.all_nil, List.length_cons, List.length_nil, List.getElem?_cons_zero, List.getElem?_cons_succ, List.getD_cons_zero, List.getD_cons_succ, List.take_succ_cons, List.take_zero, List.drop_succ_cons, List.drop_zero, List.take_nil, List.drop_nil, List.contains_cons, List.contains_nil, Option.getD_some, Option.getD_none, Option.map_some, Option.map_none, if_true, if_false, true_and, and_true, and_self, or_self, or_false, false_or, false_and, and_false, reduceCtorEq, sel_and, sel_or, decide_eq_true_eq, Bool.and_eq_true, Bool.or_eq_true, Bool.and_true, Bool.true_and, Bool.or_false, Bool.false_or, Bool.true_or, Bool.or_true, Bool.not_true, Bool.not_false, Bool.false_eq_true, implies_true, not_false_eq_true, Nat.reduceLT, Nat.reduceEqDiff, Nat.reduceAdd, Nat.reduceMul, Nat.reduceMod, Nat.reduceLeDiff, Nat.reduceBEq, Nat.zero_add, Nat.add_zero, reduceIte, ↓reduceIte, List.not_mem_nil]
  refine wpc_loop (fun k : Nat => ⟨34, [], [(0, .d (bytesD l)), (1, vInt .i64 k)], []⟩) (fun k => k ≤ l.length ∧ ansN k (Jlex.textLen (l.drop k)) = ansN (a + 1) (Jlex.textLen (l.drop (a + 1)))) (fun k => l.length - k) (a + 1) ⟨ha, rfl⟩ ?_ ?_
  · refine Le.of id [] ?_
    simp only [bytesD, Mt_tup, Mt_agg, Mt_fn, forall_eq, forall_eq_or_imp, ne_eq, List.all_cons, List.all_nil, pr, Nat.reduceLeDiff, slR_nil, slR_cons, hpR_nil, hpR_cells, hpR_row, idsR_nil, idsR_cons, mtE_v, mtE_sl, mtE_nil, mtE_refl, mtE_row, mtE_born, mtE_ptr, mtE_rp, mtE_agg, mtE_tup, mtE_fn, mtE_ep, MtL_nil, MtL_cons, Mt_v, Mt_sl, Mt_nil, Mt_refl, Mt_row, Mt_born, Mt_ptr, MtO_cells, MtO_row, liveIds, distinct, Dat.v.injEq, Dat.sl.injEq, Value.int.injEq, Value.bool.injEq, Value.string.injEq, lk_cons, lk_nil, subL_nil, subL_cons, upIds, AV.ids, AV.ids.idsL, AObj.ids, Hp.get_cons, get_nil, allCell, AV.cell, vInt, vBool, vStr, id, true_and, and_true, and_self, List.append_nil, List.nil_append, List.not_mem_nil, List.mem_cons, or_false, false_or, or_self, not_true_eq_false, not_false_eq_true, false_imp_iff, false_implies, List.map_nil, not_false_eq_true, List.contains_cons, List.contains_nil, Bool.or_false, Bool.false_or, Bool.true_or, Bool.or_true, Bool.and_true, Bool.true_and, implies_true, if_true, if_false, reduceCtorEq, Nat.reduceEqDiff, Nat.reduceBEq, Nat.reduceAdd, reduceIte, ↓reduceIte]
    rw [w64 (by omega) (by omega)]; omega
  · rintro k ⟨hk, hr⟩
    simp only [bytesD, getD_iD, iD, num_iD, nz1, G_txj_at, calmE, F_escj, Int.toNat_natCast, AV.flat, AV.flat.flatL, List.length_map, Int.reduceLE, Int.reduceLT, Int.reduceGT, Int.reduceGE, Int.reduceBEq, Int.reduceBNe, Int.reduceEq, Int.reduceToNat, Int.reduceSub, Int.reduceAdd, Int.reduceMul, Int.reducePow, Int.reduceNeg, goTG_val, goTG_new, goTG_up, goTG_none, goG_none, goG_new, goG_up, ne_eq, evK, evH, retHF, DRun_mk, runT_nil, runT_none, runT_guard, goT_val, goT_new, goT_store, goTH_true, goTH_false, evO, keys, Option.toList_some, Option.toList_none, nzL_nil, nzL_cons, nz_k, nz_sl, nz_nil, nz_agg, startL, evC, evV, goE_val, goE_new, goE_store, goH_true, goH_false, goG_val, lk_cons, lk_nil, lk_func, lk_int, lk_bool, lk_string, lk_slice, lk_agg, look_mk, St.effOf, eff, effCall, effBinC, isConst, effBin, effUn, effConv, effPick, effNil, effFold, fold1, effLoad, effStore, effFieldAddr, effField, fieldOf, sliceOf, effIndexAddr, effIndex, effLen, effExtract, effSlice, dats, bnd, effBuild, placesOf, effBuildSlice, effMakeSlice, effAppend, srcOf, fillA, chunk, seg, toD, toDs, put, eqAV, fieldsEq, leafEq, strip, unw, allB, selP_or, selP_and, tis, TyD.agg, AV.cells, AV.cell, allCell, vInt, vBool, vStr, subL_nil, subL_cons, upIds, AV.ids, AV.ids.idsL, AObj.ids, drops, Hp.get_cons, get_nil, retF, resL, one, fz, fz.fzL, List.map_cons, List.map_nil, List.nil_append, List.append_nil, List.cons_append, List.all_cons, List.all_nil, List.length_cons, List.length_nil, List.getElem?_cons_zero, List.getElem?_cons_succ, List.getD_cons_zero, List.getD_cons_succ, List.take_succ_cons, List.take_zero, List.drop_succ_cons, List.drop_zero, List.take_nil, List.drop_nil, List.contains_cons, List.contains_nil, Option.getD_some, Option.getD_none, Option.map_some, Option.map_none, if_true, if_false, true_and, and_true, and_self, or_self, or_false, false_or, false_and, and_false, reduceCtorEq, sel_and, sel_or, decide_eq_true_eq, Bool.and_eq_true, Bool.or_eq_true, Bool.and_true, Bool.true_and, Bool.or_false, Bool.false_or, Bool.true_or, Bool.or_true, Bool.not_true, Bool.not_false, Bool.false_eq_true, implies_true, not_false_eq_true, Nat.reduceLT, Nat.reduceEqDiff, Nat.reduceAdd, Nat.reduceMul, Nat.reduceMod, Nat.reduceLeDiff, Nat.reduceBEq, Nat.zero_add, Nat.add_zero, reduceIte, ↓reduceIte, List.not_mem_nil]
    by_cases h1 : k < l.length
    · rw [if_pos (by omega)]
      refine ⟨by omega, ?_⟩
      obtain ⟨c, t, h⟩ : ∃ c t, l.drop k = c :: t := by
        rcases h : l.drop k with _ | ⟨c, t⟩
        · have := List.drop_eq_nil_iff.1 h; omega
        · exact ⟨c, t, rfl⟩
      have hc : l.getD k 0 = c := by
        have h2 : l[k]? = some c := by have := congrArg List.head? h; rwa [List.head?_drop] at this
        rw [List.getD_eq_getElem?_getD, h2]; rfl
      have hbt : Bytes t := fun x hx => hb x ((List.drop_sublist k l).subset (by rw [h]; exact List.mem_cons_of_mem _ hx))
      have hlt := congrArg List.length h
      rw [List.length_drop, List.length_cons] at hlt
      rw [h, textLen_step hbt] at hr
      simp only [hc, beq_iff_eq]
      by_cases c1 : c = 34
      · rw [if_pos c1]
        rw [if_pos c1] at hr
        rw [← hr, w64 (by omega) (by omega)]
        exact Sub.refl _
      rw [if_neg c1]
      rw [if_neg c1] at hr
      by_cases c2 : c < 32
      · rw [if_pos c2]
        rw [if_pos c2] at hr
        rw [← hr]
        exact Sub.refl _
      rw [if_neg c2]
      rw [if_neg c2] at hr
      by_cases c3 : c = 92
      · rw [if_pos c3]
        rw [if_pos c3] at hr
        refine ⟨⟨hb, by omega, by omega, by omega⟩, ?_⟩
        have he : escV l k = ansN k (escN t) := by unfold escV; rw [drop_tail h]
        rw [he]
        rcases hesc : escN t with _ | m
        · rw [hesc] at hr
          rw [← hr]
          exact Sub.refl _
        · rw [hesc] at hr
          have hm := escN_le hesc
          simp only [ansN_map] at hr
          rw [if_neg (by show ¬ (((k + m : Nat) : Int) < 0); omega)]
          refine ⟨k + m, by omega, ⟨by omega, ?_⟩, Le.of id [] ?_⟩
          · rw [← hr, ← List.drop_drop, h]
          · simp only [bytesD, Mt_tup, Mt_agg, Mt_fn, forall_eq, forall_eq_or_imp, ne_eq, List.all_cons, List.all_nil, pr, Nat.reduceLeDiff, slR_nil, slR_cons, hpR_nil, hpR_cells, hpR_row, idsR_nil, idsR_cons, mtE_v, mtE_sl, mtE_nil, mtE_refl, mtE_row, mtE_born, mtE_ptr, mtE_rp, mtE_agg, mtE_tup, mtE_fn, mtE_ep, MtL_nil, MtL_cons, Mt_v, Mt_sl, Mt_nil, Mt_refl, Mt_row, Mt_born, Mt_ptr, MtO_cells, MtO_row, liveIds, distinct, Dat.v.injEq, Dat.sl.injEq, Value.int.injEq, Value.bool.injEq, Value.string.injEq, lk_cons, lk_nil, subL_nil, subL_cons, upIds, AV.ids, AV.ids.idsL, AObj.ids, Hp.get_cons, get_nil, allCell, AV.cell, vInt, vBool, vStr, id, true_and, and_true, and_self, List.append_nil, List.nil_append, List.not_mem_nil, List.mem_cons, or_false, false_or, or_self, not_true_eq_false, not_false_eq_true, false_imp_iff, false_implies, List.map_nil, not_false_eq_true, List.contains_cons, List.contains_nil, Bool.or_false, Bool.false_or, Bool.true_or, Bool.or_true, Bool.and_true, Bool.true_and, implies_true, if_true, if_false, reduceCtorEq, Nat.reduceEqDiff, Nat.reduceBEq, Nat.reduceAdd, reduceIte, ↓reduceIte]
            rfl
      · rw [if_neg c3]
        rw [if_neg c3, ansN_map] at hr
        refine ⟨k + 1, by omega, ⟨by omega, by rw [← hr, drop_tail h]⟩, Le.of id [] ?_⟩
        simp only [bytesD, Mt_tup, Mt_agg, Mt_fn, forall_eq, forall_eq_or_imp, ne_eq, List.all_cons, List.all_nil, pr, Nat.reduceLeDiff, slR_nil, slR_cons, hpR_nil, hpR_cells, hpR_row, idsR_nil, idsR_cons, mtE_v, mtE_sl, mtE_nil, mtE_refl, mtE_row, mtE_born, mtE_ptr, mtE_rp, mtE_agg, mtE_tup, mtE_fn, mtE_ep, MtL_nil, MtL_cons, Mt_v, Mt_sl, Mt_nil, Mt_refl, Mt_row, Mt_born, Mt_ptr, MtO_cells, MtO_row, liveIds, distinct, Dat.v.injEq, Dat.sl.injEq, Value.int.injEq, Value.bool.injEq, Value.string.injEq, lk_cons, lk_nil, subL_nil, subL_cons, upIds, AV.ids, AV.ids.idsL, AObj.ids, Hp.get_cons, get_nil, allCell, AV.cell, vInt, vBool, vStr, id, true_and, and_true, and_self, List.append_nil, List.nil_append, List.not_mem_nil, List.mem_cons, or_false, false_or, or_self, not_true_eq_false, not_false_eq_true, false_imp_iff, false_implies, List.map_nil, not_false_eq_true, List.contains_cons, List.contains_nil, Bool.or_false, Bool.false_or, Bool.true_or, Bool.or_true, Bool.and_true, Bool.true_and, implies_true, if_true, if_false, reduceCtorEq, Nat.reduceEqDiff, Nat.reduceBEq, Nat.reduceAdd, reduceIte, ↓reduceIte]
        rw [w64 (by omega) (by omega)]; omega
    · rw [if_neg (by omega)]
      rw [List.drop_eq_nil_of_le (by omega)] at hr
      rw [← hr]
      exact Sub.refl _
def F_txj : List AV → Option (Prop × AV)
  | [.d (.sl 1 xs), .d (.v (.int .i64 a))] => some (xs = (xs.map numOf).map (iD .u8) ∧ Bytes (xs.map numOf) ∧ xs.length ≤ 100000000 ∧ 0 ≤ a ∧ a < xs.length, vInt .i64 (ansN (a.toNat + 1) (Jlex.textLen ((xs.map numOf).drop (a.toNat + 1)))))
  | _ => none
theorem txj_calm : ∀ args sc res, F_txj args = some (sc, res) → sc → Calm Try.prog 22 args res := by
  intro args sc res h hs
  unfold F_txj at h
  split at h <;> cases h
  rename_i xs a
  obtain ⟨h1, hb, h2, h3, h4⟩ := hs
  obtain ⟨k, rfl⟩ := Int.eq_ofNat_of_zero_le h3
  have hq := txj_body (xs.map numOf) hb k (by simpa using h2) (by rw [List.length_map]; omega)
  rw [bytesD, ← h1] at hq
  exact known_G_txj.calm mixed rfl rfl hq
end Go.Proofs.Ytlhhibhcoefolaa.Eng
