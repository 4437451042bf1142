/- Where numbers end (jlex), on the small machine. -/
import Derived.Test.YtlhhibhcoefolaaSJx3
namespace Go.Proofs.Ytlhhibhcoefolaa.Eng
open Go Go.Proofs.Ytlhhibhcoefolaa.Base
set_option maxRecDepth 100000
set_option linter.unusedSimpArgs false
set_option linter.unusedVariables false
noncomputable def G_endj : Gam := (Gam.none.add 34 fun a => F_onej (NT.nz.nzL [.s 1] a))
theorem known_G_endj : Known Try.prog G_endj := (Known.none _).addC _ onej_calm
theorem G_endj_at : (∀ h d a, G_endj 34 h d a = calmE (fun a => F_onej (NT.nz.nzL [.s 1] a)) h a) := fun _ _ _ => rfl
def F_endj : List AV → Option (Prop × AV)
  | [.d (.sl 1 xs), .d (.v (.int .i64 a))] => some (xs = (xs.map numOf).map (iD .u8) ∧ xs.length ≤ 1000000000 ∧ 0 ≤ a, vBool (!oneV goB (xs.map numOf) a.toNat))
  | _ => none
theorem endj_body (l : List Int) (a : Nat) (hl : l.length ≤ 1000000000) : Body Try.prog G_endj (DRun Try.prog G_endj) 36 [.d (bytesD l), vInt .i64 a] (vBool (!oneV goB l a)) := by
  refine Body.of Try.func36 Try.ntmps36 (by kernel_rfl) rfl rfl rfl ?_
  have nz1 : ∀ xs, (NT.s 1).nz (.d (.sl 1 xs)) = .d (.sl 1 xs) := fun xs => rfl
  simp only [bytesD, num_iD, nz1, G_endj_at, calmE, F_onej, isP, Int.toNat_natCast, AV.flat, AV.flat.flatL, List.length_map, Int.reduceLE, Int.reduceLT, Int.reduceGT, Int.reduceGE, Int.reduceBEq, Int.reduceBNe, Int.reduceEq, Int.reduceToNat, Int.reduceSub, Int.reduceAdd, Int.reduceMul, Int.reducePow, Int.reduceNeg, goTG_val, goTG_new, goTG_up, goTG_none, goG_none, goG_new, goG_up, ne_eq, evK, evH, retHF, DRun_mk, runT_nil, runT_none, runT_guard, goT_val, goT_new, goT_store, goTH_true, goTH_false, evO, keys, Option.toList_some, Option.toList_none, nzL_nil, nzL_cons, nz_k, nz_sl, nz_nil, nz_agg, startL, evC, evV, goE_val, goE_new, goE_store, goH_true, goH_false, goG_val, lk_cons, lk_nil, lk_func, lk_int, lk_bool, lk_string, lk_slice, lk_agg, look_mk, St.effOf, eff, effCall, effBinC, isConst, effBin, effUn, effConv, effPick, effNil, effFold, fold1, effLoad, effStore, effFieldAddr, effField, fieldOf, sliceOf, effIndexAddr, effIndex, effLen, effExtract, effSlice, dats, bnd, effBuild, placesOf, effBuildSlice, effMakeSlice, effAppend, srcOf, fillA, chunk, seg, toD, toDs, put, eqAV, fieldsEq, leafEq, strip, unw, allB, selP_or, selP_and, tis, TyD.agg, AV.cells, AV.cell, allCell, vInt, vBool, vStr, subL_nil, subL_cons, upIds, AV.ids, AV.ids.idsL, AObj.ids, drops, Hp.get_cons, get_nil, retF, resL, one, fz, fz.fzL, List.map_cons, List.map_nil, List.nil_append, List.append_nil, List.cons_append, List.all_cons, List.all_nil, List.length_cons, List.length_nil, List.getElem?_cons_zero, List.getElem?_cons_succ, List.getD_cons_zero, List.getD_cons_succ, List.take_succ_cons, List.take_zero, List.drop_succ_cons, List.drop_zero, List.take_nil, List.drop_nil, List.contains_cons, List.contains_nil, Option.getD_some, Option.getD_none, Option.map_some, Option.map_none, if_true, if_false, true_and, and_true, and_self, or_self, or_false, false_or, false_and, and_false, reduceCtorEq, sel_and, sel_or, decide_eq_true_eq, Bool.and_eq_true, Bool.or_eq_true, Bool.and_true, Bool.true_and, Bool.or_false, Bool.false_or, Bool.true_or, Bool.or_true, Bool.not_true, Bool.not_false, Bool.false_eq_true, implies_true, not_false_eq_true, Nat.reduceLT, Nat.reduceEqDiff, Nat.reduceAdd, Nat.reduceMul, Nat.reduceMod, Nat.reduceLeDiff, Nat.reduceBEq, Nat.zero_add, Nat.add_zero, reduceIte, ↓reduceIte, List.not_mem_nil]
  exact ⟨⟨hl, by omega⟩, Sub.refl _⟩
theorem endj_calm : ∀ args sc res, F_endj args = some (sc, res) → sc → Calm Try.prog 36 args res := by
  intro args sc res h hs
  unfold F_endj at h
  split at h <;> cases h
  rename_i xs a
  obtain ⟨h1, h2, h3⟩ := hs
  obtain ⟨k, rfl⟩ := Int.eq_ofNat_of_zero_le h3
  have hb := endj_body (xs.map numOf) k (by simpa using h2)
  rw [bytesD, ← h1] at hb
  exact known_G_endj.calm mixed rfl rfl hb
noncomputable def G_nbj : Gam := ((((Gam.none.add 34 fun a => F_onej (NT.nz.nzL [.s 1] a)).add 12 fun a => F_runj (NT.nz.nzL [.s 1] a)).add 35 fun a => F_eq (NT.nz.nzL [] a)).add 36 fun a => F_endj (NT.nz.nzL [.s 1] a))
theorem known_G_nbj : Known Try.prog G_nbj := ((((Known.none _).addC _ onej_calm).addC _ runj_calm).addC _ eqJ_calm).addC _ endj_calm
theorem G_nbj_at : (∀ h d a, G_nbj 34 h d a = calmE (fun a => F_onej (NT.nz.nzL [.s 1] a)) h a) ∧ (∀ h d a, G_nbj 12 h d a = calmE (fun a => F_runj (NT.nz.nzL [.s 1] a)) h a) ∧ (∀ h d a, G_nbj 35 h d a = calmE (fun a => F_eq (NT.nz.nzL [] a)) h a) ∧ (∀ h d a, G_nbj 36 h d a = calmE (fun a => F_endj (NT.nz.nzL [.s 1] a)) h a) := ⟨fun _ _ _ => rfl, fun _ _ _ => rfl, fun _ _ _ => rfl, fun _ _ _ => rfl⟩
/-- As the code goes on: behind a fraction's digits, or none. -/
def nbE (l : List Int) (a : Nat) : Int :=
  if oneV (inB ⟨#[101, 69]⟩) l a = true then
    let b := if oneV (inB ⟨#[43, 45]⟩) l (a + 1) = true then a + 1 + 1 else a + 1
    if oneV digB l b = false then -1 else if oneV goB l (runN digB l b) = true then -1 else runN digB l b
  else if oneV goB l a = true then -1 else a
def nbF (l : List Int) (a : Nat) : Int :=
  if oneV (inB ⟨#[46]⟩) l a = true then (if oneV digB l (a + 1) = false then -1 else nbE l (runN digB l (a + 1))) else nbE l a
def nbD (l : List Int) (a : Nat) : Int :=
  if oneV (inB ⟨#[48]⟩) l a = true then nbF l (a + 1) else if oneV digB l a = true then nbF l (runN digB l a) else -1
def nbV (l : List Int) (a : Nat) : Int := if oneV (inB ⟨#[45]⟩) l a = true then nbD l (a + 1) else nbD l a
theorem oneV_lt {p : Int → Bool} {l : List Int} {a : Nat} (h : oneV p l a = true) : a < l.length := by
  unfold oneV at h
  rw [Bool.and_eq_true, decide_eq_true_eq] at h
  exact h.1
theorem runN_le {p : Int → Bool} {l : List Int} {a : Nat} (h : a ≤ l.length) : a ≤ runN p l a ∧ runN p l a ≤ l.length := by
  have := (List.takeWhile_sublist (p := p) (l := l.drop a)).length_le
  rw [List.length_drop] at this
  unfold runN; omega
theorem nbj_body (l : List Int) (a : Nat) (hl : l.length ≤ 100000000) (ha : a ≤ l.length) : Body Try.prog G_nbj (DRun Try.prog G_nbj) 24 [.d (bytesD l), vInt .i64 a] (vInt .i64 (nbV l a)) := by
  refine Body.of Try.func24 Try.ntmps24 (by kernel_rfl) rfl rfl rfl ?_
  have nz1 : ∀ xs, (NT.s 1).nz (.d (.sl 1 xs)) = .d (.sl 1 xs) := fun xs => rfl
  simp only [bytesD, num_iD, nz1, G_nbj_at, calmE, F_onej, F_runj, F_eq, F_endj, isP, Int.toNat_natCast, AV.flat, AV.flat.flatL, List.length_map, Int.reduceLE, Int.reduceLT, Int.reduceGT, Int.reduceGE, Int.reduceBEq, Int.reduceBNe, Int.reduceEq, Int.reduceToNat, Int.reduceSub, Int.reduceAdd, Int.reduceMul, Int.reducePow, Int.reduceNeg, goTG_val, goTG_new, goTG_up, goTG_none, goG_none, goG_new, goG_up, ne_eq, evK, evH, retHF, DRun_mk, runT_nil, runT_none, runT_guard, goT_val, goT_new, goT_store, goTH_true, goTH_false, evO, keys, Option.toList_some, Option.toList_none, nzL_nil, nzL_cons, nz_k, nz_sl, nz_nil, nz_agg, startL, evC, evV, goE_val, goE_new, goE_store, goH_true, goH_false, goG_val, lk_cons, lk_nil, lk_func, lk_int, lk_bool, lk_string, lk_slice, lk_agg, look_mk, St.effOf, eff, effCall, effBinC, isConst, effBin, effUn, effConv, effPick, effNil, effFold, fold1, effLoad, effStore, effFieldAddr, effField, fieldOf, sliceOf, effIndexAddr, effIndex, effLen, effExtract, effSlice, dats, bnd, effBuild, placesOf, effBuildSlice, effMakeSlice, effAppend, srcOf, fillA, chunk, seg, toD, toDs, put, eqAV, fieldsEq, leafEq, strip, unw, allB, selP_or, selP_and, tis, TyD.agg, AV.cells, AV.cell, allCell, vInt, vBool, vStr, subL_nil, subL_cons, upIds, AV.ids, AV.ids.idsL, AObj.ids, drops, Hp.get_cons, get_nil, retF, resL, one, fz, fz.fzL, List.map_cons, List.map_nil, List.nil_append, List.append_nil, List.cons_append, List.all_cons, List.all_nil, List.length_cons, List.length_nil, List.getElem?_cons_zero, List.getElem?_cons_succ, List.getD_cons_zero, List.getD_cons_succ, List.take_succ_cons, List.take_zero, List.drop_succ_cons, List.drop_zero, List.take_nil, List.drop_nil, List.contains_cons, List.contains_nil, Option.getD_some, Option.getD_none, Option.map_some, Option.map_none, if_true, if_false, true_and, and_true, and_self, or_self, or_false, false_or, false_and, and_false, reduceCtorEq, sel_and, sel_or, decide_eq_true_eq, Bool.and_eq_true, Bool.or_eq_true, Bool.and_true, Bool.true_and, Bool.or_false, Bool.false_or, Bool.true_or, Bool.or_true, Bool.not_true, Bool.not_false, Bool.false_eq_true, implies_true, not_false_eq_true, Nat.reduceLT, Nat.reduceEqDiff, Nat.reduceAdd, Nat.reduceMul, Nat.reduceMod, Nat.reduceLeDiff, Nat.reduceBEq, Nat.zero_add, Nat.add_zero, reduceIte, ↓reduceIte, List.not_mem_nil]
  have wn : ∀ k : Nat, k ≤ 1000000000 → IntKind.i64.wrap ((k : Int) + 1) = ((k + 1 : Nat) : Int) := fun k hk => by rw [w64 (by omega) (by omega)]; omega
  refine ⟨⟨by omega, by omega⟩, ?_⟩
  unfold nbV nbD nbF nbE
  by_cases c1 : oneV (inB ⟨#[45]⟩) l a = true
  · have h1 := oneV_lt c1
    simp only [c1, wn a (by omega), Int.toNat_natCast, if_true, if_false, Bool.not_true, Bool.not_false, Bool.false_eq_true, Bool.not_eq_true', reduceIte, Bool.true_eq_false]
    refine ⟨by omega, ?_⟩
    by_cases z1 : oneV (inB ⟨#[48]⟩) l (a + 1) = true
    · have h2 := oneV_lt z1
      simp only [z1, wn (a + 1) (by omega), Int.toNat_natCast, if_true, if_false, Bool.not_true, Bool.not_false, Bool.false_eq_true, Bool.not_eq_true', reduceIte, Bool.true_eq_false]
      refine ⟨by omega, ?_⟩
      by_cases f3 : oneV (inB ⟨#[46]⟩) l (a + 1 + 1) = true
      · have h4 := oneV_lt f3
        simp only [f3, wn (a + 1 + 1) (by omega), Int.toNat_natCast, if_true, if_false, Bool.not_true, Bool.not_false, Bool.false_eq_true, Bool.not_eq_true', reduceIte, Bool.true_eq_false]
        refine ⟨by omega, ?_⟩
        by_cases d5 : oneV digB l (a + 1 + 1 + 1) = true
        · have h6 := oneV_lt d5
          have r7 := runN_le (p := digB) (l := l) (a := a + 1 + 1 + 1) (by omega)
          simp only [d5, Int.toNat_natCast, if_true, if_false, Bool.not_true, Bool.not_false, Bool.false_eq_true, Bool.not_eq_true', reduceIte, Bool.true_eq_false]
          refine ⟨by omega, ?_⟩
          refine ⟨by omega, ?_⟩
          by_cases e8 : oneV (inB ⟨#[101, 69]⟩) l (runN digB l (a + 1 + 1 + 1)) = true
          · have h9 := oneV_lt e8
            simp only [e8, wn (runN digB l (a + 1 + 1 + 1)) (by omega), Int.toNat_natCast, if_true, if_false, Bool.not_true, Bool.not_false, Bool.false_eq_true, Bool.not_eq_true', reduceIte, Bool.true_eq_false]
            refine ⟨by omega, ?_⟩
            by_cases e10 : oneV (inB ⟨#[43, 45]⟩) l (runN digB l (a + 1 + 1 + 1) + 1) = true
            · have h11 := oneV_lt e10
              simp only [e10, wn (runN digB l (a + 1 + 1 + 1) + 1) (by omega), Int.toNat_natCast, if_true, if_false, Bool.not_true, Bool.not_false, Bool.false_eq_true, Bool.not_eq_true', reduceIte, Bool.true_eq_false]
              refine ⟨by omega, ?_⟩
              by_cases d12 : oneV digB l (runN digB l (a + 1 + 1 + 1) + 1 + 1) = true
              · have h13 := oneV_lt d12
                have r14 := runN_le (p := digB) (l := l) (a := runN digB l (a + 1 + 1 + 1) + 1 + 1) (by omega)
                simp only [d12, Int.toNat_natCast, if_true, if_false, Bool.not_true, Bool.not_false, Bool.false_eq_true, Bool.not_eq_true', reduceIte, Bool.true_eq_false]
                refine ⟨by omega, ?_⟩
                refine ⟨by omega, ?_⟩
                by_cases g15 : oneV goB l (runN digB l (runN digB l (a + 1 + 1 + 1) + 1 + 1)) = true
                · simp only [g15, Int.toNat_natCast, if_true, if_false, Bool.not_true, Bool.not_false, Bool.false_eq_true, Bool.not_eq_true', reduceIte, Bool.true_eq_false]
                  try exact Sub.refl _
                · rw [Bool.not_eq_true] at g15
                  simp only [g15, Int.toNat_natCast, if_true, if_false, Bool.not_true, Bool.not_false, Bool.false_eq_true, Bool.not_eq_true', reduceIte, Bool.true_eq_false]
                  try exact Sub.refl _
              · rw [Bool.not_eq_true] at d12
                simp only [d12, Int.toNat_natCast, if_true, if_false, Bool.not_true, Bool.not_false, Bool.false_eq_true, Bool.not_eq_true', reduceIte, Bool.true_eq_false]
                try exact Sub.refl _
            · rw [Bool.not_eq_true] at e10
              simp only [e10, Int.toNat_natCast, if_true, if_false, Bool.not_true, Bool.not_false, Bool.false_eq_true, Bool.not_eq_true', reduceIte, Bool.true_eq_false]
              refine ⟨by omega, ?_⟩
              by_cases d16 : oneV digB l (runN digB l (a + 1 + 1 + 1) + 1) = true
              · have h17 := oneV_lt d16
                have r18 := runN_le (p := digB) (l := l) (a := runN digB l (a + 1 + 1 + 1) + 1) (by omega)
                simp only [d16, Int.toNat_natCast, if_true, if_false, Bool.not_true, Bool.not_false, Bool.false_eq_true, Bool.not_eq_true', reduceIte, Bool.true_eq_false]
                refine ⟨by omega, ?_⟩
                refine ⟨by omega, ?_⟩
                by_cases g19 : oneV goB l (runN digB l (runN digB l (a + 1 + 1 + 1) + 1)) = true
                · simp only [g19, Int.toNat_natCast, if_true, if_false, Bool.not_true, Bool.not_false, Bool.false_eq_true, Bool.not_eq_true', reduceIte, Bool.true_eq_false]
                  try exact Sub.refl _
                · rw [Bool.not_eq_true] at g19
                  simp only [g19, Int.toNat_natCast, if_true, if_false, Bool.not_true, Bool.not_false, Bool.false_eq_true, Bool.not_eq_true', reduceIte, Bool.true_eq_false]
                  try exact Sub.refl _
              · rw [Bool.not_eq_true] at d16
                simp only [d16, Int.toNat_natCast, if_true, if_false, Bool.not_true, Bool.not_false, Bool.false_eq_true, Bool.not_eq_true', reduceIte, Bool.true_eq_false]
                try exact Sub.refl _
          · rw [Bool.not_eq_true] at e8
            simp only [e8, Int.toNat_natCast, if_true, if_false, Bool.not_true, Bool.not_false, Bool.false_eq_true, Bool.not_eq_true', reduceIte, Bool.true_eq_false]
            refine ⟨by omega, ?_⟩
            by_cases g20 : oneV goB l (runN digB l (a + 1 + 1 + 1)) = true
            · simp only [g20, Int.toNat_natCast, if_true, if_false, Bool.not_true, Bool.not_false, Bool.false_eq_true, Bool.not_eq_true', reduceIte, Bool.true_eq_false]
              try exact Sub.refl _
            · rw [Bool.not_eq_true] at g20
              simp only [g20, Int.toNat_natCast, if_true, if_false, Bool.not_true, Bool.not_false, Bool.false_eq_true, Bool.not_eq_true', reduceIte, Bool.true_eq_false]
              try exact Sub.refl _
        · rw [Bool.not_eq_true] at d5
          simp only [d5, Int.toNat_natCast, if_true, if_false, Bool.not_true, Bool.not_false, Bool.false_eq_true, Bool.not_eq_true', reduceIte, Bool.true_eq_false]
          try exact Sub.refl _
      · rw [Bool.not_eq_true] at f3
        simp only [f3, Int.toNat_natCast, if_true, if_false, Bool.not_true, Bool.not_false, Bool.false_eq_true, Bool.not_eq_true', reduceIte, Bool.true_eq_false]
        refine ⟨by omega, ?_⟩
        by_cases e21 : oneV (inB ⟨#[101, 69]⟩) l (a + 1 + 1) = true
        · have h22 := oneV_lt e21
          simp only [e21, wn (a + 1 + 1) (by omega), Int.toNat_natCast, if_true, if_false, Bool.not_true, Bool.not_false, Bool.false_eq_true, Bool.not_eq_true', reduceIte, Bool.true_eq_false]
          refine ⟨by omega, ?_⟩
          by_cases e23 : oneV (inB ⟨#[43, 45]⟩) l (a + 1 + 1 + 1) = true
          · have h24 := oneV_lt e23
            simp only [e23, wn (a + 1 + 1 + 1) (by omega), Int.toNat_natCast, if_true, if_false, Bool.not_true, Bool.not_false, Bool.false_eq_true, Bool.not_eq_true', reduceIte, Bool.true_eq_false]
            refine ⟨by omega, ?_⟩
            by_cases d25 : oneV digB l (a + 1 + 1 + 1 + 1) = true
            · have h26 := oneV_lt d25
              have r27 := runN_le (p := digB) (l := l) (a := a + 1 + 1 + 1 + 1) (by omega)
              simp only [d25, Int.toNat_natCast, if_true, if_false, Bool.not_true, Bool.not_false, Bool.false_eq_true, Bool.not_eq_true', reduceIte, Bool.true_eq_false]
              refine ⟨by omega, ?_⟩
              refine ⟨by omega, ?_⟩
              by_cases g28 : oneV goB l (runN digB l (a + 1 + 1 + 1 + 1)) = true
              · simp only [g28, Int.toNat_natCast, if_true, if_false, Bool.not_true, Bool.not_false, Bool.false_eq_true, Bool.not_eq_true', reduceIte, Bool.true_eq_false]
                try exact Sub.refl _
              · rw [Bool.not_eq_true] at g28
                simp only [g28, Int.toNat_natCast, if_true, if_false, Bool.not_true, Bool.not_false, Bool.false_eq_true, Bool.not_eq_true', reduceIte, Bool.true_eq_false]
                try exact Sub.refl _
            · rw [Bool.not_eq_true] at d25
              simp only [d25, Int.toNat_natCast, if_true, if_false, Bool.not_true, Bool.not_false, Bool.false_eq_true, Bool.not_eq_true', reduceIte, Bool.true_eq_false]
              try exact Sub.refl _
          · rw [Bool.not_eq_true] at e23
            simp only [e23, Int.toNat_natCast, if_true, if_false, Bool.not_true, Bool.not_false, Bool.false_eq_true, Bool.not_eq_true', reduceIte, Bool.true_eq_false]
            refine ⟨by omega, ?_⟩
            by_cases d29 : oneV digB l (a + 1 + 1 + 1) = true
            · have h30 := oneV_lt d29
              have r31 := runN_le (p := digB) (l := l) (a := a + 1 + 1 + 1) (by omega)
              simp only [d29, Int.toNat_natCast, if_true, if_false, Bool.not_true, Bool.not_false, Bool.false_eq_true, Bool.not_eq_true', reduceIte, Bool.true_eq_false]
              refine ⟨by omega, ?_⟩
              refine ⟨by omega, ?_⟩
              by_cases g32 : oneV goB l (runN digB l (a + 1 + 1 + 1)) = true
              · simp only [g32, Int.toNat_natCast, if_true, if_false, Bool.not_true, Bool.not_false, Bool.false_eq_true, Bool.not_eq_true', reduceIte, Bool.true_eq_false]
                try exact Sub.refl _
              · rw [Bool.not_eq_true] at g32
                simp only [g32, Int.toNat_natCast, if_true, if_false, Bool.not_true, Bool.not_false, Bool.false_eq_true, Bool.not_eq_true', reduceIte, Bool.true_eq_false]
                try exact Sub.refl _
            · rw [Bool.not_eq_true] at d29
              simp only [d29, Int.toNat_natCast, if_true, if_false, Bool.not_true, Bool.not_false, Bool.false_eq_true, Bool.not_eq_true', reduceIte, Bool.true_eq_false]
              try exact Sub.refl _
        · rw [Bool.not_eq_true] at e21
          simp only [e21, Int.toNat_natCast, if_true, if_false, Bool.not_true, Bool.not_false, Bool.false_eq_true, Bool.not_eq_true', reduceIte, Bool.true_eq_false]
          refine ⟨by omega, ?_⟩
          by_cases g33 : oneV goB l (a + 1 + 1) = true
          · simp only [g33, Int.toNat_natCast, if_true, if_false, Bool.not_true, Bool.not_false, Bool.false_eq_true, Bool.not_eq_true', reduceIte, Bool.true_eq_false]
            try exact Sub.refl _
          · rw [Bool.not_eq_true] at g33
            simp only [g33, Int.toNat_natCast, if_true, if_false, Bool.not_true, Bool.not_false, Bool.false_eq_true, Bool.not_eq_true', reduceIte, Bool.true_eq_false]
            try exact Sub.refl _
    · rw [Bool.not_eq_true] at z1
      simp only [z1, Int.toNat_natCast, if_true, if_false, Bool.not_true, Bool.not_false, Bool.false_eq_true, Bool.not_eq_true', reduceIte, Bool.true_eq_false]
      refine ⟨by omega, ?_⟩
      by_cases d34 : oneV digB l (a + 1) = true
      · have h35 := oneV_lt d34
        have r36 := runN_le (p := digB) (l := l) (a := a + 1) (by omega)
        simp only [d34, Int.toNat_natCast, if_true, if_false, Bool.not_true, Bool.not_false, Bool.false_eq_true, Bool.not_eq_true', reduceIte, Bool.true_eq_false]
        refine ⟨by omega, ?_⟩
        refine ⟨by omega, ?_⟩
        by_cases f37 : oneV (inB ⟨#[46]⟩) l (runN digB l (a + 1)) = true
        · have h38 := oneV_lt f37
          simp only [f37, wn (runN digB l (a + 1)) (by omega), Int.toNat_natCast, if_true, if_false, Bool.not_true, Bool.not_false, Bool.false_eq_true, Bool.not_eq_true', reduceIte, Bool.true_eq_false]
          refine ⟨by omega, ?_⟩
          by_cases d39 : oneV digB l (runN digB l (a + 1) + 1) = true
          · have h40 := oneV_lt d39
            have r41 := runN_le (p := digB) (l := l) (a := runN digB l (a + 1) + 1) (by omega)
            simp only [d39, Int.toNat_natCast, if_true, if_false, Bool.not_true, Bool.not_false, Bool.false_eq_true, Bool.not_eq_true', reduceIte, Bool.true_eq_false]
            refine ⟨by omega, ?_⟩
            refine ⟨by omega, ?_⟩
            by_cases e42 : oneV (inB ⟨#[101, 69]⟩) l (runN digB l (runN digB l (a + 1) + 1)) = true
            · have h43 := oneV_lt e42
              simp only [e42, wn (runN digB l (runN digB l (a + 1) + 1)) (by omega), Int.toNat_natCast, if_true, if_false, Bool.not_true, Bool.not_false, Bool.false_eq_true, Bool.not_eq_true', reduceIte, Bool.true_eq_false]
              refine ⟨by omega, ?_⟩
              by_cases e44 : oneV (inB ⟨#[43, 45]⟩) l (runN digB l (runN digB l (a + 1) + 1) + 1) = true
              · have h45 := oneV_lt e44
                simp only [e44, wn (runN digB l (runN digB l (a + 1) + 1) + 1) (by omega), Int.toNat_natCast, if_true, if_false, Bool.not_true, Bool.not_false, Bool.false_eq_true, Bool.not_eq_true', reduceIte, Bool.true_eq_false]
                refine ⟨by omega, ?_⟩
                by_cases d46 : oneV digB l (runN digB l (runN digB l (a + 1) + 1) + 1 + 1) = true
                · have h47 := oneV_lt d46
                  have r48 := runN_le (p := digB) (l := l) (a := runN digB l (runN digB l (a + 1) + 1) + 1 + 1) (by omega)
                  simp only [d46, Int.toNat_natCast, if_true, if_false, Bool.not_true, Bool.not_false, Bool.false_eq_true, Bool.not_eq_true', reduceIte, Bool.true_eq_false]
                  refine ⟨by omega, ?_⟩
                  refine ⟨by omega, ?_⟩
                  by_cases g49 : oneV goB l (runN digB l (runN digB l (runN digB l (a + 1) + 1) + 1 + 1)) = true
                  · simp only [g49, Int.toNat_natCast, if_true, if_false, Bool.not_true, Bool.not_false, Bool.false_eq_true, Bool.not_eq_true', reduceIte, Bool.true_eq_false]
                    try exact Sub.refl _
                  · rw [Bool.not_eq_true] at g49
                    simp only [g49, Int.toNat_natCast, if_true, if_false, Bool.not_true, Bool.not_false, Bool.false_eq_true, Bool.not_eq_true', reduceIte, Bool.true_eq_false]
                    try exact Sub.refl _
                · rw [Bool.not_eq_true] at d46
                  simp only [d46, Int.toNat_natCast, if_true, if_false, Bool.not_true, Bool.not_false, Bool.false_eq_true, Bool.not_eq_true', reduceIte, Bool.true_eq_false]
                  try exact Sub.refl _
              · rw [Bool.not_eq_true] at e44
                simp only [e44, Int.toNat_natCast, if_true, if_false, Bool.not_true, Bool.not_false, Bool.false_eq_true, Bool.not_eq_true', reduceIte, Bool.true_eq_false]
                refine ⟨by omega, ?_⟩
                by_cases d50 : oneV digB l (runN digB l (runN digB l (a + 1) + 1) + 1) = true
                · have h51 := oneV_lt d50
                  have r52 := runN_le (p := digB) (l := l) (a := runN digB l (runN digB l (a + 1) + 1) + 1) (by omega)
                  simp only [d50, Int.toNat_natCast, if_true, if_false, Bool.not_true, Bool.not_false, Bool.false_eq_true, Bool.not_eq_true', reduceIte, Bool.true_eq_false]
                  refine ⟨by omega, ?_⟩
                  refine ⟨by omega, ?_⟩
                  by_cases g53 : oneV goB l (runN digB l (runN digB l (runN digB l (a + 1) + 1) + 1)) = true
                  · simp only [g53, Int.toNat_natCast, if_true, if_false, Bool.not_true, Bool.not_false, Bool.false_eq_true, Bool.not_eq_true', reduceIte, Bool.true_eq_false]
                    try exact Sub.refl _
                  · rw [Bool.not_eq_true] at g53
                    simp only [g53, Int.toNat_natCast, if_true, if_false, Bool.not_true, Bool.not_false, Bool.false_eq_true, Bool.not_eq_true', reduceIte, Bool.true_eq_false]
                    try exact Sub.refl _
                · rw [Bool.not_eq_true] at d50
                  simp only [d50, Int.toNat_natCast, if_true, if_false, Bool.not_true, Bool.not_false, Bool.false_eq_true, Bool.not_eq_true', reduceIte, Bool.true_eq_false]
                  try exact Sub.refl _
            · rw [Bool.not_eq_true] at e42
              simp only [e42, Int.toNat_natCast, if_true, if_false, Bool.not_true, Bool.not_false, Bool.false_eq_true, Bool.not_eq_true', reduceIte, Bool.true_eq_false]
              refine ⟨by omega, ?_⟩
              by_cases g54 : oneV goB l (runN digB l (runN digB l (a + 1) + 1)) = true
              · simp only [g54, Int.toNat_natCast, if_true, if_false, Bool.not_true, Bool.not_false, Bool.false_eq_true, Bool.not_eq_true', reduceIte, Bool.true_eq_false]
                try exact Sub.refl _
              · rw [Bool.not_eq_true] at g54
                simp only [g54, Int.toNat_natCast, if_true, if_false, Bool.not_true, Bool.not_false, Bool.false_eq_true, Bool.not_eq_true', reduceIte, Bool.true_eq_false]
                try exact Sub.refl _
          · rw [Bool.not_eq_true] at d39
            simp only [d39, Int.toNat_natCast, if_true, if_false, Bool.not_true, Bool.not_false, Bool.false_eq_true, Bool.not_eq_true', reduceIte, Bool.true_eq_false]
            try exact Sub.refl _
        · rw [Bool.not_eq_true] at f37
          simp only [f37, Int.toNat_natCast, if_true, if_false, Bool.not_true, Bool.not_false, Bool.false_eq_true, Bool.not_eq_true', reduceIte, Bool.true_eq_false]
          refine ⟨by omega, ?_⟩
          by_cases e55 : oneV (inB ⟨#[101, 69]⟩) l (runN digB l (a + 1)) = true
          · have h56 := oneV_lt e55
            simp only [e55, wn (runN digB l (a + 1)) (by omega), Int.toNat_natCast, if_true, if_false, Bool.not_true, Bool.not_false, Bool.false_eq_true, Bool.not_eq_true', reduceIte, Bool.true_eq_false]
            refine ⟨by omega, ?_⟩
            by_cases e57 : oneV (inB ⟨#[43, 45]⟩) l (runN digB l (a + 1) + 1) = true
            · have h58 := oneV_lt e57
              simp only [e57, wn (runN digB l (a + 1) + 1) (by omega), Int.toNat_natCast, if_true, if_false, Bool.not_true, Bool.not_false, Bool.false_eq_true, Bool.not_eq_true', reduceIte, Bool.true_eq_false]
              refine ⟨by omega, ?_⟩
              by_cases d59 : oneV digB l (runN digB l (a + 1) + 1 + 1) = true
              · have h60 := oneV_lt d59
                have r61 := runN_le (p := digB) (l := l) (a := runN digB l (a + 1) + 1 + 1) (by omega)
                simp only [d59, Int.toNat_natCast, if_true, if_false, Bool.not_true, Bool.not_false, Bool.false_eq_true, Bool.not_eq_true', reduceIte, Bool.true_eq_false]
                refine ⟨by omega, ?_⟩
                refine ⟨by omega, ?_⟩
                by_cases g62 : oneV goB l (runN digB l (runN digB l (a + 1) + 1 + 1)) = true
                · simp only [g62, Int.toNat_natCast, if_true, if_false, Bool.not_true, Bool.not_false, Bool.false_eq_true, Bool.not_eq_true', reduceIte, Bool.true_eq_false]
                  try exact Sub.refl _
                · rw [Bool.not_eq_true] at g62
                  simp only [g62, Int.toNat_natCast, if_true, if_false, Bool.not_true, Bool.not_false, Bool.false_eq_true, Bool.not_eq_true', reduceIte, Bool.true_eq_false]
                  try exact Sub.refl _
              · rw [Bool.not_eq_true] at d59
                simp only [d59, Int.toNat_natCast, if_true, if_false, Bool.not_true, Bool.not_false, Bool.false_eq_true, Bool.not_eq_true', reduceIte, Bool.true_eq_false]
                try exact Sub.refl _
            · rw [Bool.not_eq_true] at e57
              simp only [e57, Int.toNat_natCast, if_true, if_false, Bool.not_true, Bool.not_false, Bool.false_eq_true, Bool.not_eq_true', reduceIte, Bool.true_eq_false]
              refine ⟨by omega, ?_⟩
              by_cases d63 : oneV digB l (runN digB l (a + 1) + 1) = true
              · have h64 := oneV_lt d63
                have r65 := runN_le (p := digB) (l := l) (a := runN digB l (a + 1) + 1) (by omega)
                simp only [d63, Int.toNat_natCast, if_true, if_false, Bool.not_true, Bool.not_false, Bool.false_eq_true, Bool.not_eq_true', reduceIte, Bool.true_eq_false]
                refine ⟨by omega, ?_⟩
                refine ⟨by omega, ?_⟩
                by_cases g66 : oneV goB l (runN digB l (runN digB l (a + 1) + 1)) = true
                · simp only [g66, Int.toNat_natCast, if_true, if_false, Bool.not_true, Bool.not_false, Bool.false_eq_true, Bool.not_eq_true', reduceIte, Bool.true_eq_false]
                  try exact Sub.refl _
                · rw [Bool.not_eq_true] at g66
                  simp only [g66, Int.toNat_natCast, if_true, if_false, Bool.not_true, Bool.not_false, Bool.false_eq_true, Bool.not_eq_true', reduceIte, Bool.true_eq_false]
                  try exact Sub.refl _
              · rw [Bool.not_eq_true] at d63
                simp only [d63, Int.toNat_natCast, if_true, if_false, Bool.not_true, Bool.not_false, Bool.false_eq_true, Bool.not_eq_true', reduceIte, Bool.true_eq_false]
                try exact Sub.refl _
          · rw [Bool.not_eq_true] at e55
            simp only [e55, Int.toNat_natCast, if_true, if_false, Bool.not_true, Bool.not_false, Bool.false_eq_true, Bool.not_eq_true', reduceIte, Bool.true_eq_false]
            refine ⟨by omega, ?_⟩
            by_cases g67 : oneV goB l (runN digB l (a + 1)) = true
            · simp only [g67, Int.toNat_natCast, if_true, if_false, Bool.not_true, Bool.not_false, Bool.false_eq_true, Bool.not_eq_true', reduceIte, Bool.true_eq_false]
              try exact Sub.refl _
            · rw [Bool.not_eq_true] at g67
              simp only [g67, Int.toNat_natCast, if_true, if_false, Bool.not_true, Bool.not_false, Bool.false_eq_true, Bool.not_eq_true', reduceIte, Bool.true_eq_false]
              try exact Sub.refl _
      · rw [Bool.not_eq_true] at d34
        simp only [d34, Int.toNat_natCast, if_true, if_false, Bool.not_true, Bool.not_false, Bool.false_eq_true, Bool.not_eq_true', reduceIte, Bool.true_eq_false]
        try exact Sub.refl _
  · rw [Bool.not_eq_true] at c1
    simp only [c1, Int.toNat_natCast, if_true, if_false, Bool.not_true, Bool.not_false, Bool.false_eq_true, Bool.not_eq_true', reduceIte, Bool.true_eq_false]
    refine ⟨by omega, ?_⟩
    by_cases z68 : oneV (inB ⟨#[48]⟩) l (a) = true
    · have h69 := oneV_lt z68
      simp only [z68, wn (a) (by omega), Int.toNat_natCast, if_true, if_false, Bool.not_true, Bool.not_false, Bool.false_eq_true, Bool.not_eq_true', reduceIte, Bool.true_eq_false]
      refine ⟨by omega, ?_⟩
      by_cases f70 : oneV (inB ⟨#[46]⟩) l (a + 1) = true
      · have h71 := oneV_lt f70
        simp only [f70, wn (a + 1) (by omega), Int.toNat_natCast, if_true, if_false, Bool.not_true, Bool.not_false, Bool.false_eq_true, Bool.not_eq_true', reduceIte, Bool.true_eq_false]
        refine ⟨by omega, ?_⟩
        by_cases d72 : oneV digB l (a + 1 + 1) = true
        · have h73 := oneV_lt d72
          have r74 := runN_le (p := digB) (l := l) (a := a + 1 + 1) (by omega)
          simp only [d72, Int.toNat_natCast, if_true, if_false, Bool.not_true, Bool.not_false, Bool.false_eq_true, Bool.not_eq_true', reduceIte, Bool.true_eq_false]
          refine ⟨by omega, ?_⟩
          refine ⟨by omega, ?_⟩
          by_cases e75 : oneV (inB ⟨#[101, 69]⟩) l (runN digB l (a + 1 + 1)) = true
          · have h76 := oneV_lt e75
            simp only [e75, wn (runN digB l (a + 1 + 1)) (by omega), Int.toNat_natCast, if_true, if_false, Bool.not_true, Bool.not_false, Bool.false_eq_true, Bool.not_eq_true', reduceIte, Bool.true_eq_false]
            refine ⟨by omega, ?_⟩
            by_cases e77 : oneV (inB ⟨#[43, 45]⟩) l (runN digB l (a + 1 + 1) + 1) = true
            · have h78 := oneV_lt e77
              simp only [e77, wn (runN digB l (a + 1 + 1) + 1) (by omega), Int.toNat_natCast, if_true, if_false, Bool.not_true, Bool.not_false, Bool.false_eq_true, Bool.not_eq_true', reduceIte, Bool.true_eq_false]
              refine ⟨by omega, ?_⟩
              by_cases d79 : oneV digB l (runN digB l (a + 1 + 1) + 1 + 1) = true
              · have h80 := oneV_lt d79
                have r81 := runN_le (p := digB) (l := l) (a := runN digB l (a + 1 + 1) + 1 + 1) (by omega)
                simp only [d79, Int.toNat_natCast, if_true, if_false, Bool.not_true, Bool.not_false, Bool.false_eq_true, Bool.not_eq_true', reduceIte, Bool.true_eq_false]
                refine ⟨by omega, ?_⟩
                refine ⟨by omega, ?_⟩
                by_cases g82 : oneV goB l (runN digB l (runN digB l (a + 1 + 1) + 1 + 1)) = true
                · simp only [g82, Int.toNat_natCast, if_true, if_false, Bool.not_true, Bool.not_false, Bool.false_eq_true, Bool.not_eq_true', reduceIte, Bool.true_eq_false]
                  try exact Sub.refl _
                · rw [Bool.not_eq_true] at g82
                  simp only [g82, Int.toNat_natCast, if_true, if_false, Bool.not_true, Bool.not_false, Bool.false_eq_true, Bool.not_eq_true', reduceIte, Bool.true_eq_false]
                  try exact Sub.refl _
              · rw [Bool.not_eq_true] at d79
                simp only [d79, Int.toNat_natCast, if_true, if_false, Bool.not_true, Bool.not_false, Bool.false_eq_true, Bool.not_eq_true', reduceIte, Bool.true_eq_false]
                try exact Sub.refl _
            · rw [Bool.not_eq_true] at e77
              simp only [e77, Int.toNat_natCast, if_true, if_false, Bool.not_true, Bool.not_false, Bool.false_eq_true, Bool.not_eq_true', reduceIte, Bool.true_eq_false]
              refine ⟨by omega, ?_⟩
              by_cases d83 : oneV digB l (runN digB l (a + 1 + 1) + 1) = true
              · have h84 := oneV_lt d83
                have r85 := runN_le (p := digB) (l := l) (a := runN digB l (a + 1 + 1) + 1) (by omega)
                simp only [d83, Int.toNat_natCast, if_true, if_false, Bool.not_true, Bool.not_false, Bool.false_eq_true, Bool.not_eq_true', reduceIte, Bool.true_eq_false]
                refine ⟨by omega, ?_⟩
                refine ⟨by omega, ?_⟩
                by_cases g86 : oneV goB l (runN digB l (runN digB l (a + 1 + 1) + 1)) = true
                · simp only [g86, Int.toNat_natCast, if_true, if_false, Bool.not_true, Bool.not_false, Bool.false_eq_true, Bool.not_eq_true', reduceIte, Bool.true_eq_false]
                  try exact Sub.refl _
                · rw [Bool.not_eq_true] at g86
                  simp only [g86, Int.toNat_natCast, if_true, if_false, Bool.not_true, Bool.not_false, Bool.false_eq_true, Bool.not_eq_true', reduceIte, Bool.true_eq_false]
                  try exact Sub.refl _
              · rw [Bool.not_eq_true] at d83
                simp only [d83, Int.toNat_natCast, if_true, if_false, Bool.not_true, Bool.not_false, Bool.false_eq_true, Bool.not_eq_true', reduceIte, Bool.true_eq_false]
                try exact Sub.refl _
          · rw [Bool.not_eq_true] at e75
            simp only [e75, Int.toNat_natCast, if_true, if_false, Bool.not_true, Bool.not_false, Bool.false_eq_true, Bool.not_eq_true', reduceIte, Bool.true_eq_false]
            refine ⟨by omega, ?_⟩
            by_cases g87 : oneV goB l (runN digB l (a + 1 + 1)) = true
            · simp only [g87, Int.toNat_natCast, if_true, if_false, Bool.not_true, Bool.not_false, Bool.false_eq_true, Bool.not_eq_true', reduceIte, Bool.true_eq_false]
              try exact Sub.refl _
            · rw [Bool.not_eq_true] at g87
              simp only [g87, Int.toNat_natCast, if_true, if_false, Bool.not_true, Bool.not_false, Bool.false_eq_true, Bool.not_eq_true', reduceIte, Bool.true_eq_false]
              try exact Sub.refl _
        · rw [Bool.not_eq_true] at d72
          simp only [d72, Int.toNat_natCast, if_true, if_false, Bool.not_true, Bool.not_false, Bool.false_eq_true, Bool.not_eq_true', reduceIte, Bool.true_eq_false]
          try exact Sub.refl _
      · rw [Bool.not_eq_true] at f70
        simp only [f70, Int.toNat_natCast, if_true, if_false, Bool.not_true, Bool.not_false, Bool.false_eq_true, Bool.not_eq_true', reduceIte, Bool.true_eq_false]
        refine ⟨by omega, ?_⟩
        by_cases e88 : oneV (inB ⟨#[101, 69]⟩) l (a + 1) = true
        · have h89 := oneV_lt e88
          simp only [e88, wn (a + 1) (by omega), Int.toNat_natCast, if_true, if_false, Bool.not_true, Bool.not_false, Bool.false_eq_true, Bool.not_eq_true', reduceIte, Bool.true_eq_false]
          refine ⟨by omega, ?_⟩
          by_cases e90 : oneV (inB ⟨#[43, 45]⟩) l (a + 1 + 1) = true
          · have h91 := oneV_lt e90
            simp only [e90, wn (a + 1 + 1) (by omega), Int.toNat_natCast, if_true, if_false, Bool.not_true, Bool.not_false, Bool.false_eq_true, Bool.not_eq_true', reduceIte, Bool.true_eq_false]
            refine ⟨by omega, ?_⟩
            by_cases d92 : oneV digB l (a + 1 + 1 + 1) = true
            · have h93 := oneV_lt d92
              have r94 := runN_le (p := digB) (l := l) (a := a + 1 + 1 + 1) (by omega)
              simp only [d92, Int.toNat_natCast, if_true, if_false, Bool.not_true, Bool.not_false, Bool.false_eq_true, Bool.not_eq_true', reduceIte, Bool.true_eq_false]
              refine ⟨by omega, ?_⟩
              refine ⟨by omega, ?_⟩
              by_cases g95 : oneV goB l (runN digB l (a + 1 + 1 + 1)) = true
              · simp only [g95, Int.toNat_natCast, if_true, if_false, Bool.not_true, Bool.not_false, Bool.false_eq_true, Bool.not_eq_true', reduceIte, Bool.true_eq_false]
                try exact Sub.refl _
              · rw [Bool.not_eq_true] at g95
                simp only [g95, Int.toNat_natCast, if_true, if_false, Bool.not_true, Bool.not_false, Bool.false_eq_true, Bool.not_eq_true', reduceIte, Bool.true_eq_false]
                try exact Sub.refl _
            · rw [Bool.not_eq_true] at d92
              simp only [d92, Int.toNat_natCast, if_true, if_false, Bool.not_true, Bool.not_false, Bool.false_eq_true, Bool.not_eq_true', reduceIte, Bool.true_eq_false]
              try exact Sub.refl _
          · rw [Bool.not_eq_true] at e90
            simp only [e90, Int.toNat_natCast, if_true, if_false, Bool.not_true, Bool.not_false, Bool.false_eq_true, Bool.not_eq_true', reduceIte, Bool.true_eq_false]
            refine ⟨by omega, ?_⟩
            by_cases d96 : oneV digB l (a + 1 + 1) = true
            · have h97 := oneV_lt d96
              have r98 := runN_le (p := digB) (l := l) (a := a + 1 + 1) (by omega)
              simp only [d96, Int.toNat_natCast, if_true, if_false, Bool.not_true, Bool.not_false, Bool.false_eq_true, Bool.not_eq_true', reduceIte, Bool.true_eq_false]
              refine ⟨by omega, ?_⟩
              refine ⟨by omega, ?_⟩
              by_cases g99 : oneV goB l (runN digB l (a + 1 + 1)) = true
              · simp only [g99, Int.toNat_natCast, if_true, if_false, Bool.not_true, Bool.not_false, Bool.false_eq_true, Bool.not_eq_true', reduceIte, Bool.true_eq_false]
                try exact Sub.refl _
              · rw [Bool.not_eq_true] at g99
                simp only [g99, Int.toNat_natCast, if_true, if_false, Bool.not_true, Bool.not_false, Bool.false_eq_true, Bool.not_eq_true', reduceIte, Bool.true_eq_false]
                try exact Sub.refl _
            · rw [Bool.not_eq_true] at d96
              simp only [d96, Int.toNat_natCast, if_true, if_false, Bool.not_true, Bool.not_false, Bool.false_eq_true, Bool.not_eq_true', reduceIte, Bool.true_eq_false]
              try exact Sub.refl _
        · rw [Bool.not_eq_true] at e88
          simp only [e88, Int.toNat_natCast, if_true, if_false, Bool.not_true, Bool.not_false, Bool.false_eq_true, Bool.not_eq_true', reduceIte, Bool.true_eq_false]
          refine ⟨by omega, ?_⟩
          by_cases g100 : oneV goB l (a + 1) = true
          · simp only [g100, Int.toNat_natCast, if_true, if_false, Bool.not_true, Bool.not_false, Bool.false_eq_true, Bool.not_eq_true', reduceIte, Bool.true_eq_false]
            try exact Sub.refl _
          · rw [Bool.not_eq_true] at g100
            simp only [g100, Int.toNat_natCast, if_true, if_false, Bool.not_true, Bool.not_false, Bool.false_eq_true, Bool.not_eq_true', reduceIte, Bool.true_eq_false]
            try exact Sub.refl _
    · rw [Bool.not_eq_true] at z68
      simp only [z68, Int.toNat_natCast, if_true, if_false, Bool.not_true, Bool.not_false, Bool.false_eq_true, Bool.not_eq_true', reduceIte, Bool.true_eq_false]
      refine ⟨by omega, ?_⟩
      by_cases d101 : oneV digB l (a) = true
      · have h102 := oneV_lt d101
        have r103 := runN_le (p := digB) (l := l) (a := a) (by omega)
        simp only [d101, Int.toNat_natCast, if_true, if_false, Bool.not_true, Bool.not_false, Bool.false_eq_true, Bool.not_eq_true', reduceIte, Bool.true_eq_false]
        refine ⟨by omega, ?_⟩
        refine ⟨by omega, ?_⟩
        by_cases f104 : oneV (inB ⟨#[46]⟩) l (runN digB l (a)) = true
        · have h105 := oneV_lt f104
          simp only [f104, wn (runN digB l (a)) (by omega), Int.toNat_natCast, if_true, if_false, Bool.not_true, Bool.not_false, Bool.false_eq_true, Bool.not_eq_true', reduceIte, Bool.true_eq_false]
          refine ⟨by omega, ?_⟩
          by_cases d106 : oneV digB l (runN digB l (a) + 1) = true
          · have h107 := oneV_lt d106
            have r108 := runN_le (p := digB) (l := l) (a := runN digB l (a) + 1) (by omega)
            simp only [d106, Int.toNat_natCast, if_true, if_false, Bool.not_true, Bool.not_false, Bool.false_eq_true, Bool.not_eq_true', reduceIte, Bool.true_eq_false]
            refine ⟨by omega, ?_⟩
            refine ⟨by omega, ?_⟩
            by_cases e109 : oneV (inB ⟨#[101, 69]⟩) l (runN digB l (runN digB l (a) + 1)) = true
            · have h110 := oneV_lt e109
              simp only [e109, wn (runN digB l (runN digB l (a) + 1)) (by omega), Int.toNat_natCast, if_true, if_false, Bool.not_true, Bool.not_false, Bool.false_eq_true, Bool.not_eq_true', reduceIte, Bool.true_eq_false]
              refine ⟨by omega, ?_⟩
              by_cases e111 : oneV (inB ⟨#[43, 45]⟩) l (runN digB l (runN digB l (a) + 1) + 1) = true
              · have h112 := oneV_lt e111
                simp only [e111, wn (runN digB l (runN digB l (a) + 1) + 1) (by omega), Int.toNat_natCast, if_true, if_false, Bool.not_true, Bool.not_false, Bool.false_eq_true, Bool.not_eq_true', reduceIte, Bool.true_eq_false]
                refine ⟨by omega, ?_⟩
                by_cases d113 : oneV digB l (runN digB l (runN digB l (a) + 1) + 1 + 1) = true
                · have h114 := oneV_lt d113
                  have r115 := runN_le (p := digB) (l := l) (a := runN digB l (runN digB l (a) + 1) + 1 + 1) (by omega)
                  simp only [d113, Int.toNat_natCast, if_true, if_false, Bool.not_true, Bool.not_false, Bool.false_eq_true, Bool.not_eq_true', reduceIte, Bool.true_eq_false]
                  refine ⟨by omega, ?_⟩
                  refine ⟨by omega, ?_⟩
                  by_cases g116 : oneV goB l (runN digB l (runN digB l (runN digB l (a) + 1) + 1 + 1)) = true
                  · simp only [g116, Int.toNat_natCast, if_true, if_false, Bool.not_true, Bool.not_false, Bool.false_eq_true, Bool.not_eq_true', reduceIte, Bool.true_eq_false]
                    try exact Sub.refl _
                  · rw [Bool.not_eq_true] at g116
                    simp only [g116, Int.toNat_natCast, if_true, if_false, Bool.not_true, Bool.not_false, Bool.false_eq_true, Bool.not_eq_true', reduceIte, Bool.true_eq_false]
                    try exact Sub.refl _
                · rw [Bool.not_eq_true] at d113
                  simp only [d113, Int.toNat_natCast, if_true, if_false, Bool.not_true, Bool.not_false, Bool.false_eq_true, Bool.not_eq_true', reduceIte, Bool.true_eq_false]
                  try exact Sub.refl _
              · rw [Bool.not_eq_true] at e111
                simp only [e111, Int.toNat_natCast, if_true, if_false, Bool.not_true, Bool.not_false, Bool.false_eq_true, Bool.not_eq_true', reduceIte, Bool.true_eq_false]
                refine ⟨by omega, ?_⟩
                by_cases d117 : oneV digB l (runN digB l (runN digB l (a) + 1) + 1) = true
                · have h118 := oneV_lt d117
                  have r119 := runN_le (p := digB) (l := l) (a := runN digB l (runN digB l (a) + 1) + 1) (by omega)
                  simp only [d117, Int.toNat_natCast, if_true, if_false, Bool.not_true, Bool.not_false, Bool.false_eq_true, Bool.not_eq_true', reduceIte, Bool.true_eq_false]
                  refine ⟨by omega, ?_⟩
                  refine ⟨by omega, ?_⟩
                  by_cases g120 : oneV goB l (runN digB l (runN digB l (runN digB l (a) + 1) + 1)) = true
                  · simp only [g120, Int.toNat_natCast, if_true, if_false, Bool.not_true, Bool.not_false, Bool.false_eq_true, Bool.not_eq_true', reduceIte, Bool.true_eq_false]
                    try exact Sub.refl _
                  · rw [Bool.not_eq_true] at g120
                    simp only [g120, Int.toNat_natCast, if_true, if_false, Bool.not_true, Bool.not_false, Bool.false_eq_true, Bool.not_eq_true', reduceIte, Bool.true_eq_false]
                    try exact Sub.refl _
                · rw [Bool.not_eq_true] at d117
                  simp only [d117, Int.toNat_natCast, if_true, if_false, Bool.not_true, Bool.not_false, Bool.false_eq_true, Bool.not_eq_true', reduceIte, Bool.true_eq_false]
                  try exact Sub.refl _
            · rw [Bool.not_eq_true] at e109
              simp only [e109, Int.toNat_natCast, if_true, if_false, Bool.not_true, Bool.not_false, Bool.false_eq_true, Bool.not_eq_true', reduceIte, Bool.true_eq_false]
              refine ⟨by omega, ?_⟩
              by_cases g121 : oneV goB l (runN digB l (runN digB l (a) + 1)) = true
              · simp only [g121, Int.toNat_natCast, if_true, if_false, Bool.not_true, Bool.not_false, Bool.false_eq_true, Bool.not_eq_true', reduceIte, Bool.true_eq_false]
                try exact Sub.refl _
              · rw [Bool.not_eq_true] at g121
                simp only [g121, Int.toNat_natCast, if_true, if_false, Bool.not_true, Bool.not_false, Bool.false_eq_true, Bool.not_eq_true', reduceIte, Bool.true_eq_false]
                try exact Sub.refl _
          · rw [Bool.not_eq_true] at d106
            simp only [d106, Int.toNat_natCast, if_true, if_false, Bool.not_true, Bool.not_false, Bool.false_eq_true, Bool.not_eq_true', reduceIte, Bool.true_eq_false]
            try exact Sub.refl _
        · rw [Bool.not_eq_true] at f104
          simp only [f104, Int.toNat_natCast, if_true, if_false, Bool.not_true, Bool.not_false, Bool.false_eq_true, Bool.not_eq_true', reduceIte, Bool.true_eq_false]
          refine ⟨by omega, ?_⟩
          by_cases e122 : oneV (inB ⟨#[101, 69]⟩) l (runN digB l (a)) = true
          · have h123 := oneV_lt e122
            simp only [e122, wn (runN digB l (a)) (by omega), Int.toNat_natCast, if_true, if_false, Bool.not_true, Bool.not_false, Bool.false_eq_true, Bool.not_eq_true', reduceIte, Bool.true_eq_false]
            refine ⟨by omega, ?_⟩
            by_cases e124 : oneV (inB ⟨#[43, 45]⟩) l (runN digB l (a) + 1) = true
            · have h125 := oneV_lt e124
              simp only [e124, wn (runN digB l (a) + 1) (by omega), Int.toNat_natCast, if_true, if_false, Bool.not_true, Bool.not_false, Bool.false_eq_true, Bool.not_eq_true', reduceIte, Bool.true_eq_false]
              refine ⟨by omega, ?_⟩
              by_cases d126 : oneV digB l (runN digB l (a) + 1 + 1) = true
              · have h127 := oneV_lt d126
                have r128 := runN_le (p := digB) (l := l) (a := runN digB l (a) + 1 + 1) (by omega)
                simp only [d126, Int.toNat_natCast, if_true, if_false, Bool.not_true, Bool.not_false, Bool.false_eq_true, Bool.not_eq_true', reduceIte, Bool.true_eq_false]
                refine ⟨by omega, ?_⟩
                refine ⟨by omega, ?_⟩
                by_cases g129 : oneV goB l (runN digB l (runN digB l (a) + 1 + 1)) = true
                · simp only [g129, Int.toNat_natCast, if_true, if_false, Bool.not_true, Bool.not_false, Bool.false_eq_true, Bool.not_eq_true', reduceIte, Bool.true_eq_false]
                  try exact Sub.refl _
                · rw [Bool.not_eq_true] at g129
                  simp only [g129, Int.toNat_natCast, if_true, if_false, Bool.not_true, Bool.not_false, Bool.false_eq_true, Bool.not_eq_true', reduceIte, Bool.true_eq_false]
                  try exact Sub.refl _
              · rw [Bool.not_eq_true] at d126
                simp only [d126, Int.toNat_natCast, if_true, if_false, Bool.not_true, Bool.not_false, Bool.false_eq_true, Bool.not_eq_true', reduceIte, Bool.true_eq_false]
                try exact Sub.refl _
            · rw [Bool.not_eq_true] at e124
              simp only [e124, Int.toNat_natCast, if_true, if_false, Bool.not_true, Bool.not_false, Bool.false_eq_true, Bool.not_eq_true', reduceIte, Bool.true_eq_false]
              refine ⟨by omega, ?_⟩
              by_cases d130 : oneV digB l (runN digB l (a) + 1) = true
              · have h131 := oneV_lt d130
                have r132 := runN_le (p := digB) (l := l) (a := runN digB l (a) + 1) (by omega)
                simp only [d130, Int.toNat_natCast, if_true, if_false, Bool.not_true, Bool.not_false, Bool.false_eq_true, Bool.not_eq_true', reduceIte, Bool.true_eq_false]
                refine ⟨by omega, ?_⟩
                refine ⟨by omega, ?_⟩
                by_cases g133 : oneV goB l (runN digB l (runN digB l (a) + 1)) = true
                · simp only [g133, Int.toNat_natCast, if_true, if_false, Bool.not_true, Bool.not_false, Bool.false_eq_true, Bool.not_eq_true', reduceIte, Bool.true_eq_false]
                  try exact Sub.refl _
                · rw [Bool.not_eq_true] at g133
                  simp only [g133, Int.toNat_natCast, if_true, if_false, Bool.not_true, Bool.not_false, Bool.false_eq_true, Bool.not_eq_true', reduceIte, Bool.true_eq_false]
                  try exact Sub.refl _
              · rw [Bool.not_eq_true] at d130
                simp only [d130, Int.toNat_natCast, if_true, if_false, Bool.not_true, Bool.not_false, Bool.false_eq_true, Bool.not_eq_true', reduceIte, Bool.true_eq_false]
                try exact Sub.refl _
          · rw [Bool.not_eq_true] at e122
            simp only [e122, Int.toNat_natCast, if_true, if_false, Bool.not_true, Bool.not_false, Bool.false_eq_true, Bool.not_eq_true', reduceIte, Bool.true_eq_false]
            refine ⟨by omega, ?_⟩
            by_cases g134 : oneV goB l (runN digB l (a)) = true
            · simp only [g134, Int.toNat_natCast, if_true, if_false, Bool.not_true, Bool.not_false, Bool.false_eq_true, Bool.not_eq_true', reduceIte, Bool.true_eq_false]
              try exact Sub.refl _
            · rw [Bool.not_eq_true] at g134
              simp only [g134, Int.toNat_natCast, if_true, if_false, Bool.not_true, Bool.not_false, Bool.false_eq_true, Bool.not_eq_true', reduceIte, Bool.true_eq_false]
              try exact Sub.refl _
      · rw [Bool.not_eq_true] at d101
        simp only [d101, Int.toNat_natCast, if_true, if_false, Bool.not_true, Bool.not_false, Bool.false_eq_true, Bool.not_eq_true', reduceIte, Bool.true_eq_false]
        try exact Sub.refl _
end Go.Proofs.Ytlhhibhcoefolaa.Eng
