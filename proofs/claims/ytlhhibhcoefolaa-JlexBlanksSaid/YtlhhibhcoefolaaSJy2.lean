/- The reference's numbers of JSON, on the small machine. -/
import Derived.Test.YtlhhibhcoefolaaSJy1
namespace Go.Proofs.Ytlhhibhcoefolaa.Eng
open Go Go.Proofs.Ytlhhibhcoefolaa.Base
set_option maxRecDepth 100000
set_option linter.unusedSimpArgs false
set_option linter.unusedVariables false
/-- As the code goes. -/
def rn4 (l : List Int) (j : Nat) : Int := if ((runN digB l j : Int) == (j : Int)) = true then -1 else if Jlex.goes (l.drop (runN digB l j)) = true then -1 else runN digB l j
def rn3 (l : List Int) (k : Nat) : Int :=
  if (k : Int) < (l.length : Int) ∧ ((l.getD k 0 == 101) = true ∨ (l.getD k 0 == 69) = true) then
    (if ((k + 1 : Nat) : Int) < (l.length : Int) ∧ ((l.getD (k + 1) 0 == 43) = true ∨ (l.getD (k + 1) 0 == 45) = true) then rn4 l (k + 1 + 1) else rn4 l (k + 1))
  else if Jlex.goes (l.drop k) = true then -1 else k
def rn2 (l : List Int) (k : Nat) : Int :=
  if (k : Int) < (l.length : Int) ∧ (l.getD k 0 == 46) = true then (if ((runN digB l (k + 1) : Int) == ((k + 1 : Nat) : Int)) = true then -1 else rn3 l (runN digB l (k + 1))) else rn3 l k
def rn1 (l : List Int) (i : Nat) : Int :=
  if ((runN digB l i : Int) == (i : Int)) = true ∨ (l.getD i 0 == 48) = true ∧ (runN digB l i : Int) > ((i + 1 : Nat) : Int) then -1 else rn2 l (runN digB l i)
def rn0 (l : List Int) (a : Nat) : Int := if (a : Int) < (l.length : Int) ∧ (l.getD a 0 == 45) = true then rn1 l (a + 1) else rn1 l a
theorem getD_drop {l t : List Int} {a : Nat} {c : Int} (h : l.drop a = c :: t) : l.getD a 0 = c ∧ a < l.length := by
  have h2 : l[a]? = some c := by have := congrArg List.head? h; rwa [List.head?_drop] at this
  refine ⟨by rw [List.getD_eq_getElem?_getD, h2]; rfl, (List.getElem?_eq_some_iff.1 h2).1⟩
theorem rn4_eq (l : List Int) (b : Nat) : rn4 l b = ansN b (Jlex.nE3 (l.drop b)) := by
  unfold rn4 Jlex.nE3
  rw [runN_dl, ← List.drop_drop]
  by_cases c : Jlex.dl (l.drop b) = 0
  · rw [if_pos (by rw [beq_iff_eq]; omega), if_pos c]; rfl
  · rw [if_neg (by rw [beq_iff_eq]; omega), if_neg c]
    split
    · rfl
    · rfl
theorem rn3_eq (l : List Int) (a : Nat) : rn3 l a = ansN a (Jlex.nE2 (l.drop a)) := by
  unfold rn3
  rcases h : l.drop a with _ | ⟨c, t⟩
  · have := List.drop_eq_nil_iff.1 h
    rw [if_neg (by omega)]; rfl
  · obtain ⟨hc, hl⟩ := getD_drop h
    rw [hc]
    simp only [beq_iff_eq]
    unfold Jlex.nE2
    by_cases c1 : c = 101 ∨ c = 69
    · rw [if_pos ⟨by omega, c1⟩]
      simp only [if_pos c1]
      have h1 := drop_tail h
      rcases t with _ | ⟨s, t⟩
      · have := List.drop_eq_nil_iff.1 h1
        rw [if_neg (by omega), rn4_eq, h1]; rfl
      · obtain ⟨hs, hl2⟩ := getD_drop h1
        rw [hs]
        by_cases c2 : s = 43 ∨ s = 45
        · rw [if_pos ⟨by omega, c2⟩]
          simp only [if_pos c2]
          rw [rn4_eq, drop_tail h1, ansN_map]
        · rw [if_neg (fun h => c2 h.2)]
          simp only [if_neg c2]
          rw [rn4_eq, h1, ansN_map]
    · rw [if_neg (fun h => c1 h.2)]
      simp only [if_neg c1]
      show (if Jlex.go c = true then (-1 : Int) else (a : Int)) = _
      split
      · rfl
      · rfl
theorem rn2_eq (l : List Int) (a : Nat) : rn2 l a = ansN a (Jlex.nE1 (l.drop a)) := by
  unfold rn2
  rcases h : l.drop a with _ | ⟨c, t⟩
  · have := List.drop_eq_nil_iff.1 h
    rw [if_neg (by omega), rn3_eq, h]; rfl
  · obtain ⟨hc, hl⟩ := getD_drop h
    rw [hc]
    simp only [beq_iff_eq]
    unfold Jlex.nE1
    by_cases c1 : c = 46
    · rw [if_pos ⟨by omega, c1⟩]
      simp only [if_pos c1]
      have h1 := drop_tail h
      rw [runN_dl, h1]
      by_cases c2 : Jlex.dl t = 0
      · rw [if_pos (by omega), if_pos c2]; rfl
      · rw [if_neg (by omega), if_neg c2, rn3_eq, ansN_map, ← List.drop_drop, h1]
        congr 1; omega
    · rw [if_neg (fun h => c1 h.2)]
      simp only [if_neg c1]
      rw [rn3_eq, h]
theorem nE1_dig {c : Int} {t : List Int} (h : Jlex.dig c = true) : Jlex.nE1 (c :: t) = none := by
  unfold Jlex.dig at h
  simp only [decide_eq_true_eq] at h
  show (if c = 46 then _ else Jlex.nE2 (c :: t)) = none
  rw [if_neg (by omega)]
  show (if c = 101 ∨ c = 69 then _ else if Jlex.go c = true then none else some 0) = none
  rw [if_neg (by omega), if_pos (by unfold Jlex.go; rw [decide_eq_true_eq]; omega)]
theorem rn1_eq (l : List Int) (a : Nat) : rn1 l a = ansN a (Jlex.nE0 (l.drop a)) := by
  unfold rn1
  rw [runN_dl]
  rcases h : l.drop a with _ | ⟨c, t⟩
  · rw [if_pos (.inl (by rw [beq_iff_eq]; rfl))]; rfl
  · obtain ⟨hc, hl⟩ := getD_drop h
    rw [hc]
    simp only [beq_iff_eq]
    unfold Jlex.nE0
    have hd : Jlex.dl (c :: t) = if Jlex.dig c = true then Jlex.dl t + 1 else 0 := by
      unfold Jlex.dl
      rw [List.takeWhile_cons]
      split <;> simp
    by_cases c1 : c = 48
    · simp only [if_pos c1]
      have h48 : Jlex.dig c = true := by rw [c1]; decide
      rw [if_pos h48] at hd
      rw [hd]
      by_cases c2 : Jlex.dl t = 0
      · rw [if_neg (by omega), rn2_eq, c2, Nat.zero_add, drop_tail h, ansN_map]
      · rw [if_pos (.inr ⟨c1, by omega⟩)]
        rcases t with _ | ⟨d, t⟩
        · exact absurd rfl c2
        · have : Jlex.dig d = true := by
            cases hdg : Jlex.dig d with
            | true => rfl
            | false =>
              exfalso; apply c2
              unfold Jlex.dl
              rw [List.takeWhile_cons_of_neg (by rw [hdg]; exact Bool.false_ne_true)]; rfl
          rw [nE1_dig this]; rfl
    · simp only [if_neg c1]
      by_cases c2 : Jlex.dl (c :: t) = 0
      · rw [if_pos (.inl (by omega)), if_pos c2]; rfl
      · rw [if_neg (by omega), if_neg c2, rn2_eq, ansN_map, ← List.drop_drop, h]
theorem rn0_eq (l : List Int) (a : Nat) : rn0 l a = ansN a (Jlex.numLen (l.drop a)) := by
  unfold rn0
  rcases h : l.drop a with _ | ⟨c, t⟩
  · have := List.drop_eq_nil_iff.1 h
    rw [if_neg (by omega), rn1_eq, h]; rfl
  · obtain ⟨hc, hl⟩ := getD_drop h
    rw [hc]
    simp only [beq_iff_eq]
    unfold Jlex.numLen
    by_cases c1 : c = 45
    · rw [if_pos ⟨by omega, c1⟩]
      simp only [if_pos c1]
      rw [rn1_eq, drop_tail h, ansN_map]
    · rw [if_neg (fun h => c1 h.2)]
      simp only [if_neg c1]
      rw [rn1_eq, h]
noncomputable def G_rnb : Gam := ((Gam.none.add 28 fun a => F_rrun (NT.nz.nzL [] a)).add 17 fun a => F_goes (NT.nz.nzL [.s 1] a))
theorem known_G_rnb : Known Try.prog G_rnb := ((Known.none _).addC _ rrun_calm).addC _ goes_calm
theorem G_rnb_at : (∀ h d a, G_rnb 28 h d a = calmE (fun a => F_rrun (NT.nz.nzL [] a)) h a) ∧ (∀ h d a, G_rnb 17 h d a = calmE (fun a => F_goes (NT.nz.nzL [.s 1] a)) h a) := ⟨fun _ _ _ => rfl, fun _ _ _ => rfl⟩
theorem rnb_body (l : List Int) (hb : Bytes l) (a : Nat) (hl : l.length ≤ 100000000) (ha : a ≤ l.length) : Body Try.prog G_rnb (DRun Try.prog G_rnb) 19 [.d (bytesD l), vInt .i64 a] (vInt .i64 (ansN a (Jlex.numLen (l.drop a)))) := by
  refine Body.of Try.func19 Try.ntmps19 (by kernel_rfl) rfl rfl rfl ?_
  have nz1 : ∀ xs, (NT.s 1).nz (.d (.sl 1 xs)) = .d (.sl 1 xs) := fun xs => rfl
  simp only [bytesD, getD_iD, iD, num_iD, nz1, bt_sB, byteOf_num, sB_str hb, str_size, G_rnb_at, calmE, F_rrun, F_goes, Int.toNat_natCast, AV.flat, AV.flat.flatL, List.length_map, Int.reduceLE, Int.reduceLT, Int.reduceGT, Int.reduceGE, Int.reduceBEq, Int.reduceBNe, Int.reduceEq, Int.reduceToNat, Int.reduceSub, Int.reduceAdd, Int.reduceMul, Int.reducePow, Int.reduceNeg, goTG_val, goTG_new, goTG_up, goTG_none, goG_none, goG_new, goG_up, ne_eq, evK, evH, retHF, DRun_mk, runT_nil, runT_none, runT_guard, goT_val, goT_new, goT_store, goTH_true, goTH_false, evO, keys, Option.toList_some, Option.toList_none, nzL_nil, nzL_cons, nz_k, nz_sl, nz_nil, nz_agg, startL, evC, evV, goE_val, goE_new, goE_store, goH_true, goH_false, goG_val, lk_cons, lk_nil, lk_func, lk_int, lk_bool, lk_string, lk_slice, lk_agg, look_mk, St.effOf, eff, effCall, effBinC, isConst, effBin, effUn, effConv, effPick, effNil, effFold, fold1, effLoad, effStore, effFieldAddr, effField, fieldOf, sliceOf, effIndexAddr, effIndex, effLen, effExtract, effSlice, dats, bnd, effBuild, placesOf, effBuildSlice, effMakeSlice, effAppend, srcOf, fillA, chunk, seg, toD, toDs, put, eqAV, fieldsEq, leafEq, strip, unw, allB, selP_or, selP_and, tis, TyD.agg, AV.cells, AV.cell, allCell, vInt, vBool, vStr, subL_nil, subL_cons, upIds, AV.ids, AV.ids.idsL, AObj.ids, drops, Hp.get_cons, get_nil, retF, resL, one, fz, fz.fzL, List.map_cons, List.map_nil, List.nil_append, List.append_nil, List.cons_append, List.all_cons, List.all_nil, List.length_cons, List.length_nil, List.getElem?_cons_zero, List.getElem?_cons_succ, List.getD_cons_zero, List.getD_cons_succ, List.take_succ_cons, List.take_zero, List.drop_succ_cons, List.drop_zero, List.take_nil, List.drop_nil, List.contains_cons, List.contains_nil, Option.getD_some, Option.getD_none, Option.map_some, Option.map_none, if_true, if_false, true_and, and_true, and_self, or_self, or_false, false_or, false_and, and_false, reduceCtorEq, sel_and, sel_or, decide_eq_true_eq, Bool.and_eq_true, Bool.or_eq_true, Bool.and_true, Bool.true_and, Bool.or_false, Bool.false_or, Bool.true_or, Bool.or_true, Bool.not_true, Bool.not_false, Bool.false_eq_true, implies_true, not_false_eq_true, Nat.reduceLT, Nat.reduceEqDiff, Nat.reduceAdd, Nat.reduceMul, Nat.reduceMod, Nat.reduceLeDiff, Nat.reduceBEq, Nat.zero_add, Nat.add_zero, reduceIte, ↓reduceIte, List.not_mem_nil]
  have wn : ∀ k : Nat, k ≤ 1000000000 → IntKind.i64.wrap ((k : Int) + 1) = ((k + 1 : Nat) : Int) := fun k hk => by rw [w64 (by omega) (by omega)]; omega
  refine ⟨byteOf_all l, fun h => ⟨by omega, h⟩, ?_⟩
  rw [← rn0_eq]
  unfold rn0
  by_cases m : ((a : Nat) : Int) < (l.length : Int) ∧ (l.getD a 0 == 45) = true
  · rw [if_pos m, if_pos m]
    simp only [wn (a) (by omega), Int.toNat_natCast]
    simp only [wn (a + 1) (by omega), Int.toNat_natCast]
    have r2 := runN_le (p := digB) (l := l) (a := a + 1) (by omega)
    refine ⟨⟨by omega, by omega, by omega⟩, fun h => ?_, ?_⟩
    · simp only [Bool.not_eq_true', beq_eq_false_iff_ne, ne_eq] at h; omega
    unfold rn1
    by_cases z1 : (((runN digB l (a + 1) : Nat) : Int) == ((a + 1 : Nat) : Int)) = true ∨ (l.getD (a + 1) 0 == 48) = true ∧ ((runN digB l (a + 1) : Nat) : Int) > ((a + 1 + 1 : Nat) : Int)
    · rw [if_pos z1, if_pos z1]
    · rw [if_neg z1, if_neg z1]
      refine ⟨by first | omega | (intro h; omega) | (refine ⟨hb, ?_⟩; omega) | exact ⟨by omega, by omega, by omega⟩, ?_⟩
      unfold rn2
      by_cases d3 : ((runN digB l (a + 1) : Nat) : Int) < (l.length : Int) ∧ (l.getD (runN digB l (a + 1)) 0 == 46) = true
      · rw [if_pos d3, if_pos d3]
        simp only [wn (runN digB l (a + 1)) (by omega), Int.toNat_natCast]
        have r5 := runN_le (p := digB) (l := l) (a := runN digB l (a + 1) + 1) (by omega)
        refine ⟨by first | omega | (intro h; omega) | (refine ⟨hb, ?_⟩; omega) | exact ⟨by omega, by omega, by omega⟩, ?_⟩
        by_cases q4 : (((runN digB l (runN digB l (a + 1) + 1) : Nat) : Int) == ((runN digB l (a + 1) + 1 : Nat) : Int)) = true
        · rw [if_pos q4, if_pos q4]
        · rw [if_neg q4, if_neg q4]
          refine ⟨by first | omega | (intro h; omega) | (refine ⟨hb, ?_⟩; omega) | exact ⟨by omega, by omega, by omega⟩, ?_⟩
          refine ⟨by first | omega | (intro h; omega) | (refine ⟨hb, ?_⟩; omega) | exact ⟨by omega, by omega, by omega⟩, ?_⟩
          unfold rn3
          by_cases e6 : ((runN digB l (runN digB l (a + 1) + 1) : Nat) : Int) < (l.length : Int) ∧ ((l.getD (runN digB l (runN digB l (a + 1) + 1)) 0 == 101) = true ∨ (l.getD (runN digB l (runN digB l (a + 1) + 1)) 0 == 69) = true)
          · rw [if_pos e6, if_pos e6]
            simp only [wn (runN digB l (runN digB l (a + 1) + 1)) (by omega), Int.toNat_natCast]
            refine ⟨by first | omega | (intro h; omega) | (refine ⟨hb, ?_⟩; omega) | exact ⟨by omega, by omega, by omega⟩, ?_⟩
            refine ⟨by first | omega | (intro h; omega) | (refine ⟨hb, ?_⟩; omega) | exact ⟨by omega, by omega, by omega⟩, ?_⟩
            by_cases s7 : ((runN digB l (runN digB l (a + 1) + 1) + 1 : Nat) : Int) < (l.length : Int) ∧ ((l.getD (runN digB l (runN digB l (a + 1) + 1) + 1) 0 == 43) = true ∨ (l.getD (runN digB l (runN digB l (a + 1) + 1) + 1) 0 == 45) = true)
            · rw [if_pos s7, if_pos s7]
              simp only [wn (runN digB l (runN digB l (a + 1) + 1) + 1) (by omega), Int.toNat_natCast]
              have r8 := runN_le (p := digB) (l := l) (a := runN digB l (runN digB l (a + 1) + 1) + 1 + 1) (by omega)
              refine ⟨by first | omega | (intro h; omega) | (refine ⟨hb, ?_⟩; omega) | exact ⟨by omega, by omega, by omega⟩, ?_⟩
              unfold rn4
              by_cases c9 : (((runN digB l (runN digB l (runN digB l (a + 1) + 1) + 1 + 1) : Nat) : Int) == ((runN digB l (runN digB l (a + 1) + 1) + 1 + 1 : Nat) : Int)) = true
              · rw [if_pos c9, if_pos c9]
              · rw [if_neg c9, if_neg c9]
                refine ⟨by first | omega | (intro h; omega) | (refine ⟨hb, ?_⟩; omega) | exact ⟨by omega, by omega, by omega⟩, ?_⟩
                by_cases g10 : Jlex.goes (l.drop (runN digB l (runN digB l (runN digB l (a + 1) + 1) + 1 + 1))) = true
                · rw [if_pos g10, if_pos g10]
                · rw [if_neg g10, if_neg g10]
            · rw [if_neg s7, if_neg s7]
              have r11 := runN_le (p := digB) (l := l) (a := runN digB l (runN digB l (a + 1) + 1) + 1) (by omega)
              refine ⟨by first | omega | (intro h; omega) | (refine ⟨hb, ?_⟩; omega) | exact ⟨by omega, by omega, by omega⟩, ?_⟩
              unfold rn4
              by_cases c12 : (((runN digB l (runN digB l (runN digB l (a + 1) + 1) + 1) : Nat) : Int) == ((runN digB l (runN digB l (a + 1) + 1) + 1 : Nat) : Int)) = true
              · rw [if_pos c12, if_pos c12]
              · rw [if_neg c12, if_neg c12]
                refine ⟨by first | omega | (intro h; omega) | (refine ⟨hb, ?_⟩; omega) | exact ⟨by omega, by omega, by omega⟩, ?_⟩
                by_cases g13 : Jlex.goes (l.drop (runN digB l (runN digB l (runN digB l (a + 1) + 1) + 1))) = true
                · rw [if_pos g13, if_pos g13]
                · rw [if_neg g13, if_neg g13]
          · rw [if_neg e6, if_neg e6]
            refine ⟨by first | omega | (intro h; omega) | (refine ⟨hb, ?_⟩; omega) | exact ⟨by omega, by omega, by omega⟩, ?_⟩
            by_cases g14 : Jlex.goes (l.drop (runN digB l (runN digB l (a + 1) + 1))) = true
            · rw [if_pos g14, if_pos g14]
            · rw [if_neg g14, if_neg g14]
      · rw [if_neg d3, if_neg d3]
        refine ⟨by first | omega | (intro h; omega) | (refine ⟨hb, ?_⟩; omega) | exact ⟨by omega, by omega, by omega⟩, ?_⟩
        refine ⟨by first | omega | (intro h; omega) | (refine ⟨hb, ?_⟩; omega) | exact ⟨by omega, by omega, by omega⟩, ?_⟩
        unfold rn3
        by_cases e15 : ((runN digB l (a + 1) : Nat) : Int) < (l.length : Int) ∧ ((l.getD (runN digB l (a + 1)) 0 == 101) = true ∨ (l.getD (runN digB l (a + 1)) 0 == 69) = true)
        · rw [if_pos e15, if_pos e15]
          simp only [wn (runN digB l (a + 1)) (by omega), Int.toNat_natCast]
          refine ⟨by first | omega | (intro h; omega) | (refine ⟨hb, ?_⟩; omega) | exact ⟨by omega, by omega, by omega⟩, ?_⟩
          refine ⟨by first | omega | (intro h; omega) | (refine ⟨hb, ?_⟩; omega) | exact ⟨by omega, by omega, by omega⟩, ?_⟩
          by_cases s16 : ((runN digB l (a + 1) + 1 : Nat) : Int) < (l.length : Int) ∧ ((l.getD (runN digB l (a + 1) + 1) 0 == 43) = true ∨ (l.getD (runN digB l (a + 1) + 1) 0 == 45) = true)
          · rw [if_pos s16, if_pos s16]
            simp only [wn (runN digB l (a + 1) + 1) (by omega), Int.toNat_natCast]
            have r17 := runN_le (p := digB) (l := l) (a := runN digB l (a + 1) + 1 + 1) (by omega)
            refine ⟨by first | omega | (intro h; omega) | (refine ⟨hb, ?_⟩; omega) | exact ⟨by omega, by omega, by omega⟩, ?_⟩
            unfold rn4
            by_cases c18 : (((runN digB l (runN digB l (a + 1) + 1 + 1) : Nat) : Int) == ((runN digB l (a + 1) + 1 + 1 : Nat) : Int)) = true
            · rw [if_pos c18, if_pos c18]
            · rw [if_neg c18, if_neg c18]
              refine ⟨by first | omega | (intro h; omega) | (refine ⟨hb, ?_⟩; omega) | exact ⟨by omega, by omega, by omega⟩, ?_⟩
              by_cases g19 : Jlex.goes (l.drop (runN digB l (runN digB l (a + 1) + 1 + 1))) = true
              · rw [if_pos g19, if_pos g19]
              · rw [if_neg g19, if_neg g19]
          · rw [if_neg s16, if_neg s16]
            have r20 := runN_le (p := digB) (l := l) (a := runN digB l (a + 1) + 1) (by omega)
            refine ⟨by first | omega | (intro h; omega) | (refine ⟨hb, ?_⟩; omega) | exact ⟨by omega, by omega, by omega⟩, ?_⟩
            unfold rn4
            by_cases c21 : (((runN digB l (runN digB l (a + 1) + 1) : Nat) : Int) == ((runN digB l (a + 1) + 1 : Nat) : Int)) = true
            · rw [if_pos c21, if_pos c21]
            · rw [if_neg c21, if_neg c21]
              refine ⟨by first | omega | (intro h; omega) | (refine ⟨hb, ?_⟩; omega) | exact ⟨by omega, by omega, by omega⟩, ?_⟩
              by_cases g22 : Jlex.goes (l.drop (runN digB l (runN digB l (a + 1) + 1))) = true
              · rw [if_pos g22, if_pos g22]
              · rw [if_neg g22, if_neg g22]
        · rw [if_neg e15, if_neg e15]
          refine ⟨by first | omega | (intro h; omega) | (refine ⟨hb, ?_⟩; omega) | exact ⟨by omega, by omega, by omega⟩, ?_⟩
          by_cases g23 : Jlex.goes (l.drop (runN digB l (a + 1))) = true
          · rw [if_pos g23, if_pos g23]
          · rw [if_neg g23, if_neg g23]
  · rw [if_neg m, if_neg m]
    simp only [wn (a) (by omega), Int.toNat_natCast]
    have r25 := runN_le (p := digB) (l := l) (a := a) (by omega)
    refine ⟨⟨by omega, by omega, by omega⟩, fun h => ?_, ?_⟩
    · simp only [Bool.not_eq_true', beq_eq_false_iff_ne, ne_eq] at h; omega
    unfold rn1
    by_cases z24 : (((runN digB l (a) : Nat) : Int) == ((a : Nat) : Int)) = true ∨ (l.getD (a) 0 == 48) = true ∧ ((runN digB l (a) : Nat) : Int) > ((a + 1 : Nat) : Int)
    · rw [if_pos z24, if_pos z24]
    · rw [if_neg z24, if_neg z24]
      refine ⟨by first | omega | (intro h; omega) | (refine ⟨hb, ?_⟩; omega) | exact ⟨by omega, by omega, by omega⟩, ?_⟩
      unfold rn2
      by_cases d26 : ((runN digB l (a) : Nat) : Int) < (l.length : Int) ∧ (l.getD (runN digB l (a)) 0 == 46) = true
      · rw [if_pos d26, if_pos d26]
        simp only [wn (runN digB l (a)) (by omega), Int.toNat_natCast]
        have r28 := runN_le (p := digB) (l := l) (a := runN digB l (a) + 1) (by omega)
        refine ⟨by first | omega | (intro h; omega) | (refine ⟨hb, ?_⟩; omega) | exact ⟨by omega, by omega, by omega⟩, ?_⟩
        by_cases q27 : (((runN digB l (runN digB l (a) + 1) : Nat) : Int) == ((runN digB l (a) + 1 : Nat) : Int)) = true
        · rw [if_pos q27, if_pos q27]
        · rw [if_neg q27, if_neg q27]
          refine ⟨by first | omega | (intro h; omega) | (refine ⟨hb, ?_⟩; omega) | exact ⟨by omega, by omega, by omega⟩, ?_⟩
          refine ⟨by first | omega | (intro h; omega) | (refine ⟨hb, ?_⟩; omega) | exact ⟨by omega, by omega, by omega⟩, ?_⟩
          unfold rn3
          by_cases e29 : ((runN digB l (runN digB l (a) + 1) : Nat) : Int) < (l.length : Int) ∧ ((l.getD (runN digB l (runN digB l (a) + 1)) 0 == 101) = true ∨ (l.getD (runN digB l (runN digB l (a) + 1)) 0 == 69) = true)
          · rw [if_pos e29, if_pos e29]
            simp only [wn (runN digB l (runN digB l (a) + 1)) (by omega), Int.toNat_natCast]
            refine ⟨by first | omega | (intro h; omega) | (refine ⟨hb, ?_⟩; omega) | exact ⟨by omega, by omega, by omega⟩, ?_⟩
            refine ⟨by first | omega | (intro h; omega) | (refine ⟨hb, ?_⟩; omega) | exact ⟨by omega, by omega, by omega⟩, ?_⟩
            by_cases s30 : ((runN digB l (runN digB l (a) + 1) + 1 : Nat) : Int) < (l.length : Int) ∧ ((l.getD (runN digB l (runN digB l (a) + 1) + 1) 0 == 43) = true ∨ (l.getD (runN digB l (runN digB l (a) + 1) + 1) 0 == 45) = true)
            · rw [if_pos s30, if_pos s30]
              simp only [wn (runN digB l (runN digB l (a) + 1) + 1) (by omega), Int.toNat_natCast]
              have r31 := runN_le (p := digB) (l := l) (a := runN digB l (runN digB l (a) + 1) + 1 + 1) (by omega)
              refine ⟨by first | omega | (intro h; omega) | (refine ⟨hb, ?_⟩; omega) | exact ⟨by omega, by omega, by omega⟩, ?_⟩
              unfold rn4
              by_cases c32 : (((runN digB l (runN digB l (runN digB l (a) + 1) + 1 + 1) : Nat) : Int) == ((runN digB l (runN digB l (a) + 1) + 1 + 1 : Nat) : Int)) = true
              · rw [if_pos c32, if_pos c32]
              · rw [if_neg c32, if_neg c32]
                refine ⟨by first | omega | (intro h; omega) | (refine ⟨hb, ?_⟩; omega) | exact ⟨by omega, by omega, by omega⟩, ?_⟩
                by_cases g33 : Jlex.goes (l.drop (runN digB l (runN digB l (runN digB l (a) + 1) + 1 + 1))) = true
                · rw [if_pos g33, if_pos g33]
                · rw [if_neg g33, if_neg g33]
            · rw [if_neg s30, if_neg s30]
              have r34 := runN_le (p := digB) (l := l) (a := runN digB l (runN digB l (a) + 1) + 1) (by omega)
              refine ⟨by first | omega | (intro h; omega) | (refine ⟨hb, ?_⟩; omega) | exact ⟨by omega, by omega, by omega⟩, ?_⟩
              unfold rn4
              by_cases c35 : (((runN digB l (runN digB l (runN digB l (a) + 1) + 1) : Nat) : Int) == ((runN digB l (runN digB l (a) + 1) + 1 : Nat) : Int)) = true
              · rw [if_pos c35, if_pos c35]
              · rw [if_neg c35, if_neg c35]
                refine ⟨by first | omega | (intro h; omega) | (refine ⟨hb, ?_⟩; omega) | exact ⟨by omega, by omega, by omega⟩, ?_⟩
                by_cases g36 : Jlex.goes (l.drop (runN digB l (runN digB l (runN digB l (a) + 1) + 1))) = true
                · rw [if_pos g36, if_pos g36]
                · rw [if_neg g36, if_neg g36]
          · rw [if_neg e29, if_neg e29]
            refine ⟨by first | omega | (intro h; omega) | (refine ⟨hb, ?_⟩; omega) | exact ⟨by omega, by omega, by omega⟩, ?_⟩
            by_cases g37 : Jlex.goes (l.drop (runN digB l (runN digB l (a) + 1))) = true
            · rw [if_pos g37, if_pos g37]
            · rw [if_neg g37, if_neg g37]
      · rw [if_neg d26, if_neg d26]
        refine ⟨by first | omega | (intro h; omega) | (refine ⟨hb, ?_⟩; omega) | exact ⟨by omega, by omega, by omega⟩, ?_⟩
        refine ⟨by first | omega | (intro h; omega) | (refine ⟨hb, ?_⟩; omega) | exact ⟨by omega, by omega, by omega⟩, ?_⟩
        unfold rn3
        by_cases e38 : ((runN digB l (a) : Nat) : Int) < (l.length : Int) ∧ ((l.getD (runN digB l (a)) 0 == 101) = true ∨ (l.getD (runN digB l (a)) 0 == 69) = true)
        · rw [if_pos e38, if_pos e38]
          simp only [wn (runN digB l (a)) (by omega), Int.toNat_natCast]
          refine ⟨by first | omega | (intro h; omega) | (refine ⟨hb, ?_⟩; omega) | exact ⟨by omega, by omega, by omega⟩, ?_⟩
          refine ⟨by first | omega | (intro h; omega) | (refine ⟨hb, ?_⟩; omega) | exact ⟨by omega, by omega, by omega⟩, ?_⟩
          by_cases s39 : ((runN digB l (a) + 1 : Nat) : Int) < (l.length : Int) ∧ ((l.getD (runN digB l (a) + 1) 0 == 43) = true ∨ (l.getD (runN digB l (a) + 1) 0 == 45) = true)
          · rw [if_pos s39, if_pos s39]
            simp only [wn (runN digB l (a) + 1) (by omega), Int.toNat_natCast]
            have r40 := runN_le (p := digB) (l := l) (a := runN digB l (a) + 1 + 1) (by omega)
            refine ⟨by first | omega | (intro h; omega) | (refine ⟨hb, ?_⟩; omega) | exact ⟨by omega, by omega, by omega⟩, ?_⟩
            unfold rn4
            by_cases c41 : (((runN digB l (runN digB l (a) + 1 + 1) : Nat) : Int) == ((runN digB l (a) + 1 + 1 : Nat) : Int)) = true
            · rw [if_pos c41, if_pos c41]
            · rw [if_neg c41, if_neg c41]
              refine ⟨by first | omega | (intro h; omega) | (refine ⟨hb, ?_⟩; omega) | exact ⟨by omega, by omega, by omega⟩, ?_⟩
              by_cases g42 : Jlex.goes (l.drop (runN digB l (runN digB l (a) + 1 + 1))) = true
              · rw [if_pos g42, if_pos g42]
              · rw [if_neg g42, if_neg g42]
          · rw [if_neg s39, if_neg s39]
            have r43 := runN_le (p := digB) (l := l) (a := runN digB l (a) + 1) (by omega)
            refine ⟨by first | omega | (intro h; omega) | (refine ⟨hb, ?_⟩; omega) | exact ⟨by omega, by omega, by omega⟩, ?_⟩
            unfold rn4
            by_cases c44 : (((runN digB l (runN digB l (a) + 1) : Nat) : Int) == ((runN digB l (a) + 1 : Nat) : Int)) = true
            · rw [if_pos c44, if_pos c44]
            · rw [if_neg c44, if_neg c44]
              refine ⟨by first | omega | (intro h; omega) | (refine ⟨hb, ?_⟩; omega) | exact ⟨by omega, by omega, by omega⟩, ?_⟩
              by_cases g45 : Jlex.goes (l.drop (runN digB l (runN digB l (a) + 1))) = true
              · rw [if_pos g45, if_pos g45]
              · rw [if_neg g45, if_neg g45]
        · rw [if_neg e38, if_neg e38]
          refine ⟨by first | omega | (intro h; omega) | (refine ⟨hb, ?_⟩; omega) | exact ⟨by omega, by omega, by omega⟩, ?_⟩
          by_cases g46 : Jlex.goes (l.drop (runN digB l (a))) = true
          · rw [if_pos g46, if_pos g46]
          · rw [if_neg g46, if_neg g46]
def F_rnb : List AV → Option (Prop × AV)
  | [.d (.sl 1 xs), .d (.v (.int .i64 a))] => some (xs = (xs.map numOf).map (iD .u8) ∧ Bytes (xs.map numOf) ∧ xs.length ≤ 100000000 ∧ 0 ≤ a ∧ a ≤ xs.length, vInt .i64 (ansN a.toNat (Jlex.numLen ((xs.map numOf).drop a.toNat))))
  | _ => none
theorem rnb_calm : ∀ args sc res, F_rnb args = some (sc, res) → sc → Calm Try.prog 19 args res := by
  intro args sc res h hs
  unfold F_rnb at h
  split at h <;> cases h
  rename_i xs a
  obtain ⟨h1, hb, h2, h3, h4⟩ := hs
  obtain ⟨k, rfl⟩ := Int.eq_ofNat_of_zero_le h3
  have hq := rnb_body (xs.map numOf) hb k (by simpa using h2) (by simpa using h4)
  rw [bytesD, ← h1] at hq
  exact known_G_rnb.calm mixed rfl rfl hq
end Go.Proofs.Ytlhhibhcoefolaa.Eng
