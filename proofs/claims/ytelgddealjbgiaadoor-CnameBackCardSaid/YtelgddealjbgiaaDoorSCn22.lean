/- CnameBack, on the small machine. -/
import Derived.Test.YtelgddealjbgiaaDoorSCn21
import Derived.Test.YtelgddealjbgiaaDoorSCn14
namespace Go.Proofs.YtelgddealjbgiaaDoor.Eng
open Go Go.Proofs.YtelgddealjbgiaaDoor.Base Go.Proofs.YtelgddealjbgiaaDoor.Cinput
set_option maxRecDepth 100000
set_option linter.unusedSimpArgs false
set_option linter.unusedVariables false
def tabE : List (List Int) := [[], [40], [41], [123], [59], [58], [44], [34], [62], [32]]
theorem tabE_at {k : Nat} (hk : k < 10) (z : List Dat) : ([[Dat.v (.string ⟨#[]⟩)], [Dat.v (.string ⟨#[40]⟩)], [Dat.v (.string ⟨#[41]⟩)], [Dat.v (.string ⟨#[123]⟩)], [Dat.v (.string ⟨#[59]⟩)], [Dat.v (.string ⟨#[58]⟩)], [Dat.v (.string ⟨#[44]⟩)], [Dat.v (.string ⟨#[34]⟩)], [Dat.v (.string ⟨#[62]⟩)], [Dat.v (.string ⟨#[32]⟩)]] : List (List Dat)).getD k z = [Dat.v (.string (strOfNums (tabE.getD k [])))] := by
  have h : ([[Dat.v (.string ⟨#[]⟩)], [Dat.v (.string ⟨#[40]⟩)], [Dat.v (.string ⟨#[41]⟩)], [Dat.v (.string ⟨#[123]⟩)], [Dat.v (.string ⟨#[59]⟩)], [Dat.v (.string ⟨#[58]⟩)], [Dat.v (.string ⟨#[44]⟩)], [Dat.v (.string ⟨#[34]⟩)], [Dat.v (.string ⟨#[62]⟩)], [Dat.v (.string ⟨#[32]⟩)]] : List (List Dat)) = tabE.map fun s => [Dat.v (.string (strOfNums s))] := rfl
  rw [h, List.getD_eq_getElem?_getD, List.getElem?_map, List.getD_eq_getElem?_getD, List.getElem?_eq_getElem (show k < tabE.length from hk)]; rfl
theorem tabE_is : ∀ k : Fin 10, (tabE.getD k.val [] = [] ∨ ∃ x, tabE.getD k.val [] = [x] ∧ ¬ inP x ∧ x ≠ 92 ∧ 32 ≤ x ∧ x < 128) := fun k => by
  have key : ∀ k : Fin 10, (tabE.getD k.val []).length ≤ 1 ∧ (tabE.getD k.val []).all (fun x => decide (¬ inP x ∧ x ≠ 92 ∧ 32 ≤ x ∧ x < 128)) = true := by decide +kernel
  obtain ⟨h1, h2⟩ := key k
  generalize tabE.getD k.val [] = E at h1 h2
  rcases E with _ | ⟨x, _ | ⟨y, E⟩⟩
  · exact .inl rfl
  · simp only [List.all_cons, List.all_nil, Bool.and_true, decide_eq_true_eq] at h2
    exact .inr ⟨x, rfl, h2⟩
  · simp at h1
theorem and1k (t : Int) : 0 ≤ bits .and .i64 t 1023 := by
  have h : (BitVec.ofInt 64 t &&& BitVec.ofInt 64 1023).toNat ≤ 1023 := by
    rw [BitVec.toNat_and]; exact Nat.le_trans Nat.and_le_right (by decide)
  show 0 ≤ IntKind.i64.wrap ((BitVec.ofInt 64 t &&& BitVec.ofInt 64 1023).toNat : Int)
  rw [IntKind.wrap_i64]
  omega
theorem encAll_len : ∀ l : List Int, l.length ≤ (Utf.encAll l).length
  | [] => Nat.le_refl _
  | x :: l => by
    have := encAll_len l
    have := @Utf.enc_size x
    have := Utf.size_range x
    rw [Utf.encAll_cons, List.length_append, List.length_cons]; omega
/-- A text of whole code points, as the reference reads it. -/
theorem runes_of {cs L : List Int} (hL : L = Utf.encAll cs) (hc : ∀ c ∈ cs, Utf.isCp c ∧ c ≠ 0 ∧ c ≠ 12 ∧ c ≠ 13) : (runes L.length L 0).map Prod.fst = cs ∧ okR (runes L.length L 0) ∧ (runes L.length L 0).length = cs.length := by
  have h := runes_enc cs L.length 0 hc (by rw [hL]; exact Nat.le_refl _)
  rw [← hL] at h
  refine ⟨h, fun x hx => ?_, by have := congrArg List.length h; rwa [List.length_map] at this⟩
  have hm : x.1 ∈ cs := by rw [← h]; exact List.mem_map.mpr ⟨x, hx, rfl⟩
  have := (hc _ hm).1
  unfold Utf.isCp at this
  omega
theorem puts_enc : ∀ {ps : List Int}, (∀ x ∈ ps, Utf.isCp x ∧ x ≠ 0) → puts ps = Utf.encAll ps
  | [], _ => rfl
  | x :: ps, h => by
    show Utf.put x ++ puts ps = _
    rw [puts_enc fun y hy => h y (List.mem_cons_of_mem _ hy), Utf.put, Utf.fix_of (h x (List.mem_cons_self ..)).1, Utf.encAll_cons]
noncomputable def G14b : Gam := (((((((Gam.none.add 8 fun a => F_alive14 (NT.nz.nzL [] a)).add 24 fun a => F_clean (NT.nz.nzL [] a)).add 18 fun a => F_name (NT.nz.nzL [] a)).add 20 fun a => F_rest (NT.nz.nzL [] a)).add 25 fun a => F_Runes (NT.nz.nzL [.s 1] a)).add 10 fun a => F_take (NT.nz.nzL [.s 2] a)).add 16 fun a => F_beg (NT.nz.nzL [.s 2] a))
theorem known_G14b : Known Tryd.prog G14b := (((((((Known.none _).addC _ alive14_c).addC _ clean_calm).addC _ name_calm).addC _ rest_calm).addC _ Runes_calm).addC _ takeI_calm).addC _ begI_calm
theorem G14b_at : (∀ h d a, G14b 8 h d a = calmE (fun a => F_alive14 (NT.nz.nzL [] a)) h a) ∧ (∀ h d a, G14b 24 h d a = calmE (fun a => F_clean (NT.nz.nzL [] a)) h a) ∧ (∀ h d a, G14b 18 h d a = calmE (fun a => F_name (NT.nz.nzL [] a)) h a) ∧ (∀ h d a, G14b 20 h d a = calmE (fun a => F_rest (NT.nz.nzL [] a)) h a) ∧ (∀ h d a, G14b 25 h d a = calmE (fun a => F_Runes (NT.nz.nzL [.s 1] a)) h a) ∧ (∀ h d a, G14b 10 h d a = calmE (fun a => F_take (NT.nz.nzL [.s 2] a)) h a) ∧ (∀ h d a, G14b 16 h d a = calmE (fun a => F_beg (NT.nz.nzL [.s 2] a)) h a) := ⟨fun _ _ _ => rfl, fun _ _ _ => rfl, fun _ _ _ => rfl, fun _ _ _ => rfl, fun _ _ _ => rfl, fun _ _ _ => rfl, fun _ _ _ => rfl⟩
theorem back14_body (s : ByteArray) (bh : Int) (_ : s.size ≤ maxLen) (_ : (Lit.int .i64 bh).wf = true) : Body Tryd.prog G14b (DRun Tryd.prog G14b) 4 [.d (.v (.string s)), .d (.v (.int .i64 bh))] (vBool true) := by
  refine Body.of Tryd.func4 Tryd.ntmps4 (by kernel_rfl) rfl rfl rfl ?_
  have hn := sB_len s
  have nz2 : ∀ xs, (NT.s 2).nz (.d (.sl 2 xs)) = .d (.sl 2 xs) := fun xs => rfl
  by_cases cs : ((s.size : Int) < 1 ∨ (s.size : Int) > 200) ∨ (!cleanB (sB s)) = true
  · simp only [eq_sB, G14b_at, calmE, F_alive14, F_clean, F_name, F_rest, F_Runes, F_take, F_beg, AV.flat, AV.flat.flatL, List.length_map, Int.reduceLE, Int.reduceLT, Int.reduceGT, Int.reduceGE, Int.reduceBEq, Int.reduceBNe, Int.reduceEq, Int.reduceToNat, Int.reduceSub, Int.reduceAdd, Int.reduceMul, Int.reducePow, Int.reduceNeg, goTG_val, goTG_new, goTG_up, goTG_none, goG_none, goG_new, goG_up, ne_eq, evK, evH, retHF, DRun_mk, runT_nil, runT_none, runT_guard, goT_val, goT_new, goT_store, goTH_true, goTH_false, evO, keys, Option.toList_some, Option.toList_none, nzL_nil, nzL_cons, nz_k, nz_sl, nz_nil, nz_agg, startL, evC, evV, goE_val, goE_new, goE_store, goH_true, goH_false, goG_val, lk_cons, lk_nil, lk_func, lk_int, lk_bool, lk_string, lk_slice, lk_agg, look_mk, St.effOf, eff, effCall, effBinC, isConst, effBin, effUn, effConv, effPick, effNil, effFold, fold1, effLoad, effStore, effFieldAddr, effField, fieldOf, sliceOf, effIndexAddr, effIndex, effLen, effExtract, effSlice, dats, bnd, effBuild, placesOf, effBuildSlice, effMakeSlice, effAppend, srcOf, fillA, chunk, seg, toD, toDs, put, eqAV, fieldsEq, leafEq, strip, unw, allB, selP_or, selP_and, tis, TyD.agg, AV.cells, AV.cell, allCell, vInt, vBool, vStr, subL_nil, subL_cons, upIds, AV.ids, AV.ids.idsL, AObj.ids, drops, Hp.get_cons, get_nil, retF, resL, one, fz, fz.fzL, List.map_cons, List.map_nil, List.nil_append, List.append_nil, List.cons_append, List.all_cons, List.all_nil, List.length_cons, List.length_nil, List.getElem?_cons_zero, List.getElem?_cons_succ, List.getD_cons_zero, List.getD_cons_succ, List.take_succ_cons, List.take_zero, List.drop_succ_cons, List.drop_zero, List.take_nil, List.drop_nil, List.contains_cons, List.contains_nil, Option.getD_some, Option.getD_none, Option.map_some, Option.map_none, if_true, if_false, true_and, and_true, and_self, or_self, or_false, false_or, false_and, and_false, reduceCtorEq, sel_and, sel_or, decide_eq_true_eq, Bool.and_eq_true, Bool.or_eq_true, Bool.and_true, Bool.true_and, Bool.or_false, Bool.false_or, Bool.true_or, Bool.or_true, Bool.not_true, Bool.not_false, Bool.false_eq_true, implies_true, not_false_eq_true, Nat.reduceLT, Nat.reduceEqDiff, Nat.reduceAdd, Nat.reduceMul, Nat.reduceMod, Nat.reduceLeDiff, Nat.reduceBEq, Nat.zero_add, Nat.add_zero, reduceIte, ↓reduceIte, List.not_mem_nil]
    rw [if_pos cs]
    refine ⟨fun h => ?_, Sub.refl _⟩
    by_cases c1 : (s.size : Int) < 1
    · omega
    · rw [if_neg c1] at h
      simp only [Bool.not_eq_true', decide_eq_false_iff_not] at h
      omega
  have hl1 : 1 ≤ s.size := by omega
  have hl : s.size ≤ 200 := by omega
  have hcl : cleanB (sB s) = true := by
    cases hc : cleanB (sB s) with
    | true => rfl
    | false => exact absurd (.inr (by rw [hc]; rfl)) cs
  obtain ⟨hps, hpp⟩ := clean_is (sB_bytes s) hcl
  obtain ⟨k, hk, hkk⟩ : ∃ k : Nat, k < 10 ∧ (bits .and .i64 bh 1023).tmod 10 = (k : Int) := by
    have := and1k bh
    refine ⟨((bits .and .i64 bh 1023).tmod 10).toNat, ?_, ?_⟩
    · rw [Int.tmod_eq_emod_of_nonneg this]; omega
    · rw [Int.tmod_eq_emod_of_nonneg this]; omega
  have hE := tabE_at hk
  have hEi := tabE_is ⟨k, hk⟩
  simp only [] at hEi
  generalize tabE.getD k [] = E at hE hEi
  have hpl := pts_len (sB s)
  have hN1 : nameL (sB s) = spellK true (ptsL (sB s)) (ptsL (sB s)).length := (name_eq (sB_bytes s)).symm
  have hR1 : restL (sB s) = spellK false (ptsL (sB s)) (ptsL (sB s)).length := (spellR_rest (sB_bytes s)).symm
  generalize ptsL (sB s) = ps at hps hpp hpl hN1 hR1
  have hne : ps ≠ [] := fun h => by
    rw [h] at hps
    have := congrArg List.length hps
    rw [hn] at this
    have : s.size = 0 := this
    omega
  obtain ⟨hNe, hNc⟩ := spellK_C true ps hpp ps.length (Nat.le_refl _)
  obtain ⟨hRe, hRc⟩ := spellK_C false ps hpp ps.length (Nat.le_refl _)
  rw [← hN1] at hNe
  rw [← hR1] at hRe
  have hNl : (nameL (sB s)).length ≤ 6 * ps.length := by rw [hN1]; exact spellK_le true ps _
  have hRl : (restL (sB s)).length ≤ 6 * ps.length := by rw [hR1]; exact spellK_le false ps _
  have hbs : ∀ cs : List Int, (∀ c ∈ cs, Utf.isCp c ∧ c ≠ 0 ∧ c ≠ 12 ∧ c ≠ 13) → Bytes (Utf.encAll cs) := fun cs h => Utf.encAll_bytes fun c hc => (h c hc).1
  have hbN : Bytes (nameL (sB s)) := by rw [hNe]; exact hbs _ hNc
  have hbR : Bytes (restL (sB s)) := by rw [hRe]; exact hbs _ hRc
  obtain ⟨NL, hNL⟩ : ∃ NL, nameL (sB s) = NL := ⟨_, rfl⟩
  obtain ⟨RL, hRL⟩ : ∃ RL, restL (sB s) = RL := ⟨_, rfl⟩
  rw [hNL] at hNe hNl hbN hN1
  rw [hRL] at hRe hRl hbR hR1
  have hEc : ∀ c ∈ (itsC true ps ps.length).flatten ++ E, Utf.isCp c ∧ c ≠ 0 ∧ c ≠ 12 ∧ c ≠ 13 := fun c h => by
    rcases List.mem_append.mp h with h | h
    · exact hNc c h
    · rcases hEi with rfl | ⟨x, rfl, -, -, h1, h2⟩
      · cases h
      · rcases List.mem_singleton.mp h with rfl
        unfold Utf.isCp; omega
  have hEe : Utf.encAll E = E := by
    rcases hEi with rfl | ⟨x, rfl, -, -, h1, h2⟩
    · rfl
    · exact encAll_low _ fun y hy => by rcases List.mem_singleton.mp hy with rfl; exact h2
  have hEl : E.length ≤ 1 := by rcases hEi with rfl | ⟨x, rfl, _⟩ <;> simp
  have hst : E = [] ∨ ∃ x m, E = x :: m ∧ ¬ inP x ∧ x ≠ 92 := by
    rcases hEi with h | ⟨x, h, h1, h2, -, -⟩
    · exact .inl h
    · exact .inr ⟨x, [], h, h1, h2⟩
  have hbE : Bytes (NL ++ E) := by
    rw [hNe, ← hEe, ← Utf.encAll_append]; exact hbs _ hEc
  obtain ⟨m1, o1, n1⟩ := runes_of (L := NL ++ E) (by rw [hNe, Utf.encAll_append, hEe]) hEc
  obtain ⟨m2, o2, n2⟩ := runes_of hRe hRc
  obtain ⟨m3, o3, n3⟩ := runes_of hNe hNc
  have q1 := encAll_len ((itsC true ps ps.length).flatten ++ E)
  have q2 := encAll_len (itsC false ps ps.length).flatten
  have q3 := encAll_len (itsC true ps ps.length).flatten
  rw [Utf.encAll_append, hEe, ← hNe, List.length_append] at q1
  rw [← hRe] at q2
  rw [← hNe] at q3
  have t1 := take_back true hpp m1 hst
  have t2 := take_back false (rest := []) hpp (by rw [m2, List.append_nil]) (.inl rfl)
  have b1 : begP (runes (NL ++ E).length (NL ++ E) 0) 0 = True := eq_true (begins_back hpp hne m1)
  have s1 := sB_str hbE
  have s2 := sB_str hbR
  have s3 := sB_str hbN
  have hpe : sB (strOfNums (puts ps)) = sB s := by rw [puts_enc hpp, ← hps, str_sB]
  simp only [hNL, hRL, Int.toNat_natCast, hkk, hE, eq_sB, ← str_append, sB_rows, s1, s2, s3, num_iD, runesD, rD_runeOf, nz2, t1, t2, b1, hpe, G14b_at, calmE, F_alive14, F_clean, F_name, F_rest, F_Runes, F_take, F_beg, AV.flat, AV.flat.flatL, List.length_map, Int.reduceLE, Int.reduceLT, Int.reduceGT, Int.reduceGE, Int.reduceBEq, Int.reduceBNe, Int.reduceEq, Int.reduceToNat, Int.reduceSub, Int.reduceAdd, Int.reduceMul, Int.reducePow, Int.reduceNeg, goTG_val, goTG_new, goTG_up, goTG_none, goG_none, goG_new, goG_up, ne_eq, evK, evH, retHF, DRun_mk, runT_nil, runT_none, runT_guard, goT_val, goT_new, goT_store, goTH_true, goTH_false, evO, keys, Option.toList_some, Option.toList_none, nzL_nil, nzL_cons, nz_k, nz_sl, nz_nil, nz_agg, startL, evC, evV, goE_val, goE_new, goE_store, goH_true, goH_false, goG_val, lk_cons, lk_nil, lk_func, lk_int, lk_bool, lk_string, lk_slice, lk_agg, look_mk, St.effOf, eff, effCall, effBinC, isConst, effBin, effUn, effConv, effPick, effNil, effFold, fold1, effLoad, effStore, effFieldAddr, effField, fieldOf, sliceOf, effIndexAddr, effIndex, effLen, effExtract, effSlice, dats, bnd, effBuild, placesOf, effBuildSlice, effMakeSlice, effAppend, srcOf, fillA, chunk, seg, toD, toDs, put, eqAV, fieldsEq, leafEq, strip, unw, allB, selP_or, selP_and, tis, TyD.agg, AV.cells, AV.cell, allCell, vInt, vBool, vStr, subL_nil, subL_cons, upIds, AV.ids, AV.ids.idsL, AObj.ids, drops, Hp.get_cons, get_nil, retF, resL, one, fz, fz.fzL, List.map_cons, List.map_nil, List.nil_append, List.append_nil, List.cons_append, List.all_cons, List.all_nil, List.length_cons, List.length_nil, List.getElem?_cons_zero, List.getElem?_cons_succ, List.getD_cons_zero, List.getD_cons_succ, List.take_succ_cons, List.take_zero, List.drop_succ_cons, List.drop_zero, List.take_nil, List.drop_nil, List.contains_cons, List.contains_nil, Option.getD_some, Option.getD_none, Option.map_some, Option.map_none, if_true, if_false, true_and, and_true, and_self, or_self, or_false, false_or, false_and, and_false, reduceCtorEq, sel_and, sel_or, decide_eq_true_eq, Bool.and_eq_true, Bool.or_eq_true, Bool.and_true, Bool.true_and, Bool.or_false, Bool.false_or, Bool.true_or, Bool.or_true, Bool.not_true, Bool.not_false, Bool.false_eq_true, implies_true, not_false_eq_true, Nat.reduceLT, Nat.reduceEqDiff, Nat.reduceAdd, Nat.reduceMul, Nat.reduceMod, Nat.reduceLeDiff, Nat.reduceBEq, Nat.zero_add, Nat.add_zero, reduceIte, ↓reduceIte, List.not_mem_nil]
  rw [if_neg cs]
  have z1 := str_size NL
  have z2 := str_size E
  have z3 : (NL ++ E).length = NL.length + E.length := List.length_append ..
  have y1 : (runes (NL ++ E).length (NL ++ E) 0).length ≤ 1000000 := by rw [n1, List.length_append]; omega
  refine ⟨fun _ => by omega, by omega, ⟨by omega, by omega⟩, hk, by rw [z1, z2]; omega, ⟨hbE, by omega⟩, ⟨y1, o1⟩, by omega, ⟨hbR, by omega⟩, ⟨by rw [n2]; omega, o2⟩, ⟨hbN, by omega⟩, ⟨y1, o1⟩, fun _ => by omega, fun _ => ⟨hbR, by omega⟩, Sub.eq ?_⟩
  rw [n2, n3, beq_self_eq_true, beq_self_eq_true]; rfl
end Go.Proofs.YtelgddealjbgiaaDoor.Eng
