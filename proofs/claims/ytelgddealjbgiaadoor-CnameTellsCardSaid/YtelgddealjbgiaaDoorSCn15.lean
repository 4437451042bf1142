/- CnameTells, on the small machine: the law. -/
import Derived.Test.YtelgddealjbgiaaDoorSCn14
namespace Go.Proofs.YtelgddealjbgiaaDoor.Eng
open Go Go.Proofs.YtelgddealjbgiaaDoor.Base Go.Proofs.YtelgddealjbgiaaDoor.Cinput
set_option maxRecDepth 100000
set_option linter.unusedSimpArgs false
set_option linter.unusedVariables false
noncomputable def G14t : Gam := ((((((((((((((((Gam.none.add 8 fun a => F_alive14 (NT.nz.nzL [] a)).add 9 fun a => F_lpts (NT.nz.nzL [.s 2] a)).add 10 fun a => F_take (NT.nz.nzL [.s 2] a)).add 11 fun a => F_take (NT.nz.nzL [.s 2] a)).add 12 fun a => F_start (NT.nz.nzL [] a)).add 13 fun a => F_start (NT.nz.nzL [] a)).add 14 fun a => F_in (NT.nz.nzL [] a)).add 15 fun a => F_in (NT.nz.nzL [] a)).add 16 fun a => F_beg (NT.nz.nzL [.s 2] a)).add 17 fun a => F_beg (NT.nz.nzL [.s 2] a)).add 18 fun a => F_name (NT.nz.nzL [] a)).add 19 fun a => F_rs1 true (NT.nz.nzL [] a)).add 20 fun a => F_rest (NT.nz.nzL [] a)).add 21 fun a => F_rs1 false (NT.nz.nzL [] a)).add 22 fun a => F_txt (NT.nz.nzL [] a)).add 23 fun a => F_rtxt (NT.nz.nzL [] a))
theorem known_G14t : Known Tryd.prog G14t := ((((((((((((((((Known.none _).addC _ alive14_c).addC _ lpts_calm).addC _ takeI_calm).addC _ takeR_calm).addC _ startI_calm).addC _ startR_calm).addC _ inI_calm).addC _ inR_calm).addC _ begI_calm).addC _ begR_calm).addC _ name_calm).addC _ rS_calm).addC _ rest_calm).addC _ rR_calm).addC _ txt_calm).addC _ rtxt_calm
theorem G14t_at : (∀ h d a, G14t 8 h d a = calmE (fun a => F_alive14 (NT.nz.nzL [] a)) h a) ∧ (∀ h d a, G14t 9 h d a = calmE (fun a => F_lpts (NT.nz.nzL [.s 2] a)) h a) ∧ (∀ h d a, G14t 10 h d a = calmE (fun a => F_take (NT.nz.nzL [.s 2] a)) h a) ∧ (∀ h d a, G14t 11 h d a = calmE (fun a => F_take (NT.nz.nzL [.s 2] a)) h a) ∧ (∀ h d a, G14t 12 h d a = calmE (fun a => F_start (NT.nz.nzL [] a)) h a) ∧ (∀ h d a, G14t 13 h d a = calmE (fun a => F_start (NT.nz.nzL [] a)) h a) ∧ (∀ h d a, G14t 14 h d a = calmE (fun a => F_in (NT.nz.nzL [] a)) h a) ∧ (∀ h d a, G14t 15 h d a = calmE (fun a => F_in (NT.nz.nzL [] a)) h a) ∧ (∀ h d a, G14t 16 h d a = calmE (fun a => F_beg (NT.nz.nzL [.s 2] a)) h a) ∧ (∀ h d a, G14t 17 h d a = calmE (fun a => F_beg (NT.nz.nzL [.s 2] a)) h a) ∧ (∀ h d a, G14t 18 h d a = calmE (fun a => F_name (NT.nz.nzL [] a)) h a) ∧ (∀ h d a, G14t 19 h d a = calmE (fun a => F_rs1 true (NT.nz.nzL [] a)) h a) ∧ (∀ h d a, G14t 20 h d a = calmE (fun a => F_rest (NT.nz.nzL [] a)) h a) ∧ (∀ h d a, G14t 21 h d a = calmE (fun a => F_rs1 false (NT.nz.nzL [] a)) h a) ∧ (∀ h d a, G14t 22 h d a = calmE (fun a => F_txt (NT.nz.nzL [] a)) h a) ∧ (∀ h d a, G14t 23 h d a = calmE (fun a => F_rtxt (NT.nz.nzL [] a)) h a) := ⟨fun _ _ _ => rfl, fun _ _ _ => rfl, fun _ _ _ => rfl, fun _ _ _ => rfl, fun _ _ _ => rfl, fun _ _ _ => rfl, fun _ _ _ => rfl, fun _ _ _ => rfl, fun _ _ _ => rfl, fun _ _ _ => rfl, fun _ _ _ => rfl, fun _ _ _ => rfl, fun _ _ _ => rfl, fun _ _ _ => rfl, fun _ _ _ => rfl, fun _ _ _ => rfl⟩
theorem tells14_body (l : List (Int × Int)) (at' r : Int) (s : ByteArray) : Body Tryd.prog G14t (DRun Tryd.prog G14t) 3 [.d (runesD l), vInt .i64 at', vInt .i64 r, vStr s] (vBool true) := by
  refine Body.of Tryd.func3 Tryd.ntmps3 (by kernel_rfl) rfl rfl rfl ?_
  have nz2 : ∀ xs, (NT.s 2).nz (.d (.sl 2 xs)) = .d (.sl 2 xs) := fun xs => rfl
  have n1 := name_eq (sB_bytes s)
  have n2 := spellR_rest (sB_bytes s)
  simp only [runesD, rD_runeOf, nz2, eq_sB, n1, n2, text_eq, beq_self_eq_true, G14t_at, calmE, F_alive14, F_lpts, F_take, F_start, F_in, F_beg, F_name, F_rs1, F_rest, F_txt, F_rtxt, AV.flat, AV.flat.flatL, List.length_map, Int.reduceLE, Int.reduceLT, Int.reduceGT, Int.reduceGE, Int.reduceBEq, Int.reduceBNe, Int.reduceEq, Int.reduceToNat, Int.reduceSub, Int.reduceAdd, Int.reduceMul, Int.reducePow, Int.reduceNeg, goTG_val, goTG_new, goTG_up, goTG_none, goG_none, goG_new, goG_up, ne_eq, evK, evH, retHF, DRun_mk, runT_nil, runT_none, runT_guard, goT_val, goT_new, goT_store, goTH_true, goTH_false, evO, keys, Option.toList_some, Option.toList_none, nzL_nil, nzL_cons, nz_k, nz_sl, nz_nil, nz_agg, startL, evC, evV, goE_val, goE_new, goE_store, goH_true, goH_false, goG_val, lk_cons, lk_nil, lk_func, lk_int, lk_bool, lk_string, lk_slice, lk_agg, look_mk, St.effOf, eff, effCall, effBinC, isConst, effBin, effUn, effConv, effPick, effNil, effFold, fold1, effLoad, effStore, effFieldAddr, effField, fieldOf, sliceOf, effIndexAddr, effIndex, effLen, effExtract, effSlice, dats, bnd, effBuild, placesOf, effBuildSlice, effMakeSlice, effAppend, srcOf, fillA, chunk, seg, toD, toDs, put, eqAV, fieldsEq, leafEq, strip, unw, allB, selP_or, selP_and, tis, TyD.agg, AV.cells, AV.cell, allCell, vInt, vBool, vStr, subL_nil, subL_cons, upIds, AV.ids, AV.ids.idsL, AObj.ids, drops, Hp.get_cons, get_nil, retF, resL, one, fz, fz.fzL, List.map_cons, List.map_nil, List.nil_append, List.append_nil, List.cons_append, List.all_cons, List.all_nil, List.length_cons, List.length_nil, List.getElem?_cons_zero, List.getElem?_cons_succ, List.getD_cons_zero, List.getD_cons_succ, List.take_succ_cons, List.take_zero, List.drop_succ_cons, List.drop_zero, List.take_nil, List.drop_nil, List.contains_cons, List.contains_nil, Option.getD_some, Option.getD_none, Option.map_some, Option.map_none, if_true, if_false, true_and, and_true, and_self, or_self, or_false, false_or, false_and, and_false, reduceCtorEq, sel_and, sel_or, decide_eq_true_eq, Bool.and_eq_true, Bool.or_eq_true, Bool.and_true, Bool.true_and, Bool.or_false, Bool.false_or, Bool.true_or, Bool.or_true, Bool.not_true, Bool.not_false, Bool.false_eq_true, implies_true, not_false_eq_true, Nat.reduceLT, Nat.reduceEqDiff, Nat.reduceAdd, Nat.reduceMul, Nat.reduceMod, Nat.reduceLeDiff, Nat.reduceBEq, Nat.zero_add, Nat.add_zero, reduceIte, ↓reduceIte, List.not_mem_nil]
  refine ⟨fun h => ?_, ?_⟩
  · simp only [Bool.not_eq_true', ite_eq_right_iff, Bool.true_eq_false, imp_false, decide_eq_false_iff_not] at h
    split at h
    · cases h
    · omega
  by_cases c : ((l.length : Int) > 300 ∨ (s.size : Int) > 200) ∨ (!decide (okR l)) = true
  · rw [if_pos c]
  rw [if_neg c]
  have c1 : l.length ≤ 300 := by omega
  have c2 : s.size ≤ 200 := by omega
  have c3 : okR l := by
    refine Decidable.byContradiction fun h => c (.inr ?_)
    rw [decide_eq_false h]; rfl
  exact ⟨by omega, ⟨by omega, c3⟩, ⟨by omega, c3⟩, fun _ => ⟨by omega, c3⟩, fun _ => ⟨by omega, c3⟩, fun _ => by omega, fun _ => by omega, fun _ => by omega, fun _ => by omega, fun _ => by omega, fun _ => by omega, Sub.refl _⟩
theorem tells14_law (l : List (Int × Int)) (a r : Int) (s : ByteArray) (_ : l.length ≤ maxLen ∧ ∀ x ∈ l, (Lit.int .i64 x.1).wf = true ∧ (Lit.int .i64 x.2).wf = true) (_ : (Lit.int .i64 a).wf = true) (_ : (Lit.int .i64 r).wf = true) (_ : s.size ≤ maxLen) : Body Tryd.prog G14t (DRun Tryd.prog G14t) 3 [.d (runesD l), vInt .i64 a, vInt .i64 r, vStr s] (vBool true) := tells14_body l a r s
theorem encT41 (f : Nat) : IsEnc Tryd.prog f 41 (fun p : Int × Int => (Lit.int .i64 p.1).wf = true ∧ (Lit.int .i64 p.2).wf = true) (fun p => rD p) := by
  intro H enc W spare held cs r h
  obtain ⟨xs, h1, h2, h3⟩ := enc_struct (l := [(1, _), (1, _)]) Tryd.underlying41 (by kernel_rfl) (fun g hg => ⟨rfl, by kernel_rfl, (enc_int Tryd.underlying3).sub (fun _ => rfl), rfl, by kernel_rfl, (enc_int Tryd.underlying3).sub (fun _ => rfl), trivial⟩) H enc W spare held cs r h
  match xs, h1 with
  | [a, b], _ =>
    obtain ⟨-, ta, wa, ha⟩ := h2 0 a _ rfl rfl
    obtain ⟨-, tb, wb, hb⟩ := h2 1 b _ rfl rfl
    subst ha hb
    exact ⟨(ta, tb), ⟨wa, wb⟩, h3⟩
end Go.Proofs.YtelgddealjbgiaaDoor.Eng
