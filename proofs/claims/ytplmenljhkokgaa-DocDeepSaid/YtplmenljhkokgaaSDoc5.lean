/- The laws on documents, on the small machine. -/
import Derived.Test.YtplmenljhkokgaaSDoc4
import Derived.Test.YtplmenljhkokgaaEngLaw
namespace Go.Proofs.Ytplmenljhkokgaa.Eng
open Go Go.Proofs.Ytplmenljhkokgaa.Base
set_option linter.unusedVariables false
set_option maxRecDepth 100000
set_option linter.unusedSimpArgs false
noncomputable def F_rput (h : Nat → Option AObj) (d : Nat) : List AV → Option Eff
  | [.row o n, .d (.v (.int .i64 r))] => match h o with
    | some (.row e sz xs) => if e = 5 ∧ sz = 1 ∧ n = xs.length then some { sc := xs = (xs.map numOf).map (iD .u8) ∧ xs.length < 140737488355000, val := .row d (xs.length + (Utf.put r).length), up := [(d, some (.row 5 1 ((xs.map numOf ++ Utf.put r).map (iD .u8)))), (o, none)], new := true } else none
    | _ => none
  | _ => none
theorem rput_body (l : List Int) (hl : l.length < 140737488355000) (r : Int) : HBody Try.prog Gam.none (DRun Try.prog Gam.none) 18 [.row 10000 l.length, .d (.v (.int .i64 r))] [(10000, some (.row 5 1 (l.map (iD .u8))))] (.row 9000 (l.length + (Utf.put r).length)) [(9000, some (.row 5 1 ((l ++ Utf.put r).map (iD .u8))))] := by
  refine HBody.of Try.func18 Try.ntmps18 (by kernel_rfl) rfl rfl rfl rfl ?_
  simp only [List.length_map, goTG_val, goTG_new, goTG_up, goTG_none, goG_none, goG_new, goG_up, ne_eq, evK, evH, retHF, DRun_mk, runT_nil, runT_none, runT_guard, goT_val, goT_new, goT_store, goTH_true, goTH_false, evO, keys, Option.toList_some, Option.toList_none, nzL_nil, nzL_cons, nz_k, nz_sl, nz_nil, nz_agg, startL, evC, evV, goE_val, goE_new, goE_store, goH_true, goH_false, goG_val, lk_cons, lk_nil, lk_func, lk_int, lk_bool, lk_string, lk_slice, lk_agg, look_mk, St.effOf, eff, effCall, effBin, effUn, effConv, effPick, effNil, effFold, fold1, effLoad, effStore, effFieldAddr, effField, fieldOf, sliceOf, effIndexAddr, effIndex, effLen, effExtract, effSlice, bnd, effBuild, placesOf, effBuildSlice, effMakeSlice, effAppend, srcOf, fillA, chunk, seg, toD, toDs, put, eqAV, fieldsEq, leafEq, strip, unw, allB, selP_or, selP_and, tis, TyD.agg, AV.cells, AV.cell, allCell, vInt, vBool, vStr, subL_nil, subL_cons, upIds, AV.ids, AV.ids.idsL, AObj.ids, drops, Hp.get_cons, get_nil, retF, resL, one, fz, fz.fzL, List.map_cons, List.map_nil, List.nil_append, List.append_nil, List.cons_append, List.all_cons, List.all_nil, List.length_cons, List.length_nil, List.getElem?_cons_zero, List.getElem?_cons_succ, List.getD_cons_zero, List.getD_cons_succ, List.take_succ_cons, List.take_zero, List.drop_succ_cons, List.drop_zero, List.take_nil, List.drop_nil, List.contains_cons, List.contains_nil, Option.getD_some, Option.getD_none, Option.map_some, Option.map_none, if_true, if_false, true_and, and_true, and_self, or_self, or_false, false_or, false_and, and_false, reduceCtorEq, sel_and, sel_or, decide_eq_true_eq, Bool.and_eq_true, Bool.or_eq_true, Bool.and_true, Bool.true_and, Bool.or_false, Bool.false_or, Bool.true_or, Bool.or_true, Bool.not_true, Bool.not_false, Bool.false_eq_true, implies_true, not_false_eq_true, Nat.reduceLT, Nat.reduceEqDiff, Nat.reduceAdd, Nat.reduceMul, Nat.reduceMod, Nat.reduceLeDiff, Nat.reduceBEq, Nat.zero_add, Nat.add_zero, reduceIte, ↓reduceIte, List.not_mem_nil]
  have hfix : Utf.put r = Utf.enc (if Utf.isCp r then r else 65533) := rfl
  by_cases hr : Utf.isCp r
  rotate_left
  rw [if_pos (by unfold Utf.isCp at hr; omega)]
  rw [if_neg hr] at hfix
  have h2 : Utf.isCp 65533 := by decide
  generalize Utf.put r = pr at hfix ⊢
  clear hr r
  generalize (65533 : Int) = r at h2 hfix ⊢
  have hr := h2
  rotate_left
  rw [if_neg (by unfold Utf.isCp at hr; omega)]
  rw [if_pos hr] at hfix
  generalize Utf.put r = pr at hfix ⊢
  all_goals
    have hr' := hr
    unfold Utf.isCp at hr'
    have eu : ∀ n : Int, IntKind.u8.wrap n = n % 256 := fun n => by rw [IntKind.wrap_u8]
    have e6 : Int.fdiv r (2 ^ min (Int.toNat 6) IntKind.i64.bits) = r / 64 := by rw [Int.fdiv_eq_ediv_of_nonneg _ (by decide)]; rfl
    have e12 : Int.fdiv r (2 ^ min (Int.toNat 12) IntKind.i64.bits) = r / 4096 := by rw [Int.fdiv_eq_ediv_of_nonneg _ (by decide)]; rfl
    have e18 : Int.fdiv r (2 ^ min (Int.toNat 18) IntKind.i64.bits) = r / 262144 := by rw [Int.fdiv_eq_ediv_of_nonneg _ (by decide)]; rfl
    simp only [eu, e6, e12, e18]
    by_cases c1 : r < 128
    · rw [if_pos c1]
      rw [← bytes1 hr c1] at hfix
      subst hfix
      refine ⟨by omega, fun o => if o = 9000 then 26 else o, ?_⟩
      simp only [List.map_append, List.map_cons, List.map_nil, List.length_append, List.length_map, List.length_cons, List.length_nil, iD, Mt_tup, Mt_agg, Mt_fn, forall_eq, forall_eq_or_imp, ne_eq, List.all_cons, List.all_nil, pr, Nat.reduceLeDiff, slR_nil, slR_cons, hpR_nil, hpR_cells, hpR_row, idsR_nil, idsR_cons, mtE_v, mtE_sl, mtE_nil, mtE_refl, mtE_row, mtE_born, mtE_ptr, mtE_rp, mtE_agg, mtE_tup, mtE_fn, mtE_ep, MtL_nil, MtL_cons, Mt_v, Mt_sl, Mt_nil, Mt_refl, Mt_row, Mt_born, Mt_ptr, MtO_cells, MtO_row, liveIds, distinct, Dat.v.injEq, Dat.sl.injEq, Value.int.injEq, Value.bool.injEq, Value.string.injEq, lk_cons, lk_nil, subL_nil, subL_cons, upIds, AV.ids, AV.ids.idsL, AObj.ids, Hp.get_cons, get_nil, allCell, AV.cell, vInt, vBool, vStr, id, true_and, and_true, and_self, List.append_nil, List.nil_append, List.not_mem_nil, List.mem_cons, or_false, false_or, or_self, not_true_eq_false, not_false_eq_true, false_imp_iff, false_implies, List.map_nil, not_false_eq_true, List.contains_cons, List.contains_nil, Bool.or_false, Bool.false_or, Bool.true_or, Bool.or_true, Bool.and_true, Bool.true_and, implies_true, if_true, if_false, reduceCtorEq, Nat.reduceEqDiff, Nat.reduceBEq, Nat.reduceAdd, reduceIte, ↓reduceIte]
    · rw [if_neg c1]
      by_cases c2 : r < 2048
      · rw [if_pos c2]
        rw [← bytes2 hr (by omega) c2] at hfix
        subst hfix
        refine ⟨by omega, by omega, fun o => if o = 9000 then 40 else o, ?_⟩
        simp only [List.map_append, List.map_cons, List.map_nil, List.length_append, List.length_map, List.length_cons, List.length_nil, iD, Mt_tup, Mt_agg, Mt_fn, forall_eq, forall_eq_or_imp, ne_eq, List.all_cons, List.all_nil, pr, Nat.reduceLeDiff, slR_nil, slR_cons, hpR_nil, hpR_cells, hpR_row, idsR_nil, idsR_cons, mtE_v, mtE_sl, mtE_nil, mtE_refl, mtE_row, mtE_born, mtE_ptr, mtE_rp, mtE_agg, mtE_tup, mtE_fn, mtE_ep, MtL_nil, MtL_cons, Mt_v, Mt_sl, Mt_nil, Mt_refl, Mt_row, Mt_born, Mt_ptr, MtO_cells, MtO_row, liveIds, distinct, Dat.v.injEq, Dat.sl.injEq, Value.int.injEq, Value.bool.injEq, Value.string.injEq, lk_cons, lk_nil, subL_nil, subL_cons, upIds, AV.ids, AV.ids.idsL, AObj.ids, Hp.get_cons, get_nil, allCell, AV.cell, vInt, vBool, vStr, id, true_and, and_true, and_self, List.append_nil, List.nil_append, List.not_mem_nil, List.mem_cons, or_false, false_or, or_self, not_true_eq_false, not_false_eq_true, false_imp_iff, false_implies, List.map_nil, not_false_eq_true, List.contains_cons, List.contains_nil, Bool.or_false, Bool.false_or, Bool.true_or, Bool.or_true, Bool.and_true, Bool.true_and, implies_true, if_true, if_false, reduceCtorEq, Nat.reduceEqDiff, Nat.reduceBEq, Nat.reduceAdd, reduceIte, ↓reduceIte]
      · rw [if_neg c2]
        by_cases c3 : r < 65536
        · rw [if_pos c3]
          rw [← bytes3 hr (by omega) c3] at hfix
          subst hfix
          refine ⟨by omega, by omega, by omega, fun o => if o = 9000 then 59 else o, ?_⟩
          simp only [List.map_append, List.map_cons, List.map_nil, List.length_append, List.length_map, List.length_cons, List.length_nil, iD, Mt_tup, Mt_agg, Mt_fn, forall_eq, forall_eq_or_imp, ne_eq, List.all_cons, List.all_nil, pr, Nat.reduceLeDiff, slR_nil, slR_cons, hpR_nil, hpR_cells, hpR_row, idsR_nil, idsR_cons, mtE_v, mtE_sl, mtE_nil, mtE_refl, mtE_row, mtE_born, mtE_ptr, mtE_rp, mtE_agg, mtE_tup, mtE_fn, mtE_ep, MtL_nil, MtL_cons, Mt_v, Mt_sl, Mt_nil, Mt_refl, Mt_row, Mt_born, Mt_ptr, MtO_cells, MtO_row, liveIds, distinct, Dat.v.injEq, Dat.sl.injEq, Value.int.injEq, Value.bool.injEq, Value.string.injEq, lk_cons, lk_nil, subL_nil, subL_cons, upIds, AV.ids, AV.ids.idsL, AObj.ids, Hp.get_cons, get_nil, allCell, AV.cell, vInt, vBool, vStr, id, true_and, and_true, and_self, List.append_nil, List.nil_append, List.not_mem_nil, List.mem_cons, or_false, false_or, or_self, not_true_eq_false, not_false_eq_true, false_imp_iff, false_implies, List.map_nil, not_false_eq_true, List.contains_cons, List.contains_nil, Bool.or_false, Bool.false_or, Bool.true_or, Bool.or_true, Bool.and_true, Bool.true_and, implies_true, if_true, if_false, reduceCtorEq, Nat.reduceEqDiff, Nat.reduceBEq, Nat.reduceAdd, reduceIte, ↓reduceIte]
        · rw [if_neg c3]
          rw [← bytes4 hr (by omega)] at hfix
          subst hfix
          refine ⟨by omega, by omega, by omega, by omega, fun o => if o = 9000 then 80 else o, ?_⟩
          simp only [List.map_append, List.map_cons, List.map_nil, List.length_append, List.length_map, List.length_cons, List.length_nil, iD, Mt_tup, Mt_agg, Mt_fn, forall_eq, forall_eq_or_imp, ne_eq, List.all_cons, List.all_nil, pr, Nat.reduceLeDiff, slR_nil, slR_cons, hpR_nil, hpR_cells, hpR_row, idsR_nil, idsR_cons, mtE_v, mtE_sl, mtE_nil, mtE_refl, mtE_row, mtE_born, mtE_ptr, mtE_rp, mtE_agg, mtE_tup, mtE_fn, mtE_ep, MtL_nil, MtL_cons, Mt_v, Mt_sl, Mt_nil, Mt_refl, Mt_row, Mt_born, Mt_ptr, MtO_cells, MtO_row, liveIds, distinct, Dat.v.injEq, Dat.sl.injEq, Value.int.injEq, Value.bool.injEq, Value.string.injEq, lk_cons, lk_nil, subL_nil, subL_cons, upIds, AV.ids, AV.ids.idsL, AObj.ids, Hp.get_cons, get_nil, allCell, AV.cell, vInt, vBool, vStr, id, true_and, and_true, and_self, List.append_nil, List.nil_append, List.not_mem_nil, List.mem_cons, or_false, false_or, or_self, not_true_eq_false, not_false_eq_true, false_imp_iff, false_implies, List.map_nil, not_false_eq_true, List.contains_cons, List.contains_nil, Bool.or_false, Bool.false_or, Bool.true_or, Bool.or_true, Bool.and_true, Bool.true_and, implies_true, if_true, if_false, reduceCtorEq, Nat.reduceEqDiff, Nat.reduceBEq, Nat.reduceAdd, reduceIte, ↓reduceIte]
theorem rput_ok {Γ : Gam} (K : Known Try.prog Γ) : Known Try.prog (Γ.addH 18 F_rput) := by
  refine K.addH (fun hp d args e he hs => ?_) (fun d args h h' ha => ?_)
  · unfold F_rput at he
    split at he
    case h_2 => cases he
    rename_i o n r
    split at he
    case h_2 => cases he
    rename_i e0 sz xs ho
    split at he
    case isFalse => cases he
    rename_i hc
    obtain ⟨rfl, rfl, rfl⟩ := hc
    cases he
    obtain ⟨q1, q2⟩ := hs
    have hb := rput_body (xs.map numOf) (by simpa using q2) r
    rw [← q1, List.length_map] at hb
    refine ⟨⟨fun _ => o, [], [.row 10000 xs.length, .d (.v (.int .i64 r))], [(10000, some (.row 5 1 xs))], .row 9000 (xs.length + (Utf.put r).length), [(9000, .row 5 1 ((xs.map numOf ++ Utf.put r).map (iD .u8)))], true⟩, rfl, ⟨⟨⟨by simp, rfl, rfl⟩, .inl rfl, trivial⟩, ?_, ?_⟩, (Known.none _).hcalm mixed rfl hb, rfl, fun o' => rfl, rfl⟩
    · refine ⟨?_, trivial⟩
      rw [if_neg (by simp)]
      simp only [ho]
      exact ⟨rfl, rfl, rfl⟩
    · exact ⟨(fun _ b hb => nomatch (show b ∈ ([] : List Nat) from hb)), trivial⟩
  · unfold F_rput
    split
    · rw [ha _ (by simp [AV.ids.idsL, AV.ids])]
    · rfl
noncomputable def G_al : Gam := ((((Gam.none.add 9 fun a => F_Flat (NT.nz.nzL [.a [.k, .k, .k, .s 4]] a)).add 17 fun a => F_Cat (NT.nz.nzL [.k, .r fun _ => 4] a)).add 16 fun a => F_DText (NT.nz.nzL [] a)).add 13 fun a => F_Wide (NT.nz.nzL [] a)).add 11 fun a => F_Right (NT.nz.nzL [.a [.k, .k, .k, .s 4]] a)
theorem known_al : Known Try.prog G_al := (((((Known.none _).addC _ Flat_calm).addC _ Cat_calm).addC _ DText_calm).addC _ Wide_calm).addC _ Right_calm
theorem G_al_at : (∀ h d a, G_al 9 h d a = calmE (fun a => F_Flat (NT.nz.nzL [.a [.k, .k, .k, .s 4]] a)) h a) ∧ (∀ h d a, G_al 17 h d a = calmE (fun a => F_Cat (NT.nz.nzL [.k, .r fun _ => 4] a)) h a) ∧ (∀ h d a, G_al 16 h d a = calmE (fun a => F_DText (NT.nz.nzL [] a)) h a) ∧ (∀ h d a, G_al 13 h d a = calmE (fun a => F_Wide (NT.nz.nzL [] a)) h a) ∧ (∀ h d a, G_al 11 h d a = calmE (fun a => F_Right (NT.nz.nzL [.a [.k, .k, .k, .s 4]] a)) h a) := ⟨fun _ _ _ => rfl, fun _ _ _ => rfl, fun _ _ _ => rfl, fun _ _ _ => rfl, fun _ _ _ => rfl⟩
theorem alive10_body : Body Try.prog G_al (DRun Try.prog G_al) 7 [] (vBool true) := by
  refine Body.of Try.func7 Try.ntmps7 (by kernel_rfl) rfl rfl rfl ?_
  simp only [G_al_at, calmE, F_Flat, F_Cat, F_DText, F_Wide, F_Right, nz_r, nnR, nnC, nn, AV.flat, AV.flat.flatL, List.length_map, goTG_val, goTG_new, goTG_up, goTG_none, goG_none, goG_new, goG_up, ne_eq, evK, evH, retHF, DRun_mk, runT_nil, runT_none, runT_guard, goT_val, goT_new, goT_store, goTH_true, goTH_false, evO, keys, Option.toList_some, Option.toList_none, nzL_nil, nzL_cons, nz_k, nz_sl, nz_nil, nz_agg, startL, evC, evV, goE_val, goE_new, goE_store, goH_true, goH_false, goG_val, lk_cons, lk_nil, lk_func, lk_int, lk_bool, lk_string, lk_slice, lk_agg, look_mk, St.effOf, eff, effCall, effBin, effUn, effConv, effPick, effNil, effFold, fold1, effLoad, effStore, effFieldAddr, effField, fieldOf, sliceOf, effIndexAddr, effIndex, effLen, effExtract, effSlice, bnd, effBuild, placesOf, effBuildSlice, effMakeSlice, effAppend, srcOf, fillA, chunk, seg, toD, toDs, put, eqAV, fieldsEq, leafEq, strip, unw, allB, selP_or, selP_and, tis, TyD.agg, AV.cells, AV.cell, allCell, vInt, vBool, vStr, subL_nil, subL_cons, upIds, AV.ids, AV.ids.idsL, AObj.ids, drops, Hp.get_cons, get_nil, retF, resL, one, fz, fz.fzL, List.map_cons, List.map_nil, List.nil_append, List.append_nil, List.cons_append, List.all_cons, List.all_nil, List.length_cons, List.length_nil, List.getElem?_cons_zero, List.getElem?_cons_succ, List.getD_cons_zero, List.getD_cons_succ, List.take_succ_cons, List.take_zero, List.drop_succ_cons, List.drop_zero, List.take_nil, List.drop_nil, List.contains_cons, List.contains_nil, Option.getD_some, Option.getD_none, Option.map_some, Option.map_none, if_true, if_false, true_and, and_true, and_self, or_self, or_false, false_or, false_and, and_false, reduceCtorEq, sel_and, sel_or, decide_eq_true_eq, Bool.and_eq_true, Bool.or_eq_true, Bool.and_true, Bool.true_and, Bool.or_false, Bool.false_or, Bool.true_or, Bool.or_true, Bool.not_true, Bool.not_false, Bool.false_eq_true, implies_true, not_false_eq_true, Nat.reduceLT, Nat.reduceEqDiff, Nat.reduceAdd, Nat.reduceMul, Nat.reduceMod, Nat.reduceLeDiff, Nat.reduceBEq, Nat.zero_add, Nat.add_zero, reduceIte, ↓reduceIte, List.not_mem_nil]
  have e := docsOf_map [.mk 1 3 ⟨#[97]⟩ [], .mk 2 0 ByteArray.empty [], .mk 1 (-1) ⟨#[98]⟩ []]
  have e0 := docsOf_map []
  simp only [List.map_cons, List.map_nil, docD_eq, Doc.k, Doc.f, Doc.t, Doc.kids] at e e0
  have r1 : right 200 (.mk 6 0 ByteArray.empty [.mk 1 3 ⟨#[97]⟩ [], .mk 2 0 ByteArray.empty [], .mk 1 (-1) ⟨#[98]⟩ []]) = true := by
    have : (ByteArray.empty.toList == (⟨#[]⟩ : ByteArray).toList) = true := beq_self_eq_true _
    simp [right, rights, rightC, this]
  have r2 : right 200 (.mk 1 3 ⟨#[97]⟩ []) = true := by simp [right, rightC]
  have t1 : flatT (.mk 6 0 ByteArray.empty [.mk 1 3 ⟨#[97]⟩ [], .mk 2 0 ByteArray.empty [], .mk 1 (-1) ⟨#[98]⟩ []]) = ([97, 32, 98], true) := by
    rw [flatT, if_pos ⟨r1, rfl⟩]; rfl
  have o1 : okD (.mk 6 0 ByteArray.empty [.mk 1 3 ⟨#[97]⟩ [], .mk 2 0 ByteArray.empty [], .mk 1 (-1) ⟨#[98]⟩ []]) := by simp [okD, okDs, maxLen]; decide
  have o2 : okD (.mk 1 3 ⟨#[97]⟩ []) := by simp [okD, okDs, maxLen]; decide
  have w0 : wide ⟨#[]⟩ = 0 := rfl
  rw [e, e0, t1, r2, w0]
  refine ⟨⟨?_, o1, by decide⟩, by decide, fun _ => ⟨rfl, o2⟩, Sub.eq ?_⟩
  · simp only [List.map_cons, List.map_nil, docD_eq, Doc.k, Doc.f, Doc.t, Doc.kids]
  · rw [if_pos ⟨⟨by decide, beq_self_eq_true _⟩, rfl⟩]
theorem alive10_calm : Calm Try.prog 7 [] (vBool true) := known_al.calm mixed rfl rfl alive10_body
def F_alive : List AV → Option (Prop × AV)
  | [] => some (True, vBool true)
  | _ => none
theorem docsOf_nil : docsOf [] = [] := docsOf_map []
theorem docs1 (A : Doc) : docsOf [[.v (.int .i64 A.k), .v (.int .i64 A.f), .v (.string A.t), .sl 4 (A.kids.map docD)]] = [A] := by
  have := docsOf_map [A]
  simpa only [List.map_cons, List.map_nil, docD_eq] using this
theorem docs2 (A B : Doc) : docsOf [[.v (.int .i64 A.k), .v (.int .i64 A.f), .v (.string A.t), .sl 4 (A.kids.map docD)], [.v (.int .i64 B.k), .v (.int .i64 B.f), .v (.string B.t), .sl 4 (B.kids.map docD)]] = [A, B] := by
  have := docsOf_map [A, B]
  simpa only [List.map_cons, List.map_nil, docD_eq] using this
theorem few_tot {D : Doc} (h : sizeD 0 D ≤ 300) : tot D ≤ 30300 := by
  have := tot_size 0 D (by decide) (by decide) h
  omega
noncomputable def G10 : Gam := (((((((((((Gam.none.addH 18 F_rput).add 7 fun a => F_alive (NT.nz.nzL [] a)).add 8 fun a => F_Few (NT.nz.nzL [.a [.k, .k, .k, .s 4]] a)).add 9 fun a => F_Flat (NT.nz.nzL [.a [.k, .k, .k, .s 4]] a)).add 10 fun a => F_RFlat (NT.nz.nzL [.a [.k, .k, .k, .s 4]] a)).add 11 fun a => F_Right (NT.nz.nzL [.a [.k, .k, .k, .s 4]] a)).add 12 fun a => F_Right (NT.nz.nzL [.a [.k, .k, .k, .s 4]] a)).add 13 fun a => F_Wide (NT.nz.nzL [] a)).add 14 fun a => F_Wide (NT.nz.nzL [] a)).add 15 fun a => F_same (NT.nz.nzL [.a [.k, .k, .k, .s 4], .a [.k, .k, .k, .s 4]] a)).add 16 fun a => F_DText (NT.nz.nzL [] a)).add 17 fun a => F_Cat (NT.nz.nzL [.k, .s 4] a)
theorem known10 : Known Try.prog G10 := (((((((((((rput_ok (Known.none _)).addC _ (fun args sc res h _ => by
    unfold F_alive at h
    split at h <;> cases h
    exact alive10_calm)).addC _ Few_calm).addC _ Flat_calm).addC _ RF_calm).addC _ Right_calm).addC _ RD_calm).addC _ Wide_calm).addC _ RWide_calm).addC _ same_calm).addC _ DText_calm).addC _ Cat_calm
theorem G10_at : (∀ h d a, G10 18 h d a = F_rput h d a) ∧ (∀ h d a, G10 7 h d a = calmE (fun a => F_alive (NT.nz.nzL [] a)) h a) ∧ (∀ h d a, G10 8 h d a = calmE (fun a => F_Few (NT.nz.nzL [.a [.k, .k, .k, .s 4]] a)) h a) ∧ (∀ h d a, G10 9 h d a = calmE (fun a => F_Flat (NT.nz.nzL [.a [.k, .k, .k, .s 4]] a)) h a) ∧ (∀ h d a, G10 10 h d a = calmE (fun a => F_RFlat (NT.nz.nzL [.a [.k, .k, .k, .s 4]] a)) h a) ∧ (∀ h d a, G10 11 h d a = calmE (fun a => F_Right (NT.nz.nzL [.a [.k, .k, .k, .s 4]] a)) h a) ∧ (∀ h d a, G10 12 h d a = calmE (fun a => F_Right (NT.nz.nzL [.a [.k, .k, .k, .s 4]] a)) h a) ∧ (∀ h d a, G10 13 h d a = calmE (fun a => F_Wide (NT.nz.nzL [] a)) h a) ∧ (∀ h d a, G10 14 h d a = calmE (fun a => F_Wide (NT.nz.nzL [] a)) h a) ∧ (∀ h d a, G10 15 h d a = calmE (fun a => F_same (NT.nz.nzL [.a [.k, .k, .k, .s 4], .a [.k, .k, .k, .s 4]] a)) h a) ∧ (∀ h d a, G10 16 h d a = calmE (fun a => F_DText (NT.nz.nzL [] a)) h a) ∧ (∀ h d a, G10 17 h d a = calmE (fun a => F_Cat (NT.nz.nzL [.k, .s 4] a)) h a) := ⟨fun _ _ _ => rfl, fun _ _ _ => rfl, fun _ _ _ => rfl, fun _ _ _ => rfl, fun _ _ _ => rfl, fun _ _ _ => rfl, fun _ _ _ => rfl, fun _ _ _ => rfl, fun _ _ _ => rfl, fun _ _ _ => rfl, fun _ _ _ => rfl, fun _ _ _ => rfl⟩
theorem DocTells_body (D : Doc) (s : ByteArray) (f k : Int) (h1 : okD D) (h2 : s.size ≤ maxLen) (_ : (Lit.int .i64 f).wf = true) (_ : (Lit.int .i64 k).wf = true) : Body Try.prog G10 (DRun Try.prog G10) 3 [.agg ((docD D).map .d), .d (.v (.string s)), .d (.v (.int .i64 f)), .d (.v (.int .i64 k))] (vBool true) := by
  refine Body.of Try.func3 Try.ntmps3 (by kernel_rfl) rfl rfl rfl ?_
  simp only [docD_eq, G10_at, calmE, F_alive, F_Few, F_Flat, F_RFlat, F_Right, F_Wide, F_same, F_DText, F_Cat, docsOf_map, Doc.eta, docsOf_nil, docs1, docs2, sameD_refl, beq_self_eq_true, Bool.and_self, and_self, if_true, forall_const, List.map_nil, AV.flat, AV.flat.flatL, List.length_map, goTG_val, goTG_new, goTG_up, goTG_none, goG_none, goG_new, goG_up, ne_eq, evK, evH, retHF, DRun_mk, runT_nil, runT_none, runT_guard, goT_val, goT_new, goT_store, goTH_true, goTH_false, evO, keys, Option.toList_some, Option.toList_none, nzL_nil, nzL_cons, nz_k, nz_sl, nz_nil, nz_agg, startL, evC, evV, goE_val, goE_new, goE_store, goH_true, goH_false, goG_val, lk_cons, lk_nil, lk_func, lk_int, lk_bool, lk_string, lk_slice, lk_agg, look_mk, St.effOf, eff, effCall, effBin, effUn, effConv, effPick, effNil, effFold, fold1, effLoad, effStore, effFieldAddr, effField, fieldOf, sliceOf, effIndexAddr, effIndex, effLen, effExtract, effSlice, bnd, effBuild, placesOf, effBuildSlice, effMakeSlice, effAppend, srcOf, fillA, chunk, seg, toD, toDs, put, eqAV, fieldsEq, leafEq, strip, unw, allB, selP_or, selP_and, tis, TyD.agg, AV.cells, AV.cell, allCell, vInt, vBool, vStr, subL_nil, subL_cons, upIds, AV.ids, AV.ids.idsL, AObj.ids, drops, Hp.get_cons, get_nil, retF, resL, one, fz, fz.fzL, List.map_cons, List.map_nil, List.nil_append, List.append_nil, List.cons_append, List.all_cons, List.all_nil, List.length_cons, List.length_nil, List.getElem?_cons_zero, List.getElem?_cons_succ, List.getD_cons_zero, List.getD_cons_succ, List.take_succ_cons, List.take_zero, List.drop_succ_cons, List.drop_zero, List.take_nil, List.drop_nil, List.contains_cons, List.contains_nil, Option.getD_some, Option.getD_none, Option.map_some, Option.map_none, if_true, if_false, true_and, and_true, and_self, or_self, or_false, false_or, false_and, and_false, reduceCtorEq, sel_and, sel_or, decide_eq_true_eq, Bool.and_eq_true, Bool.or_eq_true, Bool.and_true, Bool.true_and, Bool.or_false, Bool.false_or, Bool.true_or, Bool.or_true, Bool.not_true, Bool.not_false, Bool.false_eq_true, implies_true, not_false_eq_true, Nat.reduceLT, Nat.reduceEqDiff, Nat.reduceAdd, Nat.reduceMul, Nat.reduceMod, Nat.reduceLeDiff, Nat.reduceBEq, Nat.zero_add, Nat.add_zero, reduceIte, ↓reduceIte, List.not_mem_nil]
  refine ⟨h1, ?_⟩
  by_cases c : (!decide (sizeD 0 D ≤ 300)) = true ∨ (s.size : Int) > 200
  · rw [if_pos c]
  · rw [if_neg c]
    have c1 : sizeD 0 D ≤ 300 := by
      rcases Int.lt_or_le 300 (sizeD 0 D) with h | h
      · exact absurd (.inl (by simp; omega)) c
      · exact h
    have c2 : (s.size : Int) ≤ 200 := by
      rcases Int.lt_or_le 200 (s.size : Int) with h | h
      · exact absurd (.inr h) c
      · exact h
    have ht := few_tot c1
    have hf := flatS_tot D
    refine ⟨⟨h1, by omega⟩, ⟨h1, by omega⟩, h1, h1, by omega, by omega, ⟨h2, Nat.zero_le _, trivial⟩, ?_⟩
    exact ⟨⟨Nat.zero_le _, by show 2 ≤ maxLen; decide, h1, h1, trivial⟩, by kernel_rfl, Sub.refl _⟩
theorem ba_size (l : List UInt8) : (⟨l.toArray⟩ : ByteArray).size = l.length := by rw [ByteArray.size]; simp
theorem ba_app (a b : List UInt8) : (⟨a.toArray⟩ : ByteArray) ++ ⟨b.toArray⟩ = ⟨(a ++ b).toArray⟩ := by
  apply ByteArray.ext
  simp
theorem flatT_true {D : Doc} (h : (flatT D).2 = true) : right 200 D = true ∧ (flatS D).1 = true ∧ (flatT D).1 = (flatS D).2.1 := by
  unfold flatT at h ⊢
  split at h
  · rename_i c; rw [if_pos c]; exact ⟨c.1, c.2, rfl⟩
  · cases h
theorem flatT_false {D : Doc} (h : (flatT D).2 = false) : (flatT D).1 = [] := by
  unfold flatT at h ⊢
  split at h
  · cases h
  · rename_i c; rw [if_neg c]
theorem flat_pair {A B : Doc} {k : Int} (hk : 5 ≤ k ∧ k ≤ 7) (ha : (flatS A).1 = true) : flatS (.mk k 0 ByteArray.empty [A, B]) = ((flatS B).1, (flatS A).2.1 ++ (flatS B).2.1, (flatS A).2.2 || (flatS B).2.2) := by
  rw [flatS, if_neg (by omega)]
  simp only [if_neg (show ¬ k = 1 by omega), if_neg (show ¬ k = 2 by omega), flatsS, ha, if_true]
  cases hB : (flatS B).1 <;> simp [hB]
theorem flat_pair_le {A B : Doc} {k : Int} (hk : 5 ≤ k ∧ k ≤ 7) : (flatS (.mk k 0 ByteArray.empty [A, B])).2.1.length ≤ 1 + tot A + tot B := by
  have := flatS_tot (.mk k 0 ByteArray.empty [A, B])
  simp only [tot, tots, show ByteArray.empty.size = 0 from rfl] at this
  omega
theorem DocJoins_body (A B : Doc) (k : Int) (h1 : okD A) (h2 : okD B) (_ : (Lit.int .i64 k).wf = true) : Body Try.prog G10 (DRun Try.prog G10) 4 [.agg ((docD A).map .d), .agg ((docD B).map .d), .d (.v (.int .i64 k))] (vBool true) := by
  refine Body.of Try.func4 Try.ntmps4 (by kernel_rfl) rfl rfl rfl ?_
  simp only [docD_eq, G10_at, calmE, F_alive, F_Few, F_Flat, F_RFlat, F_Right, F_Wide, F_same, F_DText, F_Cat, docsOf_map, Doc.eta, docsOf_nil, docs1, docs2, sameD_refl, beq_self_eq_true, Bool.and_self, and_self, if_true, forall_const, List.map_nil, AV.flat, AV.flat.flatL, List.length_map, goTG_val, goTG_new, goTG_up, goTG_none, goG_none, goG_new, goG_up, ne_eq, evK, evH, retHF, DRun_mk, runT_nil, runT_none, runT_guard, goT_val, goT_new, goT_store, goTH_true, goTH_false, evO, keys, Option.toList_some, Option.toList_none, nzL_nil, nzL_cons, nz_k, nz_sl, nz_nil, nz_agg, startL, evC, evV, goE_val, goE_new, goE_store, goH_true, goH_false, goG_val, lk_cons, lk_nil, lk_func, lk_int, lk_bool, lk_string, lk_slice, lk_agg, look_mk, St.effOf, eff, effCall, effBin, effUn, effConv, effPick, effNil, effFold, fold1, effLoad, effStore, effFieldAddr, effField, fieldOf, sliceOf, effIndexAddr, effIndex, effLen, effExtract, effSlice, bnd, effBuild, placesOf, effBuildSlice, effMakeSlice, effAppend, srcOf, fillA, chunk, seg, toD, toDs, put, eqAV, fieldsEq, leafEq, strip, unw, allB, selP_or, selP_and, tis, TyD.agg, AV.cells, AV.cell, allCell, vInt, vBool, vStr, subL_nil, subL_cons, upIds, AV.ids, AV.ids.idsL, AObj.ids, drops, Hp.get_cons, get_nil, retF, resL, one, fz, fz.fzL, List.map_cons, List.map_nil, List.nil_append, List.append_nil, List.cons_append, List.all_cons, List.all_nil, List.length_cons, List.length_nil, List.getElem?_cons_zero, List.getElem?_cons_succ, List.getD_cons_zero, List.getD_cons_succ, List.take_succ_cons, List.take_zero, List.drop_succ_cons, List.drop_zero, List.take_nil, List.drop_nil, List.contains_cons, List.contains_nil, Option.getD_some, Option.getD_none, Option.map_some, Option.map_none, if_true, if_false, true_and, and_true, and_self, or_self, or_false, false_or, false_and, and_false, reduceCtorEq, sel_and, sel_or, decide_eq_true_eq, Bool.and_eq_true, Bool.or_eq_true, Bool.and_true, Bool.true_and, Bool.or_false, Bool.false_or, Bool.true_or, Bool.or_true, Bool.not_true, Bool.not_false, Bool.false_eq_true, implies_true, not_false_eq_true, Nat.reduceLT, Nat.reduceEqDiff, Nat.reduceAdd, Nat.reduceMul, Nat.reduceMod, Nat.reduceLeDiff, Nat.reduceBEq, Nat.zero_add, Nat.add_zero, reduceIte, ↓reduceIte, List.not_mem_nil]
  refine ⟨h1, fun _ => h2, ?_⟩
  by_cases c : (((!decide (sizeD 0 A ≤ 300)) = true ∨ (!decide (sizeD 0 B ≤ 300)) = true) ∨ k < 5) ∨ k > 7
  · rw [if_pos c]
  rw [if_neg c]
  have hk : 5 ≤ k ∧ k ≤ 7 := by
    refine ⟨?_, ?_⟩
    · rcases Int.lt_or_le k 5 with h | h
      · exact absurd (.inl (.inr h)) c
      · exact h
    · rcases Int.lt_or_le 7 k with h | h
      · exact absurd (.inr h) c
      · exact h
  have cA : sizeD 0 A ≤ 300 := by
    rcases Int.lt_or_le 300 (sizeD 0 A) with h | h
    · exact absurd (.inl (.inl (.inl (by simp; omega)))) c
    · exact h
  have cB : sizeD 0 B ≤ 300 := by
    rcases Int.lt_or_le 300 (sizeD 0 B) with h | h
    · exact absurd (.inl (.inl (.inr (by simp; omega)))) c
    · exact h
  have tA := few_tot cA
  have tB := few_tot cB
  have fA := flatS_tot A
  have fB := flatS_tot B
  have fD := flat_pair_le (A := A) (B := B) hk
  have oD : okD (.mk k 0 ByteArray.empty [A, B]) := ⟨Nat.zero_le _, by show 2 ≤ maxLen; decide, h1, h2, trivial⟩
  refine ⟨⟨h1, by omega⟩, ⟨h2, by omega⟩, ⟨oD, by omega⟩, ?_⟩
  cases ha : (flatT A).2 with
  | false =>
    rw [if_pos (.inl rfl), flatT_false ha]
    exact Sub.refl _
  | true =>
    obtain ⟨a1, a2, a3⟩ := flatT_true ha
    cases hb : (flatT B).2 with
    | false =>
      rw [if_pos (.inr rfl), Bool.or_true]
    | true =>
      obtain ⟨b1, b2, b3⟩ := flatT_true hb
      rw [if_neg (by simp)]
      refine ⟨oD, ?_⟩
      cases hr : right 200 (.mk k 0 ByteArray.empty [A, B]) with
      | false =>
        rw [if_pos (show (!false) = true from rfl), show flatT (.mk k 0 ByteArray.empty [A, B]) = ([], false) by simp [flatT, hr]]
        exact Sub.refl _
      | true =>
        have hp := flat_pair (B := B) hk a2
        have ht : flatT (.mk k 0 ByteArray.empty [A, B]) = ((flatS A).2.1 ++ (flatS B).2.1, true) := by
          rw [flatT, if_pos ⟨hr, by rw [hp]; exact b2⟩, hp]
        rw [if_neg (by simp), ht, a3, b3, ba_size, ba_size, ba_app]
        refine ⟨fun _ => by omega, Sub.eq ?_⟩
        simp
/-- So deep. -/
def nestD (k : Int) : Nat → Doc
  | 0 => .mk 1 0 ⟨#[120]⟩ []
  | n + 1 => .mk k 0 ByteArray.empty [nestD k n]
theorem nest_flat {k : Int} (hk : 5 ≤ k ∧ k ≤ 7) : ∀ n, flatS (nestD k n) = (true, [120], true)
  | 0 => rfl
  | n + 1 => by
    rw [nestD, flatS, if_neg (by omega)]
    simp only [if_neg (show ¬ k = 1 by omega), if_neg (show ¬ k = 2 by omega), flatsS, nest_flat hk n]
    rfl
theorem nest_right {k : Int} (hk : 5 ≤ k ∧ k ≤ 7) : ∀ (n : Nat) (left : Int), 0 ≤ left → right left (nestD k n) = decide ((n : Int) ≤ left)
  | 0, left, h => by rw [nestD, right, rightC, if_pos rfl]; simpa using h
  | n + 1, left, h => by
    rw [nestD, right, rightC, if_neg (by omega), if_neg (by omega), if_pos (by omega), rights, rights, Bool.and_true]
    have e : (ByteArray.empty.toList == (⟨#[]⟩ : ByteArray).toList) = true := beq_self_eq_true _
    by_cases h0 : 0 < left
    · rw [if_pos ⟨⟨h0, e⟩, rfl⟩, nest_right hk n (left - 1) (by omega)]
      by_cases h1 : (n : Int) ≤ left - 1
      · rw [decide_eq_true h1, decide_eq_true (by omega)]
      · rw [decide_eq_false h1, decide_eq_false (by omega)]
    · rw [if_neg (fun q => h0 q.1.1), decide_eq_false (by omega)]
theorem nest_ok (k : Int) : ∀ n, okD (nestD k n)
  | 0 => ⟨by decide, Nat.zero_le _, trivial⟩
  | n + 1 => ⟨by decide, by show 1 ≤ maxLen; decide, nest_ok k n, trivial⟩
theorem DocDeep_body (n k : Int) (_ : (Lit.int .i64 n).wf = true) (_ : (Lit.int .i64 k).wf = true) : Body Try.prog G10 (DRun Try.prog G10) 6 [.d (.v (.int .i64 n)), .d (.v (.int .i64 k))] (vBool true) := by
  refine Body.of Try.func6 Try.ntmps6 (by kernel_rfl) rfl rfl rfl ?_
  simp only [docD_eq, G10_at, calmE, F_alive, F_Few, F_Flat, F_RFlat, F_Right, F_Wide, F_same, F_DText, F_Cat, docsOf_map, Doc.eta, docsOf_nil, docs1, docs2, sameD_refl, beq_self_eq_true, Bool.and_self, and_self, if_true, forall_const, List.map_nil, AV.flat, AV.flat.flatL, List.length_map, goTG_val, goTG_new, goTG_up, goTG_none, goG_none, goG_new, goG_up, ne_eq, evK, evH, retHF, DRun_mk, runT_nil, runT_none, runT_guard, goT_val, goT_new, goT_store, goTH_true, goTH_false, evO, keys, Option.toList_some, Option.toList_none, nzL_nil, nzL_cons, nz_k, nz_sl, nz_nil, nz_agg, startL, evC, evV, goE_val, goE_new, goE_store, goH_true, goH_false, goG_val, lk_cons, lk_nil, lk_func, lk_int, lk_bool, lk_string, lk_slice, lk_agg, look_mk, St.effOf, eff, effCall, effBin, effUn, effConv, effPick, effNil, effFold, fold1, effLoad, effStore, effFieldAddr, effField, fieldOf, sliceOf, effIndexAddr, effIndex, effLen, effExtract, effSlice, bnd, effBuild, placesOf, effBuildSlice, effMakeSlice, effAppend, srcOf, fillA, chunk, seg, toD, toDs, put, eqAV, fieldsEq, leafEq, strip, unw, allB, selP_or, selP_and, tis, TyD.agg, AV.cells, AV.cell, allCell, vInt, vBool, vStr, subL_nil, subL_cons, upIds, AV.ids, AV.ids.idsL, AObj.ids, drops, Hp.get_cons, get_nil, retF, resL, one, fz, fz.fzL, List.map_cons, List.map_nil, List.nil_append, List.append_nil, List.cons_append, List.all_cons, List.all_nil, List.length_cons, List.length_nil, List.getElem?_cons_zero, List.getElem?_cons_succ, List.getD_cons_zero, List.getD_cons_succ, List.take_succ_cons, List.take_zero, List.drop_succ_cons, List.drop_zero, List.take_nil, List.drop_nil, List.contains_cons, List.contains_nil, Option.getD_some, Option.getD_none, Option.map_some, Option.map_none, if_true, if_false, true_and, and_true, and_self, or_self, or_false, false_or, false_and, and_false, reduceCtorEq, sel_and, sel_or, decide_eq_true_eq, Bool.and_eq_true, Bool.or_eq_true, Bool.and_true, Bool.true_and, Bool.or_false, Bool.false_or, Bool.true_or, Bool.or_true, Bool.not_true, Bool.not_false, Bool.false_eq_true, implies_true, not_false_eq_true, Nat.reduceLT, Nat.reduceEqDiff, Nat.reduceAdd, Nat.reduceMul, Nat.reduceMod, Nat.reduceLeDiff, Nat.reduceBEq, Nat.zero_add, Nat.add_zero, reduceIte, ↓reduceIte, List.not_mem_nil]
  by_cases c : ((n < 0 ∨ n > 240) ∨ k < 5) ∨ k > 7
  · rw [if_pos c]
  rw [if_neg c]
  have hk : 5 ≤ k ∧ k ≤ 7 := by omega
  obtain ⟨n, rfl⟩ := Int.eq_ofNat_of_zero_le (show 0 ≤ n by omega)
  refine wpc_loop (fun j : Nat => ⟨64, [106], [(0, vInt .i64 n), (1, vInt .i64 k), (6, .ptr 106 0), (7, vInt .i64 j)], [(106, some (.cells 24 ((docD (nestD k j)).map .d)))]⟩) (fun j => j ≤ n) (fun j => n - j) 0 (Nat.zero_le _) ?_ ?_
  · refine Le.of (fun _ => 6) [] ?_
    simp only [docD_eq, nestD, Doc.k, Doc.f, Doc.t, Doc.kids, List.map_cons, List.map_nil, Mt_tup, Mt_agg, Mt_fn, forall_eq, forall_eq_or_imp, ne_eq, List.all_cons, List.all_nil, pr, Nat.reduceLeDiff, slR_nil, slR_cons, hpR_nil, hpR_cells, hpR_row, idsR_nil, idsR_cons, mtE_v, mtE_sl, mtE_nil, mtE_refl, mtE_row, mtE_born, mtE_ptr, mtE_rp, mtE_agg, mtE_tup, mtE_fn, mtE_ep, MtL_nil, MtL_cons, Mt_v, Mt_sl, Mt_nil, Mt_refl, Mt_row, Mt_born, Mt_ptr, MtO_cells, MtO_row, liveIds, distinct, Dat.v.injEq, Dat.sl.injEq, Value.int.injEq, Value.bool.injEq, Value.string.injEq, lk_cons, lk_nil, subL_nil, subL_cons, upIds, AV.ids, AV.ids.idsL, AObj.ids, Hp.get_cons, get_nil, allCell, AV.cell, vInt, vBool, vStr, id, true_and, and_true, and_self, List.append_nil, List.nil_append, List.not_mem_nil, List.mem_cons, or_false, false_or, or_self, not_true_eq_false, not_false_eq_true, false_imp_iff, false_implies, List.map_nil, not_false_eq_true, List.contains_cons, List.contains_nil, Bool.or_false, Bool.false_or, Bool.true_or, Bool.or_true, Bool.and_true, Bool.true_and, implies_true, if_true, if_false, reduceCtorEq, Nat.reduceEqDiff, Nat.reduceBEq, Nat.reduceAdd, reduceIte, ↓reduceIte]
    rfl
  · intro j hj
    simp only [docD_eq, List.map_cons, List.map_nil]
    simp only [docD_eq, G10_at, calmE, F_alive, F_Few, F_Flat, F_RFlat, F_Right, F_Wide, F_same, F_DText, F_Cat, docsOf_map, Doc.eta, docsOf_nil, docs1, docs2, sameD_refl, beq_self_eq_true, Bool.and_self, and_self, if_true, forall_const, List.map_nil, AV.flat, AV.flat.flatL, List.length_map, goTG_val, goTG_new, goTG_up, goTG_none, goG_none, goG_new, goG_up, ne_eq, evK, evH, retHF, DRun_mk, runT_nil, runT_none, runT_guard, goT_val, goT_new, goT_store, goTH_true, goTH_false, evO, keys, Option.toList_some, Option.toList_none, nzL_nil, nzL_cons, nz_k, nz_sl, nz_nil, nz_agg, startL, evC, evV, goE_val, goE_new, goE_store, goH_true, goH_false, goG_val, lk_cons, lk_nil, lk_func, lk_int, lk_bool, lk_string, lk_slice, lk_agg, look_mk, St.effOf, eff, effCall, effBin, effUn, effConv, effPick, effNil, effFold, fold1, effLoad, effStore, effFieldAddr, effField, fieldOf, sliceOf, effIndexAddr, effIndex, effLen, effExtract, effSlice, bnd, effBuild, placesOf, effBuildSlice, effMakeSlice, effAppend, srcOf, fillA, chunk, seg, toD, toDs, put, eqAV, fieldsEq, leafEq, strip, unw, allB, selP_or, selP_and, tis, TyD.agg, AV.cells, AV.cell, allCell, vInt, vBool, vStr, subL_nil, subL_cons, upIds, AV.ids, AV.ids.idsL, AObj.ids, drops, Hp.get_cons, get_nil, retF, resL, one, fz, fz.fzL, List.map_cons, List.map_nil, List.nil_append, List.append_nil, List.cons_append, List.all_cons, List.all_nil, List.length_cons, List.length_nil, List.getElem?_cons_zero, List.getElem?_cons_succ, List.getD_cons_zero, List.getD_cons_succ, List.take_succ_cons, List.take_zero, List.drop_succ_cons, List.drop_zero, List.take_nil, List.drop_nil, List.contains_cons, List.contains_nil, Option.getD_some, Option.getD_none, Option.map_some, Option.map_none, if_true, if_false, true_and, and_true, and_self, or_self, or_false, false_or, false_and, and_false, reduceCtorEq, sel_and, sel_or, decide_eq_true_eq, Bool.and_eq_true, Bool.or_eq_true, Bool.and_true, Bool.true_and, Bool.or_false, Bool.false_or, Bool.true_or, Bool.or_true, Bool.not_true, Bool.not_false, Bool.false_eq_true, implies_true, not_false_eq_true, Nat.reduceLT, Nat.reduceEqDiff, Nat.reduceAdd, Nat.reduceMul, Nat.reduceMod, Nat.reduceLeDiff, Nat.reduceBEq, Nat.zero_add, Nat.add_zero, reduceIte, ↓reduceIte, List.not_mem_nil]
    by_cases hj2 : (j : Int) < n
    · rw [if_pos hj2]
      refine ⟨j + 1, by omega, by omega, Le.of id [] ?_⟩
      simp only [docD_eq, nestD, Doc.k, Doc.f, Doc.t, Doc.kids, List.map_cons, List.map_nil, Mt_tup, Mt_agg, Mt_fn, forall_eq, forall_eq_or_imp, ne_eq, List.all_cons, List.all_nil, pr, Nat.reduceLeDiff, slR_nil, slR_cons, hpR_nil, hpR_cells, hpR_row, idsR_nil, idsR_cons, mtE_v, mtE_sl, mtE_nil, mtE_refl, mtE_row, mtE_born, mtE_ptr, mtE_rp, mtE_agg, mtE_tup, mtE_fn, mtE_ep, MtL_nil, MtL_cons, Mt_v, Mt_sl, Mt_nil, Mt_refl, Mt_row, Mt_born, Mt_ptr, MtO_cells, MtO_row, liveIds, distinct, Dat.v.injEq, Dat.sl.injEq, Value.int.injEq, Value.bool.injEq, Value.string.injEq, lk_cons, lk_nil, subL_nil, subL_cons, upIds, AV.ids, AV.ids.idsL, AObj.ids, Hp.get_cons, get_nil, allCell, AV.cell, vInt, vBool, vStr, id, true_and, and_true, and_self, List.append_nil, List.nil_append, List.not_mem_nil, List.mem_cons, or_false, false_or, or_self, not_true_eq_false, not_false_eq_true, false_imp_iff, false_implies, List.map_nil, not_false_eq_true, List.contains_cons, List.contains_nil, Bool.or_false, Bool.false_or, Bool.true_or, Bool.or_true, Bool.and_true, Bool.true_and, implies_true, if_true, if_false, reduceCtorEq, Nat.reduceEqDiff, Nat.reduceBEq, Nat.reduceAdd, reduceIte, ↓reduceIte]
      exact w64 (by omega) (by omega)
    · rw [if_neg hj2]
      obtain rfl : j = n := by omega
      refine ⟨⟨nest_ok k j, by rw [nest_flat hk]; decide⟩, nest_ok k j, Sub.eq ?_⟩
      rw [nest_right hk j 200 (by decide)]
      by_cases h : (j : Int) ≤ 200
      · rw [show flatT (nestD k j) = ([120], true) by rw [flatT, nest_right hk j 200 (by decide), nest_flat hk, if_pos ⟨decide_eq_true h, rfl⟩]]
        simp [h]
      · rw [show flatT (nestD k j) = ([], false) by rw [flatT, nest_right hk j 200 (by decide), if_neg (fun q => h (of_decide_eq_true q.1))]]
        simp [h]
/-- A text of so many code points is so wide. -/
theorem wide_puts : ∀ (l : List Int) (n : Nat), (puts l).length ≤ n → (alls n (puts l)).length = l.length
  | [], n, _ => by rw [show puts [] = [] from rfl, alls_nil]
  | r :: l, n, h => by
    have h1 := Utf.put_length r
    have h2 := Utf.put_size r
    have e : puts (r :: l) = Utf.put r ++ puts l := rfl
    rw [e, List.length_append] at h
    rw [e]
    obtain ⟨m, rfl⟩ : ∃ m, n = m + 1 := ⟨n - 1, by omega⟩
    rw [alls, if_neg (fun q => by rw [List.append_eq_nil_iff] at q; have := congrArg List.length q.1; simp only [List.length_nil] at this; omega), Utf.dec_put]
    simp only [List.length_cons]
    rw [show (Utf.size (Utf.fix r)).toNat = (Utf.put r).length by omega, List.drop_left, wide_puts l m (by omega)]
theorem sB_str {l : List Int} (h : Bytes l) : sB (strOfNums l) = l := by
  unfold sB strOfNums
  simp only [List.map_map]
  conv => rhs; rw [← List.map_id l]
  refine List.map_congr_left fun x hx => ?_
  have := h x hx
  simp only [Function.comp, id]
  rw [UInt8.toNat_ofNat']
  omega
theorem puts_bytes (l : List Int) : Bytes (puts l) := fun x hx => by
  obtain ⟨r, -, h⟩ := List.mem_flatMap.mp hx
  exact Utf.put_bytes r x h
theorem DocWide_body (l : List Int) (_ : l.length ≤ maxLen ∧ ∀ x ∈ l, (Lit.int .i64 x).wf = true) : Body Try.prog G10 (DRun Try.prog G10) 5 [.d (intsD l)] (vBool true) := by
  refine Body.of Try.func5 Try.ntmps5 (by kernel_rfl) rfl rfl rfl ?_
  simp only [intsD, G10_at, calmE, F_alive, F_Wide, F_rput, AV.flat, AV.flat.flatL, getD_iD, iD, num_iD, List.length_map, goTG_val, goTG_new, goTG_up, goTG_none, goG_none, goG_new, goG_up, ne_eq, evK, evH, retHF, DRun_mk, runT_nil, runT_none, runT_guard, goT_val, goT_new, goT_store, goTH_true, goTH_false, evO, keys, Option.toList_some, Option.toList_none, nzL_nil, nzL_cons, nz_k, nz_sl, nz_nil, nz_agg, startL, evC, evV, goE_val, goE_new, goE_store, goH_true, goH_false, goG_val, lk_cons, lk_nil, lk_func, lk_int, lk_bool, lk_string, lk_slice, lk_agg, look_mk, St.effOf, eff, effCall, effBin, effUn, effConv, effPick, effNil, effFold, fold1, effLoad, effStore, effFieldAddr, effField, fieldOf, sliceOf, effIndexAddr, effIndex, effLen, effExtract, effSlice, bnd, effBuild, placesOf, effBuildSlice, effMakeSlice, effAppend, srcOf, fillA, chunk, seg, toD, toDs, put, eqAV, fieldsEq, leafEq, strip, unw, allB, selP_or, selP_and, tis, TyD.agg, AV.cells, AV.cell, allCell, vInt, vBool, vStr, subL_nil, subL_cons, upIds, AV.ids, AV.ids.idsL, AObj.ids, drops, Hp.get_cons, get_nil, retF, resL, one, fz, fz.fzL, List.map_cons, List.map_nil, List.nil_append, List.append_nil, List.cons_append, List.all_cons, List.all_nil, List.length_cons, List.length_nil, List.getElem?_cons_zero, List.getElem?_cons_succ, List.getD_cons_zero, List.getD_cons_succ, List.take_succ_cons, List.take_zero, List.drop_succ_cons, List.drop_zero, List.take_nil, List.drop_nil, List.contains_cons, List.contains_nil, Option.getD_some, Option.getD_none, Option.map_some, Option.map_none, if_true, if_false, true_and, and_true, and_self, or_self, or_false, false_or, false_and, and_false, reduceCtorEq, sel_and, sel_or, decide_eq_true_eq, Bool.and_eq_true, Bool.or_eq_true, Bool.and_true, Bool.true_and, Bool.or_false, Bool.false_or, Bool.true_or, Bool.or_true, Bool.not_true, Bool.not_false, Bool.false_eq_true, implies_true, not_false_eq_true, Nat.reduceLT, Nat.reduceEqDiff, Nat.reduceAdd, Nat.reduceMul, Nat.reduceMod, Nat.reduceLeDiff, Nat.reduceBEq, Nat.zero_add, Nat.add_zero, reduceIte, ↓reduceIte, List.not_mem_nil]
  by_cases c : (l.length : Int) > 100
  · rw [if_pos c]
  rw [if_neg c]
  refine wpc_loop (fun j : Nat => ⟨33, [100], [(0, .d (intsD l)), (4, .row 100 (puts (l.take j)).length), (5, vInt .i64 j)], [(100, some (.row 5 1 ((puts (l.take j)).map (iD .u8))))]⟩) (fun j => j ≤ l.length) (fun j => l.length - j) 0 (Nat.zero_le _) ?_ ?_
  · refine Le.of id [100] ?_
    simp only [intsD, puts, List.take_zero, List.flatMap_nil, List.length_nil, List.length_map, Mt_tup, Mt_agg, Mt_fn, forall_eq, forall_eq_or_imp, ne_eq, List.all_cons, List.all_nil, pr, Nat.reduceLeDiff, slR_nil, slR_cons, hpR_nil, hpR_cells, hpR_row, idsR_nil, idsR_cons, mtE_v, mtE_sl, mtE_nil, mtE_refl, mtE_row, mtE_born, mtE_ptr, mtE_rp, mtE_agg, mtE_tup, mtE_fn, mtE_ep, MtL_nil, MtL_cons, Mt_v, Mt_sl, Mt_nil, Mt_refl, Mt_row, Mt_born, Mt_ptr, MtO_cells, MtO_row, liveIds, distinct, Dat.v.injEq, Dat.sl.injEq, Value.int.injEq, Value.bool.injEq, Value.string.injEq, lk_cons, lk_nil, subL_nil, subL_cons, upIds, AV.ids, AV.ids.idsL, AObj.ids, Hp.get_cons, get_nil, allCell, AV.cell, vInt, vBool, vStr, id, true_and, and_true, and_self, List.append_nil, List.nil_append, List.not_mem_nil, List.mem_cons, or_false, false_or, or_self, not_true_eq_false, not_false_eq_true, false_imp_iff, false_implies, List.map_nil, not_false_eq_true, List.contains_cons, List.contains_nil, Bool.or_false, Bool.false_or, Bool.true_or, Bool.or_true, Bool.and_true, Bool.true_and, implies_true, if_true, if_false, reduceCtorEq, Nat.reduceEqDiff, Nat.reduceBEq, Nat.reduceAdd, reduceIte, ↓reduceIte]
    rfl
  · intro j hj
    simp only [intsD, G10_at, calmE, F_alive, F_Wide, F_rput, AV.flat, AV.flat.flatL, getD_iD, iD, num_iD, List.length_map, goTG_val, goTG_new, goTG_up, goTG_none, goG_none, goG_new, goG_up, ne_eq, evK, evH, retHF, DRun_mk, runT_nil, runT_none, runT_guard, goT_val, goT_new, goT_store, goTH_true, goTH_false, evO, keys, Option.toList_some, Option.toList_none, nzL_nil, nzL_cons, nz_k, nz_sl, nz_nil, nz_agg, startL, evC, evV, goE_val, goE_new, goE_store, goH_true, goH_false, goG_val, lk_cons, lk_nil, lk_func, lk_int, lk_bool, lk_string, lk_slice, lk_agg, look_mk, St.effOf, eff, effCall, effBin, effUn, effConv, effPick, effNil, effFold, fold1, effLoad, effStore, effFieldAddr, effField, fieldOf, sliceOf, effIndexAddr, effIndex, effLen, effExtract, effSlice, bnd, effBuild, placesOf, effBuildSlice, effMakeSlice, effAppend, srcOf, fillA, chunk, seg, toD, toDs, put, eqAV, fieldsEq, leafEq, strip, unw, allB, selP_or, selP_and, tis, TyD.agg, AV.cells, AV.cell, allCell, vInt, vBool, vStr, subL_nil, subL_cons, upIds, AV.ids, AV.ids.idsL, AObj.ids, drops, Hp.get_cons, get_nil, retF, resL, one, fz, fz.fzL, List.map_cons, List.map_nil, List.nil_append, List.append_nil, List.cons_append, List.all_cons, List.all_nil, List.length_cons, List.length_nil, List.getElem?_cons_zero, List.getElem?_cons_succ, List.getD_cons_zero, List.getD_cons_succ, List.take_succ_cons, List.take_zero, List.drop_succ_cons, List.drop_zero, List.take_nil, List.drop_nil, List.contains_cons, List.contains_nil, Option.getD_some, Option.getD_none, Option.map_some, Option.map_none, if_true, if_false, true_and, and_true, and_self, or_self, or_false, false_or, false_and, and_false, reduceCtorEq, sel_and, sel_or, decide_eq_true_eq, Bool.and_eq_true, Bool.or_eq_true, Bool.and_true, Bool.true_and, Bool.or_false, Bool.false_or, Bool.true_or, Bool.or_true, Bool.not_true, Bool.not_false, Bool.false_eq_true, implies_true, not_false_eq_true, Nat.reduceLT, Nat.reduceEqDiff, Nat.reduceAdd, Nat.reduceMul, Nat.reduceMod, Nat.reduceLeDiff, Nat.reduceBEq, Nat.zero_add, Nat.add_zero, reduceIte, ↓reduceIte, List.not_mem_nil]
    by_cases hj2 : (j : Int) < l.length
    · rw [if_pos hj2]
      obtain ⟨c, hc⟩ : ∃ c, l[j]? = some c := ⟨_, List.getElem?_eq_getElem (by omega)⟩
      have hpl := puts_len (l.take j)
      rw [List.length_take] at hpl
      rw [getD_at hc]
      refine ⟨by omega, by omega, j + 1, by omega, by omega, Le.of (fun _ => 26) [] ?_⟩
      simp only [intsD, puts_snoc hc, List.map_append, List.length_append, List.length_map, Mt_tup, Mt_agg, Mt_fn, forall_eq, forall_eq_or_imp, ne_eq, List.all_cons, List.all_nil, pr, Nat.reduceLeDiff, slR_nil, slR_cons, hpR_nil, hpR_cells, hpR_row, idsR_nil, idsR_cons, mtE_v, mtE_sl, mtE_nil, mtE_refl, mtE_row, mtE_born, mtE_ptr, mtE_rp, mtE_agg, mtE_tup, mtE_fn, mtE_ep, MtL_nil, MtL_cons, Mt_v, Mt_sl, Mt_nil, Mt_refl, Mt_row, Mt_born, Mt_ptr, MtO_cells, MtO_row, liveIds, distinct, Dat.v.injEq, Dat.sl.injEq, Value.int.injEq, Value.bool.injEq, Value.string.injEq, lk_cons, lk_nil, subL_nil, subL_cons, upIds, AV.ids, AV.ids.idsL, AObj.ids, Hp.get_cons, get_nil, allCell, AV.cell, vInt, vBool, vStr, id, true_and, and_true, and_self, List.append_nil, List.nil_append, List.not_mem_nil, List.mem_cons, or_false, false_or, or_self, not_true_eq_false, not_false_eq_true, false_imp_iff, false_implies, List.map_nil, not_false_eq_true, List.contains_cons, List.contains_nil, Bool.or_false, Bool.false_or, Bool.true_or, Bool.or_true, Bool.and_true, Bool.true_and, implies_true, if_true, if_false, reduceCtorEq, Nat.reduceEqDiff, Nat.reduceBEq, Nat.reduceAdd, reduceIte, ↓reduceIte]
      exact w64 (by omega) (by omega)
    · rw [if_neg hj2, List.take_of_length_le (by omega), byteOf_map]
      have hpl := puts_len l
      have hs := str_size (puts l)
      refine ⟨byteOf_all _, by omega, Sub.eq ?_⟩
      rw [wide, hs, sB_str (puts_bytes l), wide_puts l _ (Nat.le_refl _)]
      simp
theorem docD_len (D : Doc) : (docD D).length = 4 := by rw [docD_eq]; rfl
theorem okDs_of : ∀ {l : List Doc}, (∀ x ∈ l, okD x) → okDs l
  | [], _ => trivial
  | d :: l, h => ⟨h d List.mem_cons_self, okDs_of fun x hx => h x (List.mem_cons_of_mem _ hx)⟩
theorem encT24 (f : Nat) : IsEnc Try.prog f 24 (fun D : Doc => okD D) (fun D => docD D) := by
  induction f using Nat.strongRecOn with
  | ind f ih =>
    intro H enc W spare held cs r h
    have hs : ∀ g, g < f → IsEnc Try.prog g 22 (fun l : List Doc => l.length ≤ maxLen ∧ ∀ x ∈ l, okD x) (fun l => [.sl 4 (l.map docD)]) := fun g hg =>
      enc_slice Try.underlying22 (by kernel_rfl) (by decide) docD_len fun f' hf' => ih f' (by omega)
    obtain ⟨xs, h1, h2, h3⟩ := enc_struct (l := [(1, _), (1, _), (1, _), (1, _)]) Try.underlying24 (by kernel_rfl) (fun g hg => ⟨rfl, by kernel_rfl, (enc_int Try.underlying3).sub (fun _ => rfl), rfl, by kernel_rfl, (enc_int Try.underlying3).sub (fun _ => rfl), rfl, by kernel_rfl, (enc_string Try.underlying9).sub (fun _ => rfl), rfl, by kernel_rfl, (hs g hg).sub (fun _ => rfl), trivial⟩) H enc W spare held cs r h
    match xs, h1 with
    | [a, b, c, d], _ =>
      obtain ⟨-, k, -, ha⟩ := h2 0 a _ rfl rfl
      obtain ⟨-, g, -, hb⟩ := h2 1 b _ rfl rfl
      obtain ⟨-, t, ht, hc⟩ := h2 2 c _ rfl rfl
      obtain ⟨-, l, hl, hd⟩ := h2 3 d _ rfl rfl
      subst ha hb hc hd
      refine ⟨.mk k g t l, ⟨ht, hl.1, okDs_of hl.2⟩, ?_⟩
      show RdL W cs (docD (.mk k g t l))
      rw [docD_eq]
      exact h3
end Go.Proofs.Ytplmenljhkokgaa.Eng
