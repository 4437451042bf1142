/- The package doc, on the small machine: Right, Flat. -/
import Derived.Test.YthcgkfgkknofnaaSFlat
namespace Go.Proofs.Ythcgkfgkknofnaa.Eng
open Go Go.Proofs.Ythcgkfgkknofnaa.Base
set_option maxRecDepth 100000
set_option linter.unusedSimpArgs false
/-- flat, at a builder that is new. -/
noncomputable def F_fl0 (h : Nat → Option AObj) (d : Nat) : List AV → Option Eff
  | [.ptr o 0, .agg [.d (.v (.int .i64 k)), .d (.v (.int .i64 f)), .d (.v (.string t)), .d (.sl 4 ks)]] => match h o with
    | some (.cells t2 [.d (.v (.pointer none)), .d (.v (.slice none 0 0))]) => if t2 = 64 then some { sc := ks = (docsOf ks).map docD ∧ okD (.mk k f t (docsOf ks)) ∧ (flatS (.mk k f t (docsOf ks))).2.1.length ≤ 140737488355328, val := vBool (flatS (.mk k f t (docsOf ks))).1, up := [(o, some (.cells 64 [bldA (flatS (.mk k f t (docsOf ks))).2.2 o, .row d (byteRows (flatS (.mk k f t (docsOf ks))).2.1).length])), (d, some (.row 5 1 (byteRows (flatS (.mk k f t (docsOf ks))).2.1)))], new := true } else none
    | _ => none
  | _ => none
theorem fl0_ok {Γ : Gam} (hG : Gok Try.prog Γ) : Gok Try.prog (Γ.addH 64 F_fl0) := by
  refine hG.addH fun hp d args e he hs => ?_
  unfold F_fl0 at he
  split at he
  case h_2 => cases he
  rename_i o k f t ks
  split at he
  case h_2 => cases he
  rename_i t2 ho
  split at he
  case isFalse => cases he
  rename_i ht
  subst ht
  cases he
  obtain ⟨q1, q2, q3⟩ := hs
  have hc := flat_calm false [] (.mk k f t (docsOf ks)) q2 (by simpa using q3)
  rw [List.nil_append, Bool.false_or] at hc
  refine ⟨⟨fun _ => o, [10001], [.ptr 10000 0, .agg ((docD (.mk k f t (docsOf ks))).map .d)], bldH (bldA false 10000) [], vBool (flatS (.mk k f t (docsOf ks))).1, flO (flatS (.mk k f t (docsOf ks))).2.2 (byteRows (flatS (.mk k f t (docsOf ks))).2.1), true⟩, ?_, ⟨⟨⟨by simp, rfl, rfl⟩, ?_, trivial⟩, ?_, ?_⟩, hc, rfl, fun o' => ?_, rfl⟩
  · have hsub : subL (AV.ids.idsL [.ptr 10000 0, .agg ((docD (.mk k f t (docsOf ks))).map .d)]) (upIds (bldH (bldA false 10000) [])) = true := by
      simp only [AV.ids.idsL, AV.ids, idsL_ds]; rfl
    cases (flatS (.mk k f t (docsOf ks))).2.2 <;> simp only [HCall.tidy, hsub] <;> rfl
  · rw [docD_args k f t q1]; exact MtL_ds _ _ _
  · refine ⟨?_, ?_, trivial⟩
    · rw [if_neg (by simp)]
      simp only [ho]
      exact ⟨rfl, ⟨.inl rfl, ⟨rfl, by simp, rfl⟩, trivial⟩, rfl⟩
    · rw [if_pos (by simp)]
  · exact ⟨fun _ b hb hb2 => by
      rcases List.mem_singleton.mp (show b ∈ [10001] from hb) with rfl
      exact absurd (List.mem_singleton.mpr rfl) hb2, fun h => absurd (List.mem_singleton.mpr rfl) h, trivial⟩
  · cases (flatS (.mk k f t (docsOf ks))).2.2 <;> rfl
noncomputable def F_Right : List AV → Option (Prop × AV)
  | [.agg [.d (.v (.int .i64 k)), .d (.v (.int .i64 f)), .d (.v (.string t)), .d (.sl 4 ks)]] => some (ks = (docsOf ks).map docD ∧ okD (.mk k f t (docsOf ks)), vBool (right 200 (.mk k f t (docsOf ks))))
  | _ => none
noncomputable def G_Right : Gam := Gam.none.add 35 fun a => F_dright (NT.nz.nzL [] a)
theorem G_Right_at (h : Nat → Option AObj) (d : Nat) (a : List AV) : G_Right 35 h d a = calmE (fun a => F_dright (NT.nz.nzL [] a)) h a := rfl
theorem known_Right : Known Try.prog G_Right := (Known.none _).addC _ dright_calm
theorem Right_body (D : Doc) (h1 : okD D) : Body Try.prog G_Right (DRun Try.prog G_Right) 24 [.agg ((docD D).map .d)] (vBool (right 200 D)) := by
  refine Body.of Try.func24 Try.ntmps24 (by kernel_rfl) rfl rfl rfl ?_
  simp only [docD_eq, G_Right_at, calmE, F_dright, docsOf_map, Doc.eta, AV.flat, AV.flat.flatL, List.length_map, goTG_val, goTG_new, goTG_up, goTG_none, goG_none, goG_new, goG_up, ne_eq, evK, evH, retHF, DRun_mk, runT_nil, runT_none, runT_guard, goT_val, goT_new, goT_store, goTH_true, goTH_false, evO, keys, Option.toList_some, Option.toList_none, nzL_nil, nzL_cons, nz_k, nz_sl, nz_nil, nz_agg, startL, evC, evV, goE_val, goE_new, goE_store, goH_true, goH_false, goG_val, lk_cons, lk_nil, lk_func, lk_int, lk_bool, lk_string, lk_slice, lk_agg, look_mk, St.effOf, eff, effCall, effBin, effUn, effConv, effPick, effNil, effFold, fold1, effLoad, effStore, effFieldAddr, effField, fieldOf, sliceOf, effIndexAddr, effIndex, effLen, effExtract, effSlice, bnd, effBuild, placesOf, effBuildSlice, effMakeSlice, effAppend, srcOf, fillA, chunk, seg, toD, toDs, put, eqAV, fieldsEq, leafEq, strip, unw, allB, selP_or, selP_and, tis, TyD.agg, AV.cells, AV.cell, allCell, vInt, vBool, vStr, subL_nil, subL_cons, upIds, AV.ids, AV.ids.idsL, AObj.ids, drops, Hp.get_cons, get_nil, retF, resL, one, fz, fz.fzL, List.map_cons, List.map_nil, List.nil_append, List.append_nil, List.cons_append, List.all_cons, List.all_nil, List.length_cons, List.length_nil, List.getElem?_cons_zero, List.getElem?_cons_succ, List.getD_cons_zero, List.getD_cons_succ, List.take_succ_cons, List.take_zero, List.drop_succ_cons, List.drop_zero, List.take_nil, List.drop_nil, List.contains_cons, List.contains_nil, Option.getD_some, Option.getD_none, Option.map_some, Option.map_none, if_true, if_false, true_and, and_true, and_self, or_self, or_false, false_or, false_and, and_false, reduceCtorEq, sel_and, sel_or, decide_eq_true_eq, Bool.and_eq_true, Bool.or_eq_true, Bool.and_true, Bool.true_and, Bool.or_false, Bool.false_or, Bool.true_or, Bool.or_true, Bool.not_true, Bool.not_false, Bool.false_eq_true, implies_true, not_false_eq_true, Nat.reduceLT, Nat.reduceEqDiff, Nat.reduceAdd, Nat.reduceMul, Nat.reduceMod, Nat.reduceLeDiff, Nat.reduceBEq, Nat.zero_add, Nat.add_zero, reduceIte, ↓reduceIte, List.not_mem_nil]
  exact ⟨⟨h1, by decide, by decide⟩, Sub.refl _⟩
theorem Right_calm : ∀ args sc res, F_Right args = some (sc, res) → sc → Calm Try.prog 24 args res := by
  intro args sc res h hs
  unfold F_Right at h
  split at h <;> cases h
  rename_i k f t ks
  obtain ⟨q1, q2⟩ := hs
  rw [docD_args k f t q1]
  exact known_Right.calm mixed (by simp only [AV.ids.idsL, AV.ids, idsL_ds]; rfl) rfl (Right_body _ q2)
/-- What a document is without new lines. -/
def flatT (D : Doc) : List UInt8 × Bool := if right 200 D = true ∧ (flatS D).1 = true then ((flatS D).2.1, true) else ([], false)
noncomputable def G_Flat : Gam := ((Gam.none.add 24 fun a => F_Right (NT.nz.nzL [] a)).addH 64 F_fl0).addH 32 F_str
theorem G_Flat_at : (∀ h d a, G_Flat 24 h d a = calmE (fun a => F_Right (NT.nz.nzL [] a)) h a) ∧ (∀ h d a, G_Flat 64 h d a = F_fl0 h d a) ∧ (∀ h d a, G_Flat 32 h d a = F_str h d a) := ⟨fun _ _ _ => rfl, fun _ _ _ => rfl, fun _ _ _ => rfl⟩
theorem gok_Flat : Gok Try.prog G_Flat := str_ok (fl0_ok ((Known.none _).addC _ Right_calm).ok)
theorem Flat_body (D : Doc) (h1 : okD D) (h2 : (flatS D).2.1.length ≤ 140737488355328) : Body Try.prog G_Flat (DRun Try.prog Gam.none) 56 [.agg ((docD D).map .d)] (.tup [vStr ⟨(flatT D).1.toArray⟩, vBool (flatT D).2]) := by
  have hrow : ∀ l : List UInt8, (∀ r ∈ byteRows l, r = byteRow (UInt8.ofNat (byteOf r).toNat)) ∧ (byteRows l).map (fun r => UInt8.ofNat (byteOf r).toNat) = l := fun l => by
    have key : ∀ x : UInt8, UInt8.ofNat (byteOf (byteRow x)).toNat = x := fun x => by simp [byteRow, byteOf]
    refine ⟨fun r hr => ?_, ?_⟩
    · obtain ⟨x, -, rfl⟩ := List.mem_map.mp hr
      rw [key]
    · rw [byteRows, List.map_map]
      exact (List.map_congr_left fun x _ => key x).trans (List.map_id l)
  cases hr : right 200 D
  all_goals cases hw : (flatS D).2.2
  all_goals cases hf : (flatS D).1
  all_goals
    refine Body.of Try.func56 Try.ntmps56 (by kernel_rfl) rfl rfl rfl ?_
    simp only [docD_eq, G_Flat_at, calmE, F_Right, F_fl0, F_str, bldA, flatT, hr, hw, hf, docsOf_map, Doc.eta, AV.flat, AV.flat.flatL, List.length_map, goTG_val, goTG_new, goTG_up, goTG_none, goG_none, goG_new, goG_up, ne_eq, evK, evH, retHF, DRun_mk, runT_nil, runT_none, runT_guard, goT_val, goT_new, goT_store, goTH_true, goTH_false, evO, keys, Option.toList_some, Option.toList_none, nzL_nil, nzL_cons, nz_k, nz_sl, nz_nil, nz_agg, startL, evC, evV, goE_val, goE_new, goE_store, goH_true, goH_false, goG_val, lk_cons, lk_nil, lk_func, lk_int, lk_bool, lk_string, lk_slice, lk_agg, look_mk, St.effOf, eff, effCall, effBin, effUn, effConv, effPick, effNil, effFold, fold1, effLoad, effStore, effFieldAddr, effField, fieldOf, sliceOf, effIndexAddr, effIndex, effLen, effExtract, effSlice, bnd, effBuild, placesOf, effBuildSlice, effMakeSlice, effAppend, srcOf, fillA, chunk, seg, toD, toDs, put, eqAV, fieldsEq, leafEq, strip, unw, allB, selP_or, selP_and, tis, TyD.agg, AV.cells, AV.cell, allCell, vInt, vBool, vStr, subL_nil, subL_cons, upIds, AV.ids, AV.ids.idsL, AObj.ids, drops, Hp.get_cons, get_nil, retF, resL, one, fz, fz.fzL, List.map_cons, List.map_nil, List.nil_append, List.append_nil, List.cons_append, List.all_cons, List.all_nil, List.length_cons, List.length_nil, List.getElem?_cons_zero, List.getElem?_cons_succ, List.getD_cons_zero, List.getD_cons_succ, List.take_succ_cons, List.take_zero, List.drop_succ_cons, List.drop_zero, List.take_nil, List.drop_nil, List.contains_cons, List.contains_nil, Option.getD_some, Option.getD_none, Option.map_some, Option.map_none, if_true, if_false, true_and, and_true, and_self, or_self, or_false, false_or, false_and, and_false, reduceCtorEq, sel_and, sel_or, decide_eq_true_eq, Bool.and_eq_true, Bool.or_eq_true, Bool.and_true, Bool.true_and, Bool.or_false, Bool.false_or, Bool.true_or, Bool.or_true, Bool.not_true, Bool.not_false, Bool.false_eq_true, implies_true, not_false_eq_true, Nat.reduceLT, Nat.reduceEqDiff, Nat.reduceAdd, Nat.reduceMul, Nat.reduceMod, Nat.reduceLeDiff, Nat.reduceBEq, Nat.zero_add, Nat.add_zero, reduceIte, ↓reduceIte, List.not_mem_nil]
    first
    | exact ⟨h1, Sub.refl _⟩
    | exact ⟨h1, ⟨h1, h2⟩, Sub.refl _⟩
    | exact ⟨h1, ⟨h1, h2⟩, (hrow _).1, by rw [(hrow _).2]⟩
noncomputable def F_Flat : List AV → Option (Prop × AV)
  | [.agg [.d (.v (.int .i64 k)), .d (.v (.int .i64 f)), .d (.v (.string t)), .d (.sl 4 ks)]] => some (ks = (docsOf ks).map docD ∧ okD (.mk k f t (docsOf ks)) ∧ (flatS (.mk k f t (docsOf ks))).2.1.length ≤ 140737488355328, .tup [vStr ⟨(flatT (.mk k f t (docsOf ks))).1.toArray⟩, vBool (flatT (.mk k f t (docsOf ks))).2])
  | _ => none
theorem Flat_calm : ∀ args sc res, F_Flat args = some (sc, res) → sc → Calm Try.prog 56 args res := by
  intro args sc res h hs
  unfold F_Flat at h
  split at h <;> cases h
  rename_i k f t ks
  obtain ⟨q1, q2, q3⟩ := hs
  rw [docD_args k f t q1]
  exact Body.calm gok_Flat (draws0 _) (by simp only [AV.ids.idsL, AV.ids, idsL_ds]; rfl) rfl (Flat_body _ q2 q3)
end Go.Proofs.Ythcgkfgkknofnaa.Eng
