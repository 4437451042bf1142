/- Maps, written, on the small machine. -/
import Derived.Test.YtgbialeahdoelaaSSr
import Derived.Test.YtgbialeahdoelaaSJr
import Derived.Test.YtgbialeahdoelaaSRef2
import Derived.Test.YtgbialeahdoelaaEngLaw
namespace Go.Proofs.Ytgbialeahdoelaa.Eng
open Go Go.Proofs.Ytgbialeahdoelaa.Base
set_option maxRecDepth 100000
set_option linter.unusedSimpArgs false
set_option linter.unusedVariables false
def F_uns : List AV → Option (Prop × AV)
  | [.d (.v (.string s))] => some (s.size ≤ 1000000000, .d (intsD (unitsS s)))
  | _ => none
theorem uns_calm : ∀ args sc res, F_uns args = some (sc, res) → sc → Calm Try.prog 26 args res := by
  intro args sc res h hs
  unfold F_uns at h
  split at h <;> cases h
  exact ((Known.none _).addC _ All_calm).calm mixed rfl rfl (units_sbody _ hs)
theorem runs_calm : ∀ args sc res, F_uns args = some (sc, res) → sc → Calm Try.prog 28 args res := by
  intro args sc res h hs
  unfold F_uns at h
  split at h <;> cases h
  exact ((Known.none _).addC _ RNext_calm).calm mixed rfl rfl (units_rbody _ hs)
theorem okS_mono {l : List Sg} {i j : Nat} (h : okS l j) (hij : i ≤ j) : okS l i := fun k hk => h k (by omega)
theorem mapB_len {l : List Sg} : ∀ {j : Nat}, okS l j → j ≤ l.length → (mapB l j).length ≤ 100037 * j
  | 0, _, _ => by simp [mapB]
  | j + 1, h, hj => by
    have ih := mapB_len (okS_mono h (Nat.le_succ j)) (by omega)
    obtain ⟨s, hs⟩ : ∃ s, l[j]? = some s := ⟨_, List.getElem?_eq_getElem (by omega)⟩
    have hr := last_in h (Nat.lt_succ_self j) hs
    have h2 := seg_len j (lastS (l.take j)) s hr.2.1
    obtain ⟨⟨⟨k1, k2⟩, _⟩, _⟩ := h j (Nat.lt_succ_self j) s hs
    rw [mapB, hs, List.length_append]
    simp only []
    omega
def mapT (l : List Sg) : ByteArray := ⟨(mapB l l.length).toArray⟩
theorem mapS_yes {l : List Sg} (h : okS l l.length) : mapS l = .tup [vStr (mapT l), vBool true] := if_pos h
theorem mapS_no {l : List Sg} (h : ¬ okS l l.length) : mapS l = .tup [vStr ByteArray.empty, vBool false] := if_neg h
def preB : ByteArray := ⟨#[123, 34, 118, 101, 114, 115, 105, 111, 110, 34, 58, 51, 44, 34, 115, 111, 117, 114, 99, 101, 115, 34, 58, 91]⟩
def midB : ByteArray := ⟨#[93, 44, 34, 110, 97, 109, 101, 115, 34, 58, 91, 93, 44, 34, 109, 97, 112, 112, 105, 110, 103, 115, 34, 58, 34]⟩
def endB : ByteArray := ⟨#[34, 125]⟩
noncomputable def wrT (nm : ByteArray) (l : List Sg) : ByteArray := preB ++ spellS (unitsS nm) ++ midB ++ mapT l ++ endB
theorem spellS_size (l : List Int) : (spellS l).size ≤ 6 * l.length + 2 := by
  unfold spellS
  split
  · rw [str_size]
    have := Jstr.body_len l
    simp only [Jstr.spelled, List.length_cons, List.length_append, List.length_nil]
    omega
  · exact Nat.zero_le _
open Classical in
noncomputable def writeS (nm : ByteArray) (l : List Sg) : AV := if okS l l.length then .tup [vStr (wrT nm l), vBool true] else .tup [vStr ByteArray.empty, vBool false]
theorem writeS_yes {nm : ByteArray} {l : List Sg} (h : okS l l.length) : writeS nm l = .tup [vStr (wrT nm l), vBool true] := if_pos h
theorem writeS_no {nm : ByteArray} {l : List Sg} (h : ¬ okS l l.length) : writeS nm l = .tup [vStr ByteArray.empty, vBool false] := if_neg h
theorem writeS_ids (nm : ByteArray) (l : List Sg) : (writeS nm l).ids = [] := by unfold writeS; split <;> rfl
noncomputable def G_wr : Gam := ((Gam.none.add 9 fun a => F_map (NT.nz.nzL [.s 4] a)).add 26 fun a => F_uns (NT.nz.nzL [] a)).add 25 fun a => F_Spell (NT.nz.nzL [.s 1] a)
theorem known_wr : Known Try.prog G_wr := (((Known.none _).addC _ map_calm).addC _ uns_calm).addC _ Spell_calm
theorem G_wr_at : (∀ h d a, G_wr 9 h d a = calmE (fun a => F_map (NT.nz.nzL [.s 4] a)) h a) ∧ (∀ h d a, G_wr 26 h d a = calmE (fun a => F_uns (NT.nz.nzL [] a)) h a) ∧ (∀ h d a, G_wr 25 h d a = calmE (fun a => F_Spell (NT.nz.nzL [.s 1] a)) h a) := ⟨fun _ _ _ => rfl, fun _ _ _ => rfl, fun _ _ _ => rfl⟩
theorem Write_body (nm : ByteArray) (l : List Sg) (hl : l.length ≤ 1000000) (hn : nm.size ≤ 100000000) : Body Try.prog G_wr (DRun Try.prog G_wr) 11 [.d (.v (.string nm)), .d (sgsD l)] (writeS nm l) := by
  refine Body.of Try.func11 Try.ntmps11 (by kernel_rfl) rfl rfl rfl ?_
  have hu := unitsS_len nm
  have hsz := spellS_size (unitsS nm)
  by_cases hok : okS l l.length
  · have hm := mapS_yes hok
    have hml := mapB_len hok (Nat.le_refl _)
    have hmt : (mapT l).size = (mapB l l.length).length := ba_size _
    simp only [sgsD, intsD, nums_map, sgOf_map, hm, writeS_yes hok, G_wr_at, calmE, F_map, F_uns, F_Spell, AV.flat, AV.flat.flatL, List.length_map, goTG_val, goTG_new, goTG_up, goTG_none, goG_none, goG_new, goG_up, ne_eq, evK, evH, retHF, DRun_mk, runT_nil, runT_none, runT_guard, goT_val, goT_new, goT_store, goTH_true, goTH_false, evO, keys, Option.toList_some, Option.toList_none, nzL_nil, nzL_cons, nz_k, nz_sl, nz_nil, nz_agg, startL, evC, evV, goE_val, goE_new, goE_store, goH_true, goH_false, goG_val, lk_cons, lk_nil, lk_func, lk_int, lk_bool, lk_string, lk_slice, lk_agg, look_mk, St.effOf, eff, effCall, effBin, effUn, effConv, effPick, effNil, effFold, fold1, effLoad, effStore, effFieldAddr, effField, fieldOf, sliceOf, effIndexAddr, effIndex, effLen, effExtract, effSlice, bnd, effBuild, placesOf, effBuildSlice, effMakeSlice, effAppend, srcOf, fillA, chunk, seg, toD, toDs, put, eqAV, fieldsEq, leafEq, strip, unw, allB, selP_or, selP_and, tis, TyD.agg, AV.cells, AV.cell, allCell, vInt, vBool, vStr, subL_nil, subL_cons, upIds, AV.ids, AV.ids.idsL, AObj.ids, drops, Hp.get_cons, get_nil, retF, resL, one, fz, fz.fzL, List.map_cons, List.map_nil, List.nil_append, List.append_nil, List.cons_append, List.all_cons, List.all_nil, List.length_cons, List.length_nil, List.getElem?_cons_zero, List.getElem?_cons_succ, List.getD_cons_zero, List.getD_cons_succ, List.take_succ_cons, List.take_zero, List.drop_succ_cons, List.drop_zero, List.take_nil, List.drop_nil, List.contains_cons, List.contains_nil, Option.getD_some, Option.getD_none, Option.map_some, Option.map_none, if_true, if_false, true_and, and_true, and_self, or_self, or_false, false_or, false_and, and_false, reduceCtorEq, sel_and, sel_or, decide_eq_true_eq, Bool.and_eq_true, Bool.or_eq_true, Bool.and_true, Bool.true_and, Bool.or_false, Bool.false_or, Bool.true_or, Bool.or_true, Bool.not_true, Bool.not_false, Bool.false_eq_true, implies_true, not_false_eq_true, Nat.reduceLT, Nat.reduceEqDiff, Nat.reduceAdd, Nat.reduceMul, Nat.reduceMod, Nat.reduceLeDiff, Nat.reduceBEq, Nat.zero_add, Nat.add_zero, reduceIte, ↓reduceIte, List.not_mem_nil]
    have p1 : preB.size = 24 := rfl
    have p2 : midB.size = 25 := rfl
    have p3 : endB.size = 2 := rfl
    refine ⟨hl, by omega, by omega, ?_, ?_, ?_, ?_, Sub.refl _⟩
    · show ((preB.size + (spellS (unitsS nm)).size : Nat) : Int) ≤ 9223372036854775807
      omega
    · show (((preB ++ spellS (unitsS nm)).size + midB.size : Nat) : Int) ≤ 9223372036854775807
      rw [ByteArray.size_append]; omega
    · show (((preB ++ spellS (unitsS nm) ++ midB).size + (mapT l).size : Nat) : Int) ≤ 9223372036854775807
      rw [ByteArray.size_append, ByteArray.size_append]; omega
    · show (((preB ++ spellS (unitsS nm) ++ midB ++ mapT l).size + endB.size : Nat) : Int) ≤ 9223372036854775807
      rw [ByteArray.size_append, ByteArray.size_append, ByteArray.size_append]; omega
  · have hm := mapS_no hok
    simp only [sgsD, intsD, nums_map, sgOf_map, hm, writeS_no hok, G_wr_at, calmE, F_map, F_uns, F_Spell, AV.flat, AV.flat.flatL, List.length_map, goTG_val, goTG_new, goTG_up, goTG_none, goG_none, goG_new, goG_up, ne_eq, evK, evH, retHF, DRun_mk, runT_nil, runT_none, runT_guard, goT_val, goT_new, goT_store, goTH_true, goTH_false, evO, keys, Option.toList_some, Option.toList_none, nzL_nil, nzL_cons, nz_k, nz_sl, nz_nil, nz_agg, startL, evC, evV, goE_val, goE_new, goE_store, goH_true, goH_false, goG_val, lk_cons, lk_nil, lk_func, lk_int, lk_bool, lk_string, lk_slice, lk_agg, look_mk, St.effOf, eff, effCall, effBin, effUn, effConv, effPick, effNil, effFold, fold1, effLoad, effStore, effFieldAddr, effField, fieldOf, sliceOf, effIndexAddr, effIndex, effLen, effExtract, effSlice, bnd, effBuild, placesOf, effBuildSlice, effMakeSlice, effAppend, srcOf, fillA, chunk, seg, toD, toDs, put, eqAV, fieldsEq, leafEq, strip, unw, allB, selP_or, selP_and, tis, TyD.agg, AV.cells, AV.cell, allCell, vInt, vBool, vStr, subL_nil, subL_cons, upIds, AV.ids, AV.ids.idsL, AObj.ids, drops, Hp.get_cons, get_nil, retF, resL, one, fz, fz.fzL, List.map_cons, List.map_nil, List.nil_append, List.append_nil, List.cons_append, List.all_cons, List.all_nil, List.length_cons, List.length_nil, List.getElem?_cons_zero, List.getElem?_cons_succ, List.getD_cons_zero, List.getD_cons_succ, List.take_succ_cons, List.take_zero, List.drop_succ_cons, List.drop_zero, List.take_nil, List.drop_nil, List.contains_cons, List.contains_nil, Option.getD_some, Option.getD_none, Option.map_some, Option.map_none, if_true, if_false, true_and, and_true, and_self, or_self, or_false, false_or, false_and, and_false, reduceCtorEq, sel_and, sel_or, decide_eq_true_eq, Bool.and_eq_true, Bool.or_eq_true, Bool.and_true, Bool.true_and, Bool.or_false, Bool.false_or, Bool.true_or, Bool.or_true, Bool.not_true, Bool.not_false, Bool.false_eq_true, implies_true, not_false_eq_true, Nat.reduceLT, Nat.reduceEqDiff, Nat.reduceAdd, Nat.reduceMul, Nat.reduceMod, Nat.reduceLeDiff, Nat.reduceBEq, Nat.zero_add, Nat.add_zero, reduceIte, ↓reduceIte, List.not_mem_nil]
    exact ⟨hl, Sub.refl _⟩
noncomputable def F_write : List AV → Option (Prop × AV)
  | [.d (.v (.string nm)), .d (.sl 4 xs)] => some (xs = (xs.map sgOf).map sgD ∧ xs.length ≤ 1000000 ∧ nm.size ≤ 100000000, writeS nm (xs.map sgOf))
  | _ => none
theorem write_calm : ∀ args sc res, F_write args = some (sc, res) → sc → Calm Try.prog 11 args res := by
  intro args sc res h hs
  unfold F_write at h
  split at h <;> cases h
  rename_i nm xs
  obtain ⟨h1, h2, h3⟩ := hs
  have hb := Write_body nm (xs.map sgOf) (by simpa using h2) h3
  rw [sgsD, ← h1] at hb
  exact known_wr.calm mixed rfl (writeS_ids _ _) hb
noncomputable def G_rwr : Gam := ((Gam.none.add 10 fun a => F_rmap (NT.nz.nzL [.s 4] a)).add 28 fun a => F_uns (NT.nz.nzL [] a)).add 27 fun a => F_su (NT.nz.nzL [.s 1] a)
theorem known_rwr : Known Try.prog G_rwr := (((Known.none _).addC _ rmap_calm).addC _ runs_calm).addC _ su_calm
theorem G_rwr_at : (∀ h d a, G_rwr 10 h d a = calmE (fun a => F_rmap (NT.nz.nzL [.s 4] a)) h a) ∧ (∀ h d a, G_rwr 28 h d a = calmE (fun a => F_uns (NT.nz.nzL [] a)) h a) ∧ (∀ h d a, G_rwr 27 h d a = calmE (fun a => F_su (NT.nz.nzL [.s 1] a)) h a) := ⟨fun _ _ _ => rfl, fun _ _ _ => rfl, fun _ _ _ => rfl⟩
theorem RWrite_body (nm : ByteArray) (l : List Sg) (hl : l.length ≤ 1000000) (hn : nm.size ≤ 100000000) : Body Try.prog G_rwr (DRun Try.prog G_rwr) 12 [.d (.v (.string nm)), .d (sgsD l)] (writeS nm l) := by
  refine Body.of Try.func12 Try.ntmps12 (by kernel_rfl) rfl rfl rfl ?_
  have hu := unitsS_len nm
  have hsz := spellS_size (unitsS nm)
  have hlm : l.length ≤ maxLen := Nat.le_trans hl (by decide)
  by_cases hok : okS l l.length
  · have hm := mapS_yes hok
    have hml := mapB_len hok (Nat.le_refl _)
    have hmt : (mapT l).size = (mapB l l.length).length := ba_size _
    simp only [sgsD, intsD, nums_map, sgOf_map, hm, writeS_yes hok, G_rwr_at, calmE, F_rmap, F_uns, F_su, AV.flat, AV.flat.flatL, List.length_map, goTG_val, goTG_new, goTG_up, goTG_none, goG_none, goG_new, goG_up, ne_eq, evK, evH, retHF, DRun_mk, runT_nil, runT_none, runT_guard, goT_val, goT_new, goT_store, goTH_true, goTH_false, evO, keys, Option.toList_some, Option.toList_none, nzL_nil, nzL_cons, nz_k, nz_sl, nz_nil, nz_agg, startL, evC, evV, goE_val, goE_new, goE_store, goH_true, goH_false, goG_val, lk_cons, lk_nil, lk_func, lk_int, lk_bool, lk_string, lk_slice, lk_agg, look_mk, St.effOf, eff, effCall, effBin, effUn, effConv, effPick, effNil, effFold, fold1, effLoad, effStore, effFieldAddr, effField, fieldOf, sliceOf, effIndexAddr, effIndex, effLen, effExtract, effSlice, bnd, effBuild, placesOf, effBuildSlice, effMakeSlice, effAppend, srcOf, fillA, chunk, seg, toD, toDs, put, eqAV, fieldsEq, leafEq, strip, unw, allB, selP_or, selP_and, tis, TyD.agg, AV.cells, AV.cell, allCell, vInt, vBool, vStr, subL_nil, subL_cons, upIds, AV.ids, AV.ids.idsL, AObj.ids, drops, Hp.get_cons, get_nil, retF, resL, one, fz, fz.fzL, List.map_cons, List.map_nil, List.nil_append, List.append_nil, List.cons_append, List.all_cons, List.all_nil, List.length_cons, List.length_nil, List.getElem?_cons_zero, List.getElem?_cons_succ, List.getD_cons_zero, List.getD_cons_succ, List.take_succ_cons, List.take_zero, List.drop_succ_cons, List.drop_zero, List.take_nil, List.drop_nil, List.contains_cons, List.contains_nil, Option.getD_some, Option.getD_none, Option.map_some, Option.map_none, if_true, if_false, true_and, and_true, and_self, or_self, or_false, false_or, false_and, and_false, reduceCtorEq, sel_and, sel_or, decide_eq_true_eq, Bool.and_eq_true, Bool.or_eq_true, Bool.and_true, Bool.true_and, Bool.or_false, Bool.false_or, Bool.true_or, Bool.or_true, Bool.not_true, Bool.not_false, Bool.false_eq_true, implies_true, not_false_eq_true, Nat.reduceLT, Nat.reduceEqDiff, Nat.reduceAdd, Nat.reduceMul, Nat.reduceMod, Nat.reduceLeDiff, Nat.reduceBEq, Nat.zero_add, Nat.add_zero, reduceIte, ↓reduceIte, List.not_mem_nil]
    have p1 : preB.size = 24 := rfl
    have p2 : midB.size = 25 := rfl
    have p3 : endB.size = 2 := rfl
    refine ⟨hlm, by omega, by omega, ?_, ?_, ?_, ?_, Sub.refl _⟩
    · show ((preB.size + (spellS (unitsS nm)).size : Nat) : Int) ≤ 9223372036854775807
      omega
    · show (((preB ++ spellS (unitsS nm)).size + midB.size : Nat) : Int) ≤ 9223372036854775807
      rw [ByteArray.size_append]; omega
    · show (((preB ++ spellS (unitsS nm) ++ midB).size + (mapT l).size : Nat) : Int) ≤ 9223372036854775807
      rw [ByteArray.size_append, ByteArray.size_append]; omega
    · show (((preB ++ spellS (unitsS nm) ++ midB ++ mapT l).size + endB.size : Nat) : Int) ≤ 9223372036854775807
      rw [ByteArray.size_append, ByteArray.size_append, ByteArray.size_append]; omega
  · have hm := mapS_no hok
    simp only [sgsD, intsD, nums_map, sgOf_map, hm, writeS_no hok, G_rwr_at, calmE, F_rmap, F_uns, F_su, AV.flat, AV.flat.flatL, List.length_map, goTG_val, goTG_new, goTG_up, goTG_none, goG_none, goG_new, goG_up, ne_eq, evK, evH, retHF, DRun_mk, runT_nil, runT_none, runT_guard, goT_val, goT_new, goT_store, goTH_true, goTH_false, evO, keys, Option.toList_some, Option.toList_none, nzL_nil, nzL_cons, nz_k, nz_sl, nz_nil, nz_agg, startL, evC, evV, goE_val, goE_new, goE_store, goH_true, goH_false, goG_val, lk_cons, lk_nil, lk_func, lk_int, lk_bool, lk_string, lk_slice, lk_agg, look_mk, St.effOf, eff, effCall, effBin, effUn, effConv, effPick, effNil, effFold, fold1, effLoad, effStore, effFieldAddr, effField, fieldOf, sliceOf, effIndexAddr, effIndex, effLen, effExtract, effSlice, bnd, effBuild, placesOf, effBuildSlice, effMakeSlice, effAppend, srcOf, fillA, chunk, seg, toD, toDs, put, eqAV, fieldsEq, leafEq, strip, unw, allB, selP_or, selP_and, tis, TyD.agg, AV.cells, AV.cell, allCell, vInt, vBool, vStr, subL_nil, subL_cons, upIds, AV.ids, AV.ids.idsL, AObj.ids, drops, Hp.get_cons, get_nil, retF, resL, one, fz, fz.fzL, List.map_cons, List.map_nil, List.nil_append, List.append_nil, List.cons_append, List.all_cons, List.all_nil, List.length_cons, List.length_nil, List.getElem?_cons_zero, List.getElem?_cons_succ, List.getD_cons_zero, List.getD_cons_succ, List.take_succ_cons, List.take_zero, List.drop_succ_cons, List.drop_zero, List.take_nil, List.drop_nil, List.contains_cons, List.contains_nil, Option.getD_some, Option.getD_none, Option.map_some, Option.map_none, if_true, if_false, true_and, and_true, and_self, or_self, or_false, false_or, false_and, and_false, reduceCtorEq, sel_and, sel_or, decide_eq_true_eq, Bool.and_eq_true, Bool.or_eq_true, Bool.and_true, Bool.true_and, Bool.or_false, Bool.false_or, Bool.true_or, Bool.or_true, Bool.not_true, Bool.not_false, Bool.false_eq_true, implies_true, not_false_eq_true, Nat.reduceLT, Nat.reduceEqDiff, Nat.reduceAdd, Nat.reduceMul, Nat.reduceMod, Nat.reduceLeDiff, Nat.reduceBEq, Nat.zero_add, Nat.add_zero, reduceIte, ↓reduceIte, List.not_mem_nil]
    exact ⟨hlm, Sub.refl _⟩
theorem rwrite_calm : ∀ args sc res, F_write args = some (sc, res) → sc → Calm Try.prog 12 args res := by
  intro args sc res h hs
  unfold F_write at h
  split at h <;> cases h
  rename_i nm xs
  obtain ⟨h1, h2, h3⟩ := hs
  have hb := RWrite_body nm (xs.map sgOf) (by simpa using h2) h3
  rw [sgsD, ← h1] at hb
  exact known_rwr.calm mixed rfl (writeS_ids _ _) hb
/-- A line that the laws don't speak of. -/
def farL (s : Sg) : Prop := s.a > 200 ∧ s.a ≤ 100000
instance (s : Sg) : Decidable (farL s) := by unfold farL; infer_instance
def fewS (l : List Sg) : Bool := decide ((∀ s ∈ l, ¬ farL s) ∧ l.length ≤ 60)
theorem fewS_body (l : List Sg) (hl : l.length ≤ maxLen) : Body Try.prog Gam.none (DRun Try.prog Gam.none) 8 [.d (sgsD l)] (vBool (fewS l)) := by
  refine Body.of Try.func8 Try.ntmps8 (by kernel_rfl) rfl rfl rfl ?_
  have hl : l.length ≤ 9223372036854775807 := hl
  simp only [sgsD, List.length_map, goTG_val, goTG_new, goTG_up, goTG_none, goG_none, goG_new, goG_up, ne_eq, evK, evH, retHF, DRun_mk, runT_nil, runT_none, runT_guard, goT_val, goT_new, goT_store, goTH_true, goTH_false, evO, keys, Option.toList_some, Option.toList_none, nzL_nil, nzL_cons, nz_k, nz_sl, nz_nil, nz_agg, startL, evC, evV, goE_val, goE_new, goE_store, goH_true, goH_false, goG_val, lk_cons, lk_nil, lk_func, lk_int, lk_bool, lk_string, lk_slice, lk_agg, look_mk, St.effOf, eff, effCall, effBin, effUn, effConv, effPick, effNil, effFold, fold1, effLoad, effStore, effFieldAddr, effField, fieldOf, sliceOf, effIndexAddr, effIndex, effLen, effExtract, effSlice, bnd, effBuild, placesOf, effBuildSlice, effMakeSlice, effAppend, srcOf, fillA, chunk, seg, toD, toDs, put, eqAV, fieldsEq, leafEq, strip, unw, allB, selP_or, selP_and, tis, TyD.agg, AV.cells, AV.cell, allCell, vInt, vBool, vStr, subL_nil, subL_cons, upIds, AV.ids, AV.ids.idsL, AObj.ids, drops, Hp.get_cons, get_nil, retF, resL, one, fz, fz.fzL, List.map_cons, List.map_nil, List.nil_append, List.append_nil, List.cons_append, List.all_cons, List.all_nil, List.length_cons, List.length_nil, List.getElem?_cons_zero, List.getElem?_cons_succ, List.getD_cons_zero, List.getD_cons_succ, List.take_succ_cons, List.take_zero, List.drop_succ_cons, List.drop_zero, List.take_nil, List.drop_nil, List.contains_cons, List.contains_nil, Option.getD_some, Option.getD_none, Option.map_some, Option.map_none, if_true, if_false, true_and, and_true, and_self, or_self, or_false, false_or, false_and, and_false, reduceCtorEq, sel_and, sel_or, decide_eq_true_eq, Bool.and_eq_true, Bool.or_eq_true, Bool.and_true, Bool.true_and, Bool.or_false, Bool.false_or, Bool.true_or, Bool.or_true, Bool.not_true, Bool.not_false, Bool.false_eq_true, implies_true, not_false_eq_true, Nat.reduceLT, Nat.reduceEqDiff, Nat.reduceAdd, Nat.reduceMul, Nat.reduceMod, Nat.reduceLeDiff, Nat.reduceBEq, Nat.zero_add, Nat.add_zero, reduceIte, ↓reduceIte, List.not_mem_nil]
  refine wpc_loop (fun j : Nat => ⟨27, [], [(0, .d (sgsD l)), (3, vInt .i64 j)], []⟩) (fun j => j ≤ l.length ∧ ∀ k, k < j → ∀ s, l[k]? = some s → ¬ farL s) (fun j => l.length - j) 0 ⟨Nat.zero_le _, fun k hk => absurd hk (Nat.not_lt_zero k)⟩ ?_ ?_
  · refine Le.of id [] ?_
    simp only [sgsD, Mt_tup, Mt_agg, Mt_fn, forall_eq, forall_eq_or_imp, ne_eq, List.all_cons, List.all_nil, pr, Nat.reduceLeDiff, slR_nil, slR_cons, hpR_nil, hpR_cells, hpR_row, idsR_nil, idsR_cons, mtE_v, mtE_sl, mtE_nil, mtE_refl, mtE_row, mtE_born, mtE_ptr, mtE_rp, mtE_agg, mtE_tup, mtE_fn, mtE_ep, MtL_nil, MtL_cons, Mt_v, Mt_sl, Mt_nil, Mt_refl, Mt_row, Mt_born, Mt_ptr, MtO_cells, MtO_row, liveIds, distinct, Dat.v.injEq, Dat.sl.injEq, Value.int.injEq, Value.bool.injEq, Value.string.injEq, lk_cons, lk_nil, subL_nil, subL_cons, upIds, AV.ids, AV.ids.idsL, AObj.ids, Hp.get_cons, get_nil, allCell, AV.cell, vInt, vBool, vStr, id, true_and, and_true, and_self, List.append_nil, List.nil_append, List.not_mem_nil, List.mem_cons, or_false, false_or, or_self, not_true_eq_false, not_false_eq_true, false_imp_iff, false_implies, List.map_nil, not_false_eq_true, List.contains_cons, List.contains_nil, Bool.or_false, Bool.false_or, Bool.true_or, Bool.or_true, Bool.and_true, Bool.true_and, implies_true, if_true, if_false, reduceCtorEq, Nat.reduceEqDiff, Nat.reduceBEq, Nat.reduceAdd, reduceIte, ↓reduceIte]
    rfl
  · rintro j ⟨hj, hk⟩
    by_cases hj2 : (j : Int) < l.length
    · obtain ⟨d, hd⟩ : ∃ d, l[j]? = some d := ⟨_, List.getElem?_eq_getElem (by omega)⟩
      have hg : ∀ z, (l.map sgD).getD (j : Int).toNat z = sgD d := getD_map hd
      simp only [sgsD, hg, sgD, List.length_map, goTG_val, goTG_new, goTG_up, goTG_none, goG_none, goG_new, goG_up, ne_eq, evK, evH, retHF, DRun_mk, runT_nil, runT_none, runT_guard, goT_val, goT_new, goT_store, goTH_true, goTH_false, evO, keys, Option.toList_some, Option.toList_none, nzL_nil, nzL_cons, nz_k, nz_sl, nz_nil, nz_agg, startL, evC, evV, goE_val, goE_new, goE_store, goH_true, goH_false, goG_val, lk_cons, lk_nil, lk_func, lk_int, lk_bool, lk_string, lk_slice, lk_agg, look_mk, St.effOf, eff, effCall, effBin, effUn, effConv, effPick, effNil, effFold, fold1, effLoad, effStore, effFieldAddr, effField, fieldOf, sliceOf, effIndexAddr, effIndex, effLen, effExtract, effSlice, bnd, effBuild, placesOf, effBuildSlice, effMakeSlice, effAppend, srcOf, fillA, chunk, seg, toD, toDs, put, eqAV, fieldsEq, leafEq, strip, unw, allB, selP_or, selP_and, tis, TyD.agg, AV.cells, AV.cell, allCell, vInt, vBool, vStr, subL_nil, subL_cons, upIds, AV.ids, AV.ids.idsL, AObj.ids, drops, Hp.get_cons, get_nil, retF, resL, one, fz, fz.fzL, List.map_cons, List.map_nil, List.nil_append, List.append_nil, List.cons_append, List.all_cons, List.all_nil, List.length_cons, List.length_nil, List.getElem?_cons_zero, List.getElem?_cons_succ, List.getD_cons_zero, List.getD_cons_succ, List.take_succ_cons, List.take_zero, List.drop_succ_cons, List.drop_zero, List.take_nil, List.drop_nil, List.contains_cons, List.contains_nil, Option.getD_some, Option.getD_none, Option.map_some, Option.map_none, if_true, if_false, true_and, and_true, and_self, or_self, or_false, false_or, false_and, and_false, reduceCtorEq, sel_and, sel_or, decide_eq_true_eq, Bool.and_eq_true, Bool.or_eq_true, Bool.and_true, Bool.true_and, Bool.or_false, Bool.false_or, Bool.true_or, Bool.or_true, Bool.not_true, Bool.not_false, Bool.false_eq_true, implies_true, not_false_eq_true, Nat.reduceLT, Nat.reduceEqDiff, Nat.reduceAdd, Nat.reduceMul, Nat.reduceMod, Nat.reduceLeDiff, Nat.reduceBEq, Nat.zero_add, Nat.add_zero, reduceIte, ↓reduceIte, List.not_mem_nil]
      rw [if_pos hj2]
      refine ⟨by omega, fun _ => by omega, ?_⟩
      by_cases hr : farL d
      · rw [if_pos (show _ ∧ _ from hr)]
        have : fewS l = false := decide_eq_false fun h => h.1 d (List.mem_of_getElem? hd) hr
        rw [this]
      · rw [if_neg (show ¬ (_ ∧ _) from hr)]
        refine ⟨j + 1, by omega, ⟨by omega, fun k hk2 d' hd' => ?_⟩, Le.of id [] ?_⟩
        · rcases Nat.lt_succ_iff_lt_or_eq.mp hk2 with h | rfl
          · exact hk k h d' hd'
          · rw [hd] at hd'; cases hd'; exact hr
        · simp only [sgsD, Mt_tup, Mt_agg, Mt_fn, forall_eq, forall_eq_or_imp, ne_eq, List.all_cons, List.all_nil, pr, Nat.reduceLeDiff, slR_nil, slR_cons, hpR_nil, hpR_cells, hpR_row, idsR_nil, idsR_cons, mtE_v, mtE_sl, mtE_nil, mtE_refl, mtE_row, mtE_born, mtE_ptr, mtE_rp, mtE_agg, mtE_tup, mtE_fn, mtE_ep, MtL_nil, MtL_cons, Mt_v, Mt_sl, Mt_nil, Mt_refl, Mt_row, Mt_born, Mt_ptr, MtO_cells, MtO_row, liveIds, distinct, Dat.v.injEq, Dat.sl.injEq, Value.int.injEq, Value.bool.injEq, Value.string.injEq, lk_cons, lk_nil, subL_nil, subL_cons, upIds, AV.ids, AV.ids.idsL, AObj.ids, Hp.get_cons, get_nil, allCell, AV.cell, vInt, vBool, vStr, id, true_and, and_true, and_self, List.append_nil, List.nil_append, List.not_mem_nil, List.mem_cons, or_false, false_or, or_self, not_true_eq_false, not_false_eq_true, false_imp_iff, false_implies, List.map_nil, not_false_eq_true, List.contains_cons, List.contains_nil, Bool.or_false, Bool.false_or, Bool.true_or, Bool.or_true, Bool.and_true, Bool.true_and, implies_true, if_true, if_false, reduceCtorEq, Nat.reduceEqDiff, Nat.reduceBEq, Nat.reduceAdd, reduceIte, ↓reduceIte]
          exact w64 (by omega) (by omega)
    · simp only [sgsD, List.length_map, goTG_val, goTG_new, goTG_up, goTG_none, goG_none, goG_new, goG_up, ne_eq, evK, evH, retHF, DRun_mk, runT_nil, runT_none, runT_guard, goT_val, goT_new, goT_store, goTH_true, goTH_false, evO, keys, Option.toList_some, Option.toList_none, nzL_nil, nzL_cons, nz_k, nz_sl, nz_nil, nz_agg, startL, evC, evV, goE_val, goE_new, goE_store, goH_true, goH_false, goG_val, lk_cons, lk_nil, lk_func, lk_int, lk_bool, lk_string, lk_slice, lk_agg, look_mk, St.effOf, eff, effCall, effBin, effUn, effConv, effPick, effNil, effFold, fold1, effLoad, effStore, effFieldAddr, effField, fieldOf, sliceOf, effIndexAddr, effIndex, effLen, effExtract, effSlice, bnd, effBuild, placesOf, effBuildSlice, effMakeSlice, effAppend, srcOf, fillA, chunk, seg, toD, toDs, put, eqAV, fieldsEq, leafEq, strip, unw, allB, selP_or, selP_and, tis, TyD.agg, AV.cells, AV.cell, allCell, vInt, vBool, vStr, subL_nil, subL_cons, upIds, AV.ids, AV.ids.idsL, AObj.ids, drops, Hp.get_cons, get_nil, retF, resL, one, fz, fz.fzL, List.map_cons, List.map_nil, List.nil_append, List.append_nil, List.cons_append, List.all_cons, List.all_nil, List.length_cons, List.length_nil, List.getElem?_cons_zero, List.getElem?_cons_succ, List.getD_cons_zero, List.getD_cons_succ, List.take_succ_cons, List.take_zero, List.drop_succ_cons, List.drop_zero, List.take_nil, List.drop_nil, List.contains_cons, List.contains_nil, Option.getD_some, Option.getD_none, Option.map_some, Option.map_none, if_true, if_false, true_and, and_true, and_self, or_self, or_false, false_or, false_and, and_false, reduceCtorEq, sel_and, sel_or, decide_eq_true_eq, Bool.and_eq_true, Bool.or_eq_true, Bool.and_true, Bool.true_and, Bool.or_false, Bool.false_or, Bool.true_or, Bool.or_true, Bool.not_true, Bool.not_false, Bool.false_eq_true, implies_true, not_false_eq_true, Nat.reduceLT, Nat.reduceEqDiff, Nat.reduceAdd, Nat.reduceMul, Nat.reduceMod, Nat.reduceLeDiff, Nat.reduceBEq, Nat.zero_add, Nat.add_zero, reduceIte, ↓reduceIte, List.not_mem_nil]
      rw [if_neg hj2]
      have : fewS l = decide ((l.length : Int) ≤ 60) := by
        unfold fewS
        rw [decide_eq_decide]
        constructor
        · rintro ⟨-, h⟩; omega
        · intro h
          refine ⟨fun s hs => ?_, by omega⟩
          obtain ⟨k, hk2⟩ := List.getElem?_of_mem hs
          exact hk k (by have := (List.getElem?_eq_some_iff.mp hk2).1; omega) s hk2
      rw [this]
def F_fewS : List AV → Option (Prop × AV)
  | [.d (.sl 4 xs)] => some (xs = (xs.map sgOf).map sgD ∧ xs.length ≤ maxLen, vBool (fewS (xs.map sgOf)))
  | _ => none
theorem fewS_calm : ∀ args sc res, F_fewS args = some (sc, res) → sc → Calm Try.prog 8 args res := by
  intro args sc res h hs
  unfold F_fewS at h
  split at h <;> cases h
  rename_i xs
  obtain ⟨h1, h2⟩ := hs
  have hb := fewS_body (xs.map sgOf) (by simpa using h2)
  rw [sgsD, ← h1] at hb
  exact (Known.none _).calm mixed rfl rfl hb
noncomputable def G_al24 : Gam := (Gam.none.add 9 fun a => F_map (NT.nz.nzL [.s 4] a)).add 11 fun a => F_write (NT.nz.nzL [.k, .s 4] a)
theorem known_al24 : Known Try.prog G_al24 := ((Known.none _).addC _ map_calm).addC _ write_calm
theorem G_al24_at : (∀ h d a, G_al24 9 h d a = calmE (fun a => F_map (NT.nz.nzL [.s 4] a)) h a) ∧ (∀ h d a, G_al24 11 h d a = calmE (fun a => F_write (NT.nz.nzL [.k, .s 4] a)) h a) := ⟨fun _ _ _ => rfl, fun _ _ _ => rfl⟩
theorem vq_small {n : Int} (h0 : 0 ≤ n) (h1 : n < 16) : vq n = dig (2 * n).toNat := by
  unfold vq
  rw [if_neg (by omega), vx, if_neg (by omega), vd_lo (by omega)]
theorem alive24_body : Body Try.prog G_al24 (DRun Try.prog G_al24) 7 [] (vBool true) := by
  refine Body.of Try.func7 Try.ntmps7 (by kernel_rfl) rfl rfl rfl ?_
  have o0 : okS [] ([] : List Sg).length := fun i hi => absurd hi (Nat.not_lt_zero i)
  have o1 : okS [⟨1, 2, 0, 3⟩] ([⟨1, 2, 0, 3⟩] : List Sg).length := fun i hi s hs => by
    obtain rfl : i = 0 := by simpa using hi
    cases hs
    exact ⟨by decide, fun p h0 => absurd h0 (Nat.lt_irrefl 0)⟩
  have m0 : mapT [] = ⟨#[]⟩ := rfl
  have m1 : mapT [⟨1, 2, 0, 3⟩] = ⟨#[59, 69, 65, 65, 71]⟩ := by
    rw [mapT]
    simp only [List.length_cons, List.length_nil, mapB, List.getElem?_cons_zero, segB, aheadB, numsB, lastS, List.take_zero, List.getLastD_nil, List.flatMap_cons, List.flatMap_nil]
    rw [vq_small (n := 2 - _) (by decide) (by decide), vq_small (n := 0) (by decide) (by decide), vq_small (n := 3 - 0) (by decide) (by decide)]
    decide +kernel
  have s0 := mapS_yes o0
  have s1 := mapS_yes o1
  have w0 := writeS_yes (nm := ⟨#[97]⟩) o0
  rw [m0] at s0
  rw [m1] at s1
  have hw : 1 ≤ (wrT ⟨#[97]⟩ []).size := by
    unfold wrT
    simp only [ByteArray.size_append]
    have p1 : preB.size = 24 := rfl
    omega
  simp only [G_al24_at, calmE, F_map, F_write, AV.flat, AV.flat.flatL, sgOf, sgD, List.map_cons, List.map_nil, s0, s1, w0, goTG_val, goTG_new, goTG_up, goTG_none, goG_none, goG_new, goG_up, ne_eq, evK, evH, retHF, DRun_mk, runT_nil, runT_none, runT_guard, goT_val, goT_new, goT_store, goTH_true, goTH_false, evO, keys, Option.toList_some, Option.toList_none, nzL_nil, nzL_cons, nz_k, nz_sl, nz_nil, nz_agg, startL, evC, evV, goE_val, goE_new, goE_store, goH_true, goH_false, goG_val, lk_cons, lk_nil, lk_func, lk_int, lk_bool, lk_string, lk_slice, lk_agg, look_mk, St.effOf, eff, effCall, effBin, effUn, effConv, effPick, effNil, effFold, fold1, effLoad, effStore, effFieldAddr, effField, fieldOf, sliceOf, effIndexAddr, effIndex, effLen, effExtract, effSlice, bnd, effBuild, placesOf, effBuildSlice, effMakeSlice, effAppend, srcOf, fillA, chunk, seg, toD, toDs, put, eqAV, fieldsEq, leafEq, strip, unw, allB, selP_or, selP_and, tis, TyD.agg, AV.cells, AV.cell, allCell, vInt, vBool, vStr, subL_nil, subL_cons, upIds, AV.ids, AV.ids.idsL, AObj.ids, drops, Hp.get_cons, get_nil, retF, resL, one, fz, fz.fzL, List.map_cons, List.map_nil, List.nil_append, List.append_nil, List.cons_append, List.all_cons, List.all_nil, List.length_cons, List.length_nil, List.getElem?_cons_zero, List.getElem?_cons_succ, List.getD_cons_zero, List.getD_cons_succ, List.take_succ_cons, List.take_zero, List.drop_succ_cons, List.drop_zero, List.take_nil, List.drop_nil, List.contains_cons, List.contains_nil, Option.getD_some, Option.getD_none, Option.map_some, Option.map_none, if_true, if_false, true_and, and_true, and_self, or_self, or_false, false_or, false_and, and_false, reduceCtorEq, sel_and, sel_or, decide_eq_true_eq, Bool.and_eq_true, Bool.or_eq_true, Bool.and_true, Bool.true_and, Bool.or_false, Bool.false_or, Bool.true_or, Bool.or_true, Bool.not_true, Bool.not_false, Bool.false_eq_true, implies_true, not_false_eq_true, Nat.reduceLT, Nat.reduceEqDiff, Nat.reduceAdd, Nat.reduceMul, Nat.reduceMod, Nat.reduceLeDiff, Nat.reduceBEq, Nat.zero_add, Nat.add_zero, reduceIte, ↓reduceIte, List.not_mem_nil]
  refine ⟨by decide, ?_⟩
  rw [if_pos ⟨by decide +kernel, by decide +kernel⟩, decide_eq_true (by omega)]
theorem alive24_calm : Calm Try.prog 7 [] (vBool true) := known_al24.calm mixed rfl rfl alive24_body
def F_alive : List AV → Option (Prop × AV)
  | [] => some (True, vBool true)
  | _ => none
noncomputable def G24 : Gam := (((((Gam.none.add 7 fun a => F_alive (NT.nz.nzL [] a)).add 8 fun a => F_fewS (NT.nz.nzL [.s 4] a)).add 9 fun a => F_map (NT.nz.nzL [.s 4] a)).add 10 fun a => F_rmap (NT.nz.nzL [.s 4] a)).add 11 fun a => F_write (NT.nz.nzL [.k, .s 4] a)).add 12 fun a => F_write (NT.nz.nzL [.k, .s 4] a)
theorem known24 : Known Try.prog G24 := (((((((Known.none _)).addC _ (fun args sc res h _ => by
    unfold F_alive at h
    split at h <;> cases h
    exact alive24_calm)).addC _ fewS_calm).addC _ map_calm).addC _ rmap_calm).addC _ write_calm).addC _ rwrite_calm
theorem G24_at : (∀ h d a, G24 7 h d a = calmE (fun a => F_alive (NT.nz.nzL [] a)) h a) ∧ (∀ h d a, G24 8 h d a = calmE (fun a => F_fewS (NT.nz.nzL [.s 4] a)) h a) ∧ (∀ h d a, G24 9 h d a = calmE (fun a => F_map (NT.nz.nzL [.s 4] a)) h a) ∧ (∀ h d a, G24 10 h d a = calmE (fun a => F_rmap (NT.nz.nzL [.s 4] a)) h a) ∧ (∀ h d a, G24 11 h d a = calmE (fun a => F_write (NT.nz.nzL [.k, .s 4] a)) h a) ∧ (∀ h d a, G24 12 h d a = calmE (fun a => F_write (NT.nz.nzL [.k, .s 4] a)) h a) := ⟨fun _ _ _ => rfl, fun _ _ _ => rfl, fun _ _ _ => rfl, fun _ _ _ => rfl, fun _ _ _ => rfl, fun _ _ _ => rfl⟩
theorem encT47 (f : Nat) : IsEnc Try.prog f 47 (fun p : Sg => (((Lit.int .i64 p.a).wf = true ∧ (Lit.int .i64 p.b).wf = true) ∧ (Lit.int .i64 p.c).wf = true) ∧ (Lit.int .i64 p.d).wf = true) (fun p => sgD p) := by
  intro H enc W spare held cs r h
  obtain ⟨xs, h1, h2, h3⟩ := enc_struct (l := [(1, _), (1, _), (1, _), (1, _)]) Try.underlying47 (by kernel_rfl) (fun g hg => ⟨rfl, by kernel_rfl, (enc_int Try.underlying3).sub (fun _ => rfl), rfl, by kernel_rfl, (enc_int Try.underlying3).sub (fun _ => rfl), rfl, by kernel_rfl, (enc_int Try.underlying3).sub (fun _ => rfl), rfl, by kernel_rfl, (enc_int Try.underlying3).sub (fun _ => rfl), trivial⟩) H enc W spare held cs r h
  match xs, h1 with
  | [a, b, c, d], _ =>
    obtain ⟨-, ta, wa, ha⟩ := h2 0 a _ rfl rfl
    obtain ⟨-, tb, wb, hb⟩ := h2 1 b _ rfl rfl
    obtain ⟨-, tc, wc, hc⟩ := h2 2 c _ rfl rfl
    obtain ⟨-, td, wd, hd⟩ := h2 3 d _ rfl rfl
    subst ha hb hc hd
    exact ⟨⟨ta, tb, tc, td⟩, ⟨⟨⟨wa, wb⟩, wc⟩, wd⟩, h3⟩
theorem SmapTells_body (l : List Sg) (name : ByteArray) (h1 : l.length ≤ maxLen ∧ ∀ x ∈ l, (((Lit.int .i64 x.a).wf = true ∧ (Lit.int .i64 x.b).wf = true) ∧ (Lit.int .i64 x.c).wf = true) ∧ (Lit.int .i64 x.d).wf = true) (h2 : name.size ≤ maxLen) : Body Try.prog G24 (DRun Try.prog G24) 3 [.d (sgsD l), .d (.v (.string name))] (vBool true) := by
  refine Body.of Try.func3 Try.ntmps3 (by kernel_rfl) rfl rfl rfl ?_
  by_cases hok : okS l l.length
  · have hm := mapS_yes hok
    have hw := writeS_yes (nm := name) hok
    simp only [sgsD, sgOf_map, hm, hw, G24_at, calmE, F_alive, F_fewS, F_map, F_rmap, F_write, AV.flat, AV.flat.flatL, List.length_map, goTG_val, goTG_new, goTG_up, goTG_none, goG_none, goG_new, goG_up, ne_eq, evK, evH, retHF, DRun_mk, runT_nil, runT_none, runT_guard, goT_val, goT_new, goT_store, goTH_true, goTH_false, evO, keys, Option.toList_some, Option.toList_none, nzL_nil, nzL_cons, nz_k, nz_sl, nz_nil, nz_agg, startL, evC, evV, goE_val, goE_new, goE_store, goH_true, goH_false, goG_val, lk_cons, lk_nil, lk_func, lk_int, lk_bool, lk_string, lk_slice, lk_agg, look_mk, St.effOf, eff, effCall, effBin, effUn, effConv, effPick, effNil, effFold, fold1, effLoad, effStore, effFieldAddr, effField, fieldOf, sliceOf, effIndexAddr, effIndex, effLen, effExtract, effSlice, bnd, effBuild, placesOf, effBuildSlice, effMakeSlice, effAppend, srcOf, fillA, chunk, seg, toD, toDs, put, eqAV, fieldsEq, leafEq, strip, unw, allB, selP_or, selP_and, tis, TyD.agg, AV.cells, AV.cell, allCell, vInt, vBool, vStr, subL_nil, subL_cons, upIds, AV.ids, AV.ids.idsL, AObj.ids, drops, Hp.get_cons, get_nil, retF, resL, one, fz, fz.fzL, List.map_cons, List.map_nil, List.nil_append, List.append_nil, List.cons_append, List.all_cons, List.all_nil, List.length_cons, List.length_nil, List.getElem?_cons_zero, List.getElem?_cons_succ, List.getD_cons_zero, List.getD_cons_succ, List.take_succ_cons, List.take_zero, List.drop_succ_cons, List.drop_zero, List.take_nil, List.drop_nil, List.contains_cons, List.contains_nil, Option.getD_some, Option.getD_none, Option.map_some, Option.map_none, if_true, if_false, true_and, and_true, and_self, or_self, or_false, false_or, false_and, and_false, reduceCtorEq, sel_and, sel_or, decide_eq_true_eq, Bool.and_eq_true, Bool.or_eq_true, Bool.and_true, Bool.true_and, Bool.or_false, Bool.false_or, Bool.true_or, Bool.or_true, Bool.not_true, Bool.not_false, Bool.false_eq_true, implies_true, not_false_eq_true, Nat.reduceLT, Nat.reduceEqDiff, Nat.reduceAdd, Nat.reduceMul, Nat.reduceMod, Nat.reduceLeDiff, Nat.reduceBEq, Nat.zero_add, Nat.add_zero, reduceIte, ↓reduceIte, List.not_mem_nil]
    refine ⟨fun _ => h1.1, ?_⟩
    by_cases c : (!fewS l) = true ∨ (name.size : Int) > 100
    · rw [if_pos c]
    · rw [if_neg c]
      have hf : fewS l = true := by
        cases h : fewS l with
        | true => rfl
        | false => exact absurd (.inl (by rw [h]; rfl)) c
      have hl : l.length ≤ 60 := (of_decide_eq_true hf).2
      have hn : name.size ≤ 100 := by
        rcases Nat.lt_or_ge 100 name.size with h | h
        · exact absurd (.inr (by omega)) c
        · exact h
      refine ⟨by omega, by omega, h1.1, ⟨by omega, by omega⟩, ⟨by omega, by omega⟩, ?_⟩
      simp only [beq_self_eq_true, and_self, if_true]
      exact Sub.refl _
  · have hm := mapS_no hok
    have hw := writeS_no (nm := name) hok
    simp only [sgsD, sgOf_map, hm, hw, G24_at, calmE, F_alive, F_fewS, F_map, F_rmap, F_write, AV.flat, AV.flat.flatL, List.length_map, goTG_val, goTG_new, goTG_up, goTG_none, goG_none, goG_new, goG_up, ne_eq, evK, evH, retHF, DRun_mk, runT_nil, runT_none, runT_guard, goT_val, goT_new, goT_store, goTH_true, goTH_false, evO, keys, Option.toList_some, Option.toList_none, nzL_nil, nzL_cons, nz_k, nz_sl, nz_nil, nz_agg, startL, evC, evV, goE_val, goE_new, goE_store, goH_true, goH_false, goG_val, lk_cons, lk_nil, lk_func, lk_int, lk_bool, lk_string, lk_slice, lk_agg, look_mk, St.effOf, eff, effCall, effBin, effUn, effConv, effPick, effNil, effFold, fold1, effLoad, effStore, effFieldAddr, effField, fieldOf, sliceOf, effIndexAddr, effIndex, effLen, effExtract, effSlice, bnd, effBuild, placesOf, effBuildSlice, effMakeSlice, effAppend, srcOf, fillA, chunk, seg, toD, toDs, put, eqAV, fieldsEq, leafEq, strip, unw, allB, selP_or, selP_and, tis, TyD.agg, AV.cells, AV.cell, allCell, vInt, vBool, vStr, subL_nil, subL_cons, upIds, AV.ids, AV.ids.idsL, AObj.ids, drops, Hp.get_cons, get_nil, retF, resL, one, fz, fz.fzL, List.map_cons, List.map_nil, List.nil_append, List.append_nil, List.cons_append, List.all_cons, List.all_nil, List.length_cons, List.length_nil, List.getElem?_cons_zero, List.getElem?_cons_succ, List.getD_cons_zero, List.getD_cons_succ, List.take_succ_cons, List.take_zero, List.drop_succ_cons, List.drop_zero, List.take_nil, List.drop_nil, List.contains_cons, List.contains_nil, Option.getD_some, Option.getD_none, Option.map_some, Option.map_none, if_true, if_false, true_and, and_true, and_self, or_self, or_false, false_or, false_and, and_false, reduceCtorEq, sel_and, sel_or, decide_eq_true_eq, Bool.and_eq_true, Bool.or_eq_true, Bool.and_true, Bool.true_and, Bool.or_false, Bool.false_or, Bool.true_or, Bool.or_true, Bool.not_true, Bool.not_false, Bool.false_eq_true, implies_true, not_false_eq_true, Nat.reduceLT, Nat.reduceEqDiff, Nat.reduceAdd, Nat.reduceMul, Nat.reduceMod, Nat.reduceLeDiff, Nat.reduceBEq, Nat.zero_add, Nat.add_zero, reduceIte, ↓reduceIte, List.not_mem_nil]
    refine ⟨fun _ => h1.1, ?_⟩
    by_cases c : (!fewS l) = true ∨ (name.size : Int) > 100
    · rw [if_pos c]
    · rw [if_neg c]
      have hf : fewS l = true := by
        cases h : fewS l with
        | true => rfl
        | false => exact absurd (.inl (by rw [h]; rfl)) c
      have hl : l.length ≤ 60 := (of_decide_eq_true hf).2
      have hn : name.size ≤ 100 := by
        rcases Nat.lt_or_ge 100 name.size with h | h
        · exact absurd (.inr (by omega)) c
        · exact h
      refine ⟨by omega, by omega, h1.1, ⟨by omega, by omega⟩, ⟨by omega, by omega⟩, ?_⟩
      simp only [beq_self_eq_true, and_self, if_true]
      exact Sub.refl _
/-- Which segments may be mapped, reckoned. -/
def upO : Option Sg → Sg → Bool
  | some p, s => decide (upS p s)
  | none, _ => true
def okB : Option Sg → List Sg → Bool
  | _, [] => true
  | p, s :: l => decide (inS s) && upO p s && okB (some s) l
theorem okB_iff : ∀ (l : List Sg) (p : Option Sg), okB p l = true ↔ (∀ i s, l[i]? = some s → inS s ∧ ∀ q, (if i = 0 then p else l[i - 1]?) = some q → upS q s)
  | [], p => by simp [okB]
  | s :: l, p => by
    rw [okB, Bool.and_eq_true, Bool.and_eq_true, okB_iff l (some s)]
    constructor
    · rintro ⟨⟨h1, h2⟩, h3⟩ i t ht
      cases i with
      | zero =>
        cases ht
        refine ⟨of_decide_eq_true h1, fun q hq => ?_⟩
        rw [if_pos rfl] at hq
        subst hq
        exact of_decide_eq_true h2
      | succ i =>
        obtain ⟨k1, k2⟩ := h3 i t (by simpa using ht)
        refine ⟨k1, fun q hq => k2 q ?_⟩
        rw [if_neg (by omega), Nat.add_sub_cancel] at hq
        by_cases h0 : i = 0
        · subst h0; rw [if_pos rfl]; simpa using hq
        · rw [if_neg h0]
          obtain ⟨i, rfl⟩ : ∃ k, i = k + 1 := ⟨i - 1, by omega⟩
          simpa using hq
    · intro h
      refine ⟨⟨decide_eq_true (h 0 s rfl).1, ?_⟩, fun i t ht => ?_⟩
      · cases p with
        | none => rfl
        | some q => exact decide_eq_true ((h 0 s rfl).2 q (if_pos rfl))
      · obtain ⟨k1, k2⟩ := h (i + 1) t (by simpa using ht)
        refine ⟨k1, fun q hq => k2 q ?_⟩
        rw [if_neg (by omega), Nat.add_sub_cancel]
        by_cases h0 : i = 0
        · subst h0; rw [if_pos rfl] at hq; simpa using hq
        · rw [if_neg h0] at hq
          obtain ⟨i, rfl⟩ : ∃ k, i = k + 1 := ⟨i - 1, by omega⟩
          simpa using hq
theorem okS_iff (l : List Sg) : okS l l.length ↔ okB none l = true := by
  rw [okB_iff]
  constructor
  · intro h i s hs
    obtain ⟨k1, k2⟩ := h i (List.getElem?_eq_some_iff.mp hs).1 s hs
    refine ⟨k1, fun q hq => ?_⟩
    by_cases h0 : i = 0
    · rw [if_pos h0] at hq; cases hq
    · rw [if_neg h0] at hq; exact k2 q (by omega) hq
  · intro h i _ s hs
    obtain ⟨k1, k2⟩ := h i s hs
    exact ⟨k1, fun q h0 hq => k2 q (by rw [if_neg (by omega)]; exact hq)⟩
def tabS : List (List Sg) := [[], [⟨0, 0, 0, 0⟩], [⟨(-1), 0, 0, 0⟩], [⟨0, (-1), 0, 0⟩], [⟨0, 0, (-1), 0⟩], [⟨0, 0, 0, (-1)⟩], [⟨0, 1, 0, 0⟩, ⟨0, 1, 0, 0⟩], [⟨0, 1, 0, 0⟩, ⟨0, 2, 0, 0⟩], [⟨0, 2, 0, 0⟩, ⟨0, 1, 0, 0⟩], [⟨1, 0, 0, 0⟩, ⟨0, 5, 0, 0⟩], [⟨0, 5, 0, 0⟩, ⟨1, 0, 0, 0⟩], [⟨0, 1073741824, 0, 0⟩], [⟨0, 1073741825, 0, 0⟩], [⟨0, 0, 0, 1073741825⟩], [⟨100001, 0, 0, 0⟩], [⟨0, 0, 5, 0⟩, ⟨0, 1, 2, 0⟩]]
def okT : List Bool := [true, true, false, false, false, false, false, true, false, false, true, true, false, false, false, true]
theorem tabS_at {k : Nat} (hk : k < 16) (z : List Dat) : ([[Dat.sl 4 []], [Dat.sl 4 [[Dat.v (.int .i64 0), Dat.v (.int .i64 0), Dat.v (.int .i64 0), Dat.v (.int .i64 0)]]], [Dat.sl 4 [[Dat.v (.int .i64 (-1)), Dat.v (.int .i64 0), Dat.v (.int .i64 0), Dat.v (.int .i64 0)]]], [Dat.sl 4 [[Dat.v (.int .i64 0), Dat.v (.int .i64 (-1)), Dat.v (.int .i64 0), Dat.v (.int .i64 0)]]], [Dat.sl 4 [[Dat.v (.int .i64 0), Dat.v (.int .i64 0), Dat.v (.int .i64 (-1)), Dat.v (.int .i64 0)]]], [Dat.sl 4 [[Dat.v (.int .i64 0), Dat.v (.int .i64 0), Dat.v (.int .i64 0), Dat.v (.int .i64 (-1))]]], [Dat.sl 4 [[Dat.v (.int .i64 0), Dat.v (.int .i64 1), Dat.v (.int .i64 0), Dat.v (.int .i64 0)], [Dat.v (.int .i64 0), Dat.v (.int .i64 1), Dat.v (.int .i64 0), Dat.v (.int .i64 0)]]], [Dat.sl 4 [[Dat.v (.int .i64 0), Dat.v (.int .i64 1), Dat.v (.int .i64 0), Dat.v (.int .i64 0)], [Dat.v (.int .i64 0), Dat.v (.int .i64 2), Dat.v (.int .i64 0), Dat.v (.int .i64 0)]]], [Dat.sl 4 [[Dat.v (.int .i64 0), Dat.v (.int .i64 2), Dat.v (.int .i64 0), Dat.v (.int .i64 0)], [Dat.v (.int .i64 0), Dat.v (.int .i64 1), Dat.v (.int .i64 0), Dat.v (.int .i64 0)]]], [Dat.sl 4 [[Dat.v (.int .i64 1), Dat.v (.int .i64 0), Dat.v (.int .i64 0), Dat.v (.int .i64 0)], [Dat.v (.int .i64 0), Dat.v (.int .i64 5), Dat.v (.int .i64 0), Dat.v (.int .i64 0)]]], [Dat.sl 4 [[Dat.v (.int .i64 0), Dat.v (.int .i64 5), Dat.v (.int .i64 0), Dat.v (.int .i64 0)], [Dat.v (.int .i64 1), Dat.v (.int .i64 0), Dat.v (.int .i64 0), Dat.v (.int .i64 0)]]], [Dat.sl 4 [[Dat.v (.int .i64 0), Dat.v (.int .i64 1073741824), Dat.v (.int .i64 0), Dat.v (.int .i64 0)]]], [Dat.sl 4 [[Dat.v (.int .i64 0), Dat.v (.int .i64 1073741825), Dat.v (.int .i64 0), Dat.v (.int .i64 0)]]], [Dat.sl 4 [[Dat.v (.int .i64 0), Dat.v (.int .i64 0), Dat.v (.int .i64 0), Dat.v (.int .i64 1073741825)]]], [Dat.sl 4 [[Dat.v (.int .i64 100001), Dat.v (.int .i64 0), Dat.v (.int .i64 0), Dat.v (.int .i64 0)]]], [Dat.sl 4 [[Dat.v (.int .i64 0), Dat.v (.int .i64 0), Dat.v (.int .i64 5), Dat.v (.int .i64 0)], [Dat.v (.int .i64 0), Dat.v (.int .i64 1), Dat.v (.int .i64 2), Dat.v (.int .i64 0)]]]] : List (List Dat)).getD k z = [.sl 4 ((tabS.getD k []).map sgD)] := by
  match k, hk with
  | 0, _ => rfl
  | 1, _ => rfl
  | 2, _ => rfl
  | 3, _ => rfl
  | 4, _ => rfl
  | 5, _ => rfl
  | 6, _ => rfl
  | 7, _ => rfl
  | 8, _ => rfl
  | 9, _ => rfl
  | 10, _ => rfl
  | 11, _ => rfl
  | 12, _ => rfl
  | 13, _ => rfl
  | 14, _ => rfl
  | 15, _ => rfl
  | n + 16, h => exact absurd h (by omega)
theorem okT_at {k : Nat} (hk : k < 16) (z : List Dat) : ([[Dat.v (.bool true)], [Dat.v (.bool true)], [Dat.v (.bool false)], [Dat.v (.bool false)], [Dat.v (.bool false)], [Dat.v (.bool false)], [Dat.v (.bool false)], [Dat.v (.bool true)], [Dat.v (.bool false)], [Dat.v (.bool false)], [Dat.v (.bool true)], [Dat.v (.bool true)], [Dat.v (.bool false)], [Dat.v (.bool false)], [Dat.v (.bool false)], [Dat.v (.bool true)]] : List (List Dat)).getD k z = [.v (.bool (okT.getD k false))] := by
  match k, hk with
  | 0, _ => rfl
  | 1, _ => rfl
  | 2, _ => rfl
  | 3, _ => rfl
  | 4, _ => rfl
  | 5, _ => rfl
  | 6, _ => rfl
  | 7, _ => rfl
  | 8, _ => rfl
  | 9, _ => rfl
  | 10, _ => rfl
  | 11, _ => rfl
  | 12, _ => rfl
  | 13, _ => rfl
  | 14, _ => rfl
  | 15, _ => rfl
  | n + 16, h => exact absurd h (by omega)
theorem tab_ok {k : Nat} (hk : k < 16) : okB none (tabS.getD k []) = okT.getD k false ∧ (tabS.getD k []).length ≤ 2 := by
  have key : ∀ k : Fin 16, okB none (tabS.getD k.val []) = okT.getD k.val false ∧ (tabS.getD k.val []).length ≤ 2 := by decide +kernel
  exact key ⟨k, hk⟩
theorem SmapWrong_body (which : Int) (h1 : (Lit.int .i64 which).wf = true) : Body Try.prog G24 (DRun Try.prog G24) 5 [.d (.v (.int .i64 which))] (vBool true) := by
  refine Body.of Try.func5 Try.ntmps5 (by kernel_rfl) rfl rfl rfl ?_
  by_cases hw : which < 0 ∨ which ≥ ((16 : Nat) : Int)
  · simp only [G24_at, calmE, F_alive, F_fewS, F_map, F_rmap, F_write, AV.flat, AV.flat.flatL, List.length_map, goTG_val, goTG_new, goTG_up, goTG_none, goG_none, goG_new, goG_up, ne_eq, evK, evH, retHF, DRun_mk, runT_nil, runT_none, runT_guard, goT_val, goT_new, goT_store, goTH_true, goTH_false, evO, keys, Option.toList_some, Option.toList_none, nzL_nil, nzL_cons, nz_k, nz_sl, nz_nil, nz_agg, startL, evC, evV, goE_val, goE_new, goE_store, goH_true, goH_false, goG_val, lk_cons, lk_nil, lk_func, lk_int, lk_bool, lk_string, lk_slice, lk_agg, look_mk, St.effOf, eff, effCall, effBin, effUn, effConv, effPick, effNil, effFold, fold1, effLoad, effStore, effFieldAddr, effField, fieldOf, sliceOf, effIndexAddr, effIndex, effLen, effExtract, effSlice, bnd, effBuild, placesOf, effBuildSlice, effMakeSlice, effAppend, srcOf, fillA, chunk, seg, toD, toDs, put, eqAV, fieldsEq, leafEq, strip, unw, allB, selP_or, selP_and, tis, TyD.agg, AV.cells, AV.cell, allCell, vInt, vBool, vStr, subL_nil, subL_cons, upIds, AV.ids, AV.ids.idsL, AObj.ids, drops, Hp.get_cons, get_nil, retF, resL, one, fz, fz.fzL, List.map_cons, List.map_nil, List.nil_append, List.append_nil, List.cons_append, List.all_cons, List.all_nil, List.length_cons, List.length_nil, List.getElem?_cons_zero, List.getElem?_cons_succ, List.getD_cons_zero, List.getD_cons_succ, List.take_succ_cons, List.take_zero, List.drop_succ_cons, List.drop_zero, List.take_nil, List.drop_nil, List.contains_cons, List.contains_nil, Option.getD_some, Option.getD_none, Option.map_some, Option.map_none, if_true, if_false, true_and, and_true, and_self, or_self, or_false, false_or, false_and, and_false, reduceCtorEq, sel_and, sel_or, decide_eq_true_eq, Bool.and_eq_true, Bool.or_eq_true, Bool.and_true, Bool.true_and, Bool.or_false, Bool.false_or, Bool.true_or, Bool.or_true, Bool.not_true, Bool.not_false, Bool.false_eq_true, implies_true, not_false_eq_true, Nat.reduceLT, Nat.reduceEqDiff, Nat.reduceAdd, Nat.reduceMul, Nat.reduceMod, Nat.reduceLeDiff, Nat.reduceBEq, Nat.zero_add, Nat.add_zero, reduceIte, ↓reduceIte, List.not_mem_nil]
    rw [if_pos hw]
  · obtain ⟨k, rfl⟩ := Int.eq_ofNat_of_zero_le (show 0 ≤ which by omega)
    have hk : k < 16 := by omega
    have hg := tabS_at hk
    have ho := okT_at hk
    obtain ⟨h2, h3⟩ := tab_ok hk
    by_cases hok : okS (tabS.getD k []) (tabS.getD k []).length
    · have hm := mapS_yes hok
      have hw2 := writeS_yes (nm := ⟨#[110]⟩) hok
      have e := (okS_iff _).mp hok
      rw [h2] at e
      simp only [Int.toNat_natCast, hg, ho, hm, hw2, sgOf_map, G24_at, calmE, F_alive, F_fewS, F_map, F_rmap, F_write, AV.flat, AV.flat.flatL, List.length_map, goTG_val, goTG_new, goTG_up, goTG_none, goG_none, goG_new, goG_up, ne_eq, evK, evH, retHF, DRun_mk, runT_nil, runT_none, runT_guard, goT_val, goT_new, goT_store, goTH_true, goTH_false, evO, keys, Option.toList_some, Option.toList_none, nzL_nil, nzL_cons, nz_k, nz_sl, nz_nil, nz_agg, startL, evC, evV, goE_val, goE_new, goE_store, goH_true, goH_false, goG_val, lk_cons, lk_nil, lk_func, lk_int, lk_bool, lk_string, lk_slice, lk_agg, look_mk, St.effOf, eff, effCall, effBin, effUn, effConv, effPick, effNil, effFold, fold1, effLoad, effStore, effFieldAddr, effField, fieldOf, sliceOf, effIndexAddr, effIndex, effLen, effExtract, effSlice, bnd, effBuild, placesOf, effBuildSlice, effMakeSlice, effAppend, srcOf, fillA, chunk, seg, toD, toDs, put, eqAV, fieldsEq, leafEq, strip, unw, allB, selP_or, selP_and, tis, TyD.agg, AV.cells, AV.cell, allCell, vInt, vBool, vStr, subL_nil, subL_cons, upIds, AV.ids, AV.ids.idsL, AObj.ids, drops, Hp.get_cons, get_nil, retF, resL, one, fz, fz.fzL, List.map_cons, List.map_nil, List.nil_append, List.append_nil, List.cons_append, List.all_cons, List.all_nil, List.length_cons, List.length_nil, List.getElem?_cons_zero, List.getElem?_cons_succ, List.getD_cons_zero, List.getD_cons_succ, List.take_succ_cons, List.take_zero, List.drop_succ_cons, List.drop_zero, List.take_nil, List.drop_nil, List.contains_cons, List.contains_nil, Option.getD_some, Option.getD_none, Option.map_some, Option.map_none, if_true, if_false, true_and, and_true, and_self, or_self, or_false, false_or, false_and, and_false, reduceCtorEq, sel_and, sel_or, decide_eq_true_eq, Bool.and_eq_true, Bool.or_eq_true, Bool.and_true, Bool.true_and, Bool.or_false, Bool.false_or, Bool.true_or, Bool.or_true, Bool.not_true, Bool.not_false, Bool.false_eq_true, implies_true, not_false_eq_true, Nat.reduceLT, Nat.reduceEqDiff, Nat.reduceAdd, Nat.reduceMul, Nat.reduceMod, Nat.reduceLeDiff, Nat.reduceBEq, Nat.zero_add, Nat.add_zero, reduceIte, ↓reduceIte, List.not_mem_nil]
      rw [if_neg hw, e]
      exact ⟨by omega, hk, by omega, by omega, hk, ⟨by omega, by decide⟩, by omega, hk, fun _ => by omega, fun _ => hk, Sub.refl _⟩
    · have hm := mapS_no hok
      have hw2 := writeS_no (nm := ⟨#[110]⟩) hok
      have e : okT.getD k false = false := by
        rw [← h2]
        cases h : okB none (tabS.getD k []) with
        | false => rfl
        | true => exact absurd ((okS_iff _).mpr h) hok
      simp only [Int.toNat_natCast, hg, ho, hm, hw2, sgOf_map, G24_at, calmE, F_alive, F_fewS, F_map, F_rmap, F_write, AV.flat, AV.flat.flatL, List.length_map, goTG_val, goTG_new, goTG_up, goTG_none, goG_none, goG_new, goG_up, ne_eq, evK, evH, retHF, DRun_mk, runT_nil, runT_none, runT_guard, goT_val, goT_new, goT_store, goTH_true, goTH_false, evO, keys, Option.toList_some, Option.toList_none, nzL_nil, nzL_cons, nz_k, nz_sl, nz_nil, nz_agg, startL, evC, evV, goE_val, goE_new, goE_store, goH_true, goH_false, goG_val, lk_cons, lk_nil, lk_func, lk_int, lk_bool, lk_string, lk_slice, lk_agg, look_mk, St.effOf, eff, effCall, effBin, effUn, effConv, effPick, effNil, effFold, fold1, effLoad, effStore, effFieldAddr, effField, fieldOf, sliceOf, effIndexAddr, effIndex, effLen, effExtract, effSlice, bnd, effBuild, placesOf, effBuildSlice, effMakeSlice, effAppend, srcOf, fillA, chunk, seg, toD, toDs, put, eqAV, fieldsEq, leafEq, strip, unw, allB, selP_or, selP_and, tis, TyD.agg, AV.cells, AV.cell, allCell, vInt, vBool, vStr, subL_nil, subL_cons, upIds, AV.ids, AV.ids.idsL, AObj.ids, drops, Hp.get_cons, get_nil, retF, resL, one, fz, fz.fzL, List.map_cons, List.map_nil, List.nil_append, List.append_nil, List.cons_append, List.all_cons, List.all_nil, List.length_cons, List.length_nil, List.getElem?_cons_zero, List.getElem?_cons_succ, List.getD_cons_zero, List.getD_cons_succ, List.take_succ_cons, List.take_zero, List.drop_succ_cons, List.drop_zero, List.take_nil, List.drop_nil, List.contains_cons, List.contains_nil, Option.getD_some, Option.getD_none, Option.map_some, Option.map_none, if_true, if_false, true_and, and_true, and_self, or_self, or_false, false_or, false_and, and_false, reduceCtorEq, sel_and, sel_or, decide_eq_true_eq, Bool.and_eq_true, Bool.or_eq_true, Bool.and_true, Bool.true_and, Bool.or_false, Bool.false_or, Bool.true_or, Bool.or_true, Bool.not_true, Bool.not_false, Bool.false_eq_true, implies_true, not_false_eq_true, Nat.reduceLT, Nat.reduceEqDiff, Nat.reduceAdd, Nat.reduceMul, Nat.reduceMod, Nat.reduceLeDiff, Nat.reduceBEq, Nat.zero_add, Nat.add_zero, reduceIte, ↓reduceIte, List.not_mem_nil]
      rw [if_neg hw, e]
      exact ⟨by omega, hk, by omega, by omega, hk, ⟨by omega, by decide⟩, by omega, hk, fun _ => by omega, fun _ => hk, Sub.refl _⟩
end Go.Proofs.Ytgbialeahdoelaa.Eng
