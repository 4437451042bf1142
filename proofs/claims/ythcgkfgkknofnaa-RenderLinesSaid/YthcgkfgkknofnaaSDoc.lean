/- The algebra of layouts, on the small machine: which documents may be. -/
import Derived.Test.YthcgkfgkknofnaaSUtf
namespace Go.Proofs.Ythcgkfgkknofnaa.Eng
open Go Go.Proofs.Ythcgkfgkknofnaa.Base
set_option maxRecDepth 100000
set_option linter.unusedSimpArgs false
inductive Doc where
  | mk (k f : Int) (t : ByteArray) (kids : List Doc)
namespace Doc
def k : Doc → Int | mk k _ _ _ => k
def f : Doc → Int | mk _ f _ _ => f
def t : Doc → ByteArray | mk _ _ t _ => t
def kids : Doc → List Doc | mk _ _ _ l => l
end Doc
mutual
def docD : Doc → List Dat
  | .mk k f t l => [.v (.int .i64 k), .v (.int .i64 f), .v (.string t), .sl 4 (docsD l)]
def docsD : List Doc → List (List Dat)
  | [] => []
  | d :: l => docD d :: docsD l
end
theorem docsD_map : ∀ l, docsD l = l.map docD
  | [] => rfl
  | d :: l => by rw [docsD, docsD_map l, List.map_cons]
theorem docD_eq (d : Doc) : docD d = [.v (.int .i64 d.k), .v (.int .i64 d.f), .v (.string d.t), .sl 4 (d.kids.map docD)] := by
  cases d; rw [docD, docsD_map]; rfl
mutual
theorem docD_inj : ∀ (a b : Doc), docD a = docD b → a = b
  | .mk k f t l, .mk k' f' t' l', h => by
    simp only [docD, List.cons.injEq, Dat.v.injEq, Value.int.injEq, Value.string.injEq, Dat.sl.injEq, true_and, and_true] at h
    obtain ⟨rfl, rfl, rfl, h⟩ := h
    rw [docsD_inj l l' h]
theorem docsD_inj : ∀ (a b : List Doc), docsD a = docsD b → a = b
  | [], [], _ => rfl
  | [], _ :: _, h => by simp [docsD] at h
  | _ :: _, [], h => by simp [docsD] at h
  | x :: a, y :: b, h => by
    simp only [docsD, List.cons.injEq] at h
    rw [docD_inj x y h.1, docsD_inj a b h.2]
end
open Classical in
noncomputable def docsOf (ks : List (List Dat)) : List Doc := if h : ∃ l : List Doc, l.map docD = ks then Classical.choose h else []
theorem docsOf_map (l : List Doc) : docsOf (l.map docD) = l := by
  have h : ∃ l2 : List Doc, l2.map docD = l.map docD := ⟨l, rfl⟩
  unfold docsOf
  rw [dif_pos h]
  have h2 := Classical.choose_spec h
  generalize Classical.choose h = l2 at h2 ⊢
  rw [← docsD_map, ← docsD_map] at h2
  exact docsD_inj _ _ h2
def docZ : Doc := .mk 0 0 ByteArray.empty []
theorem getD_doc {l : List Doc} {j : Nat} {d : Doc} (h : l[j]? = some d) (z : List Dat) : (l.map docD).getD (j : Int).toNat z = docD d := by
  rw [Int.toNat_natCast, List.getD_eq_getElem?_getD, List.getElem?_map, h]; rfl
/-- Which documents may be. -/
def rightC (left : Int) (k f : Int) (t : ByteArray) (kids : List Doc) (all : Bool) : Bool :=
  if k = 1 then (kids.length : Int) == 0
  else if k = 2 ∨ k = 3 ∨ k = 4 then (if ((kids.length : Int) == 0) = true ∧ (t.toList == (⟨#[]⟩ : ByteArray).toList) = true then f == 0 else false)
  else if k = 5 ∨ k = 6 ∨ k = 7 then (if (left > 0 ∧ (t.toList == (⟨#[]⟩ : ByteArray).toList) = true) ∧ (f == 0) = true then all else false)
  else false
mutual
def right : Int → Doc → Bool
  | left, .mk k f t l => rightC left k f t l (rights (left - 1) l)
def rights : Int → List Doc → Bool
  | _, [] => true
  | left, d :: l => right left d && rights left l
end
theorem rights_all (left : Int) : ∀ l, rights left l = l.all (right left)
  | [] => rfl
  | d :: l => by rw [rights, rights_all left l, List.all_cons]
theorem right_eq (left : Int) (d : Doc) : right left d = rightC left d.k d.f d.t d.kids (d.kids.all (right (left - 1))) := by
  cases d; rw [right, rights_all]; rfl
mutual
def okD : Doc → Prop
  | .mk _ _ t l => t.size ≤ maxLen ∧ l.length ≤ maxLen ∧ okDs l
def okDs : List Doc → Prop
  | [] => True
  | d :: l => okD d ∧ okDs l
end
theorem okDs_get : ∀ {l : List Doc} {j : Nat} {d : Doc}, okDs l → l[j]? = some d → okD d
  | [], _, _, _, h => by cases h
  | x :: l, 0, _, h, e => by cases e; exact h.1
  | x :: l, j + 1, d, h, e => okDs_get h.2 (by simpa using e)
theorem okD_eq (d : Doc) : okD d = (d.t.size ≤ maxLen ∧ d.kids.length ≤ maxLen ∧ okDs d.kids) := by cases d; rfl
theorem Doc.eta (D : Doc) : Doc.mk D.k D.f D.t D.kids = D := by cases D; rfl
noncomputable def F_dright : List AV → Option (Prop × AV)
  | [.agg [.d (.v (.int .i64 k)), .d (.v (.int .i64 f)), .d (.v (.string t)), .d (.sl 4 ks)], .d (.v (.int .i64 left))] => some (ks = (docsOf ks).map docD ∧ okD (.mk k f t (docsOf ks)) ∧ -1000000000 ≤ left ∧ left ≤ 1000000000, vBool (right left (.mk k f t (docsOf ks))))
  | _ => none
def left_of : List AV → Nat
  | [_, .d (.v (.int _ left))] => left.toNat
  | _ => 0
/-- The closure over what is left. -/
noncomputable def F_r1 (n : Nat) (h : Nat → Option AObj) (_ : Nat) : List AV → Option Eff
  | [.agg [.d (.v (.int .i64 k)), .d (.v (.int .i64 f)), .d (.v (.string t)), .d (.sl 4 ks)], .ptr o 0] => match h o with
    | some (.cells 3 [.d (.v (.int .i64 left))]) => some { sc := ks = (docsOf ks).map docD ∧ okD (.mk k f t (docsOf ks)) ∧ 0 < left ∧ left ≤ 1000000000 ∧ (left - 1).toNat < n, val := vBool (!right (left - 1) (.mk k f t (docsOf ks))) }
    | _ => none
  | _ => none
noncomputable def G_r (n : Nat) : Gam := Gam.none.add 35 (lim F_dright left_of n)
theorem G_r_at (n : Nat) (h : Nat → Option AObj) (d : Nat) (a : List AV) : G_r n 35 h d a = calmE (lim F_dright left_of n) h a := rfl
theorem r1_body (n : Nat) (left : Int) (D : Doc) (h0 : 0 < left) (h1 : left ≤ 1000000000) (h2 : (left - 1).toNat < n) (h3 : okD D) :
    HBody Try.prog (G_r n) (DRun Try.prog (G_r n)) 44 [.agg ((docD D).map .d), .ptr 10000 0] [(10000, some (.cells 3 [vInt .i64 left]))] (vBool (!right (left - 1) D)) [(10000, some (.cells 3 [vInt .i64 left]))] := by
  refine HBody.of Try.func44 Try.ntmps44 (by kernel_rfl) rfl rfl rfl (u := [10000]) rfl ?_
  simp only [docD_eq, G_r_at, calmE, F_dright, lim, left_of, docsOf_map, Doc.eta, AV.flat, AV.flat.flatL, List.length_map, goTG_val, goTG_new, goTG_up, goTG_none, goG_none, goG_new, goG_up, ne_eq, evK, evH, retHF, DRun_mk, runT_nil, runT_none, runT_guard, goT_val, goT_new, goT_store, goTH_true, goTH_false, evO, keys, Option.toList_some, Option.toList_none, nzL_nil, nzL_cons, nz_k, nz_sl, nz_nil, nz_agg, startL, evC, evV, goE_val, goE_new, goE_store, goH_true, goH_false, goG_val, lk_cons, lk_nil, lk_func, lk_int, lk_bool, lk_string, lk_slice, lk_agg, look_mk, St.effOf, eff, effCall, effBin, effUn, effConv, effPick, effNil, effFold, fold1, effLoad, effStore, effFieldAddr, effField, fieldOf, sliceOf, effIndexAddr, effIndex, effLen, effExtract, effSlice, bnd, effBuild, placesOf, effBuildSlice, effMakeSlice, effAppend, srcOf, fillA, chunk, seg, toD, toDs, put, eqAV, fieldsEq, leafEq, strip, unw, allB, selP_or, selP_and, tis, TyD.agg, AV.cells, AV.cell, allCell, vInt, vBool, vStr, subL_nil, subL_cons, upIds, AV.ids, AV.ids.idsL, AObj.ids, drops, Hp.get_cons, get_nil, retF, resL, one, fz, fz.fzL, List.map_cons, List.map_nil, List.nil_append, List.append_nil, List.cons_append, List.all_cons, List.all_nil, List.length_cons, List.length_nil, List.getElem?_cons_zero, List.getElem?_cons_succ, List.getD_cons_zero, List.getD_cons_succ, List.take_succ_cons, List.take_zero, List.drop_succ_cons, List.drop_zero, List.take_nil, List.drop_nil, List.contains_cons, List.contains_nil, Option.getD_some, Option.getD_none, Option.map_some, Option.map_none, if_true, if_false, true_and, and_true, and_self, or_self, or_false, false_or, false_and, and_false, reduceCtorEq, sel_and, sel_or, decide_eq_true_eq, Bool.and_eq_true, Bool.or_eq_true, Bool.and_true, Bool.true_and, Bool.or_false, Bool.false_or, Bool.true_or, Bool.or_true, Bool.not_true, Bool.not_false, Bool.false_eq_true, implies_true, not_false_eq_true, Nat.reduceLT, Nat.reduceEqDiff, Nat.reduceAdd, Nat.reduceMul, Nat.reduceMod, Nat.reduceLeDiff, Nat.reduceBEq, Nat.zero_add, Nat.add_zero, reduceIte, ↓reduceIte, List.not_mem_nil]
  rw [w64 (by omega) (by omega)]
  refine ⟨⟨⟨h3, by omega, by omega⟩, h2⟩, id, ?_⟩
  simp only [Mt_tup, Mt_agg, Mt_fn, forall_eq, forall_eq_or_imp, ne_eq, List.all_cons, List.all_nil, pr, Nat.reduceLeDiff, slR_nil, slR_cons, hpR_nil, hpR_cells, hpR_row, idsR_nil, idsR_cons, mtE_v, mtE_sl, mtE_nil, mtE_refl, mtE_row, mtE_born, mtE_ptr, mtE_rp, mtE_agg, mtE_tup, mtE_fn, mtE_ep, MtL_nil, MtL_cons, Mt_v, Mt_sl, Mt_nil, Mt_refl, Mt_row, Mt_born, Mt_ptr, MtO_cells, MtO_row, liveIds, distinct, Dat.v.injEq, Dat.sl.injEq, Value.int.injEq, Value.bool.injEq, Value.string.injEq, lk_cons, lk_nil, subL_nil, subL_cons, upIds, AV.ids, AV.ids.idsL, AObj.ids, Hp.get_cons, get_nil, allCell, AV.cell, vInt, vBool, vStr, id, true_and, and_true, and_self, List.append_nil, List.nil_append, List.not_mem_nil, List.mem_cons, or_false, false_or, or_self, not_true_eq_false, not_false_eq_true, false_imp_iff, false_implies, List.map_nil, not_false_eq_true, List.contains_cons, List.contains_nil, Bool.or_false, Bool.false_or, Bool.true_or, Bool.or_true, Bool.and_true, Bool.true_and, implies_true, if_true, if_false, reduceCtorEq, Nat.reduceEqDiff, Nat.reduceBEq, Nat.reduceAdd, reduceIte, ↓reduceIte]
/-- The first one, of those that may not be. -/
def firstW (left : Int) (l : List Doc) : Int := match l.findIdx? (fun d => !right left d) with | some i => i | none => -1
theorem firstW_at {left : Int} {l : List Doc} {j : Nat} {d : Doc} (hd : l[j]? = some d) (hk : ∀ k, k < j → ∀ d, l[k]? = some d → right left d = true) (hr : right left d = false) : firstW left l = j := by
  have : l.findIdx? (fun d => !right left d) = some j := by
    rw [List.findIdx?_eq_some_iff_getElem]
    obtain ⟨hj, rfl⟩ := List.getElem?_eq_some_iff.mp hd
    exact ⟨hj, by simp [hr], fun k hkj => by simp [hk k hkj _ (List.getElem?_eq_getElem (by omega))]⟩
  unfold firstW; rw [this]
theorem firstW_none {left : Int} {l : List Doc} (hk : ∀ (k : Nat) (d : Doc), l[k]? = some d → right left d = true) : firstW left l = -1 := by
  have : l.findIdx? (fun d => !right left d) = none := by
    rw [List.findIdx?_eq_none_iff]
    intro d hd
    obtain ⟨k, hk2⟩ := List.getElem?_of_mem hd
    simp [hk k d hk2]
  unfold firstW; rw [this]
theorem firstW_all (left : Int) (l : List Doc) : decide (firstW left l ≥ 0) = !l.all (right left) := by
  unfold firstW
  cases h : l.findIdx? (fun d => !right left d) with
  | none =>
    rw [List.findIdx?_eq_none_iff] at h
    have : l.all (right left) = true := List.all_eq_true.mpr fun d hd => by simpa using h d hd
    rw [this]; rfl
  | some i =>
    rw [List.findIdx?_eq_some_iff_getElem] at h
    obtain ⟨hi, h1, -⟩ := h
    have : l.all (right left) = false := List.all_eq_false.mpr ⟨_, List.getElem_mem hi, by simpa using h1⟩
    rw [this]
    simp
noncomputable def F_ix (n : Nat) (h : Nat → Option AObj) (_ : Nat) : List AV → Option Eff
  | [.d (.sl 4 ks), .fn 44 [.ptr o 0]] => match h o with
    | some (.cells 3 [.d (.v (.int .i64 left))]) => some { sc := ks = (docsOf ks).map docD ∧ (docsOf ks).length ≤ maxLen ∧ okDs (docsOf ks) ∧ 0 < left ∧ left ≤ 1000000000 ∧ (left - 1).toNat < n, val := vInt .i64 (firstW (left - 1) (docsOf ks)) }
    | _ => none
  | _ => none
noncomputable def F_cf (n : Nat) (h : Nat → Option AObj) (_ : Nat) : List AV → Option Eff
  | [.d (.sl 4 ks), .fn 44 [.ptr o 0]] => match h o with
    | some (.cells 3 [.d (.v (.int .i64 left))]) => some { sc := ks = (docsOf ks).map docD ∧ (docsOf ks).length ≤ maxLen ∧ okDs (docsOf ks) ∧ 0 < left ∧ left ≤ 1000000000 ∧ (left - 1).toNat < n, val := vBool (!(docsOf ks).all (right (left - 1))) }
    | _ => none
  | _ => none
noncomputable def G_r1 (n : Nat) : Gam := (G_r n).addH 44 (F_r1 n)
noncomputable def G_ix (n : Nat) : Gam := (G_r1 n).addH 50 (F_ix n)
noncomputable def G_cf (n : Nat) : Gam := (G_ix n).addH 43 (F_cf n)
theorem G_r1_at (n : Nat) (h : Nat → Option AObj) (d : Nat) (a : List AV) : G_r1 n 44 h d a = F_r1 n h d a := rfl
theorem G_ix_at (n : Nat) (h : Nat → Option AObj) (d : Nat) (a : List AV) : G_ix n 50 h d a = F_ix n h d a := rfl
theorem G_cf_at (n : Nat) (h : Nat → Option AObj) (d : Nat) (a : List AV) : G_cf n 43 h d a = F_cf n h d a := rfl
theorem ix_body (n : Nat) (left : Int) (l : List Doc) (h0 : 0 < left) (h1 : left ≤ 1000000000) (h2 : (left - 1).toNat < n) (h3 : l.length ≤ maxLen) (h4 : okDs l) :
    HBody Try.prog (G_r1 n) (DRun Try.prog (G_r1 n)) 50 [.d (.sl 4 (l.map docD)), .fn 44 [.ptr 10000 0]] [(10000, some (.cells 3 [vInt .i64 left]))] (vInt .i64 (firstW (left - 1) l)) [(10000, some (.cells 3 [vInt .i64 left]))] := by
  have h3' : l.length ≤ 9223372036854775807 := h3
  refine HBody.of Try.func50 Try.ntmps50 (by kernel_rfl) rfl rfl rfl (u := [10000]) rfl ?_
  simp only [docD_eq, G_r1_at, F_r1, docsOf_map, List.length_map, goTG_val, goTG_new, goTG_up, goTG_none, goG_none, goG_new, goG_up, ne_eq, evK, evH, retHF, DRun_mk, runT_nil, runT_none, runT_guard, goT_val, goT_new, goT_store, goTH_true, goTH_false, evO, keys, Option.toList_some, Option.toList_none, nzL_nil, nzL_cons, nz_k, nz_sl, nz_nil, nz_agg, startL, evC, evV, goE_val, goE_new, goE_store, goH_true, goH_false, goG_val, lk_cons, lk_nil, lk_func, lk_int, lk_bool, lk_string, lk_slice, lk_agg, look_mk, St.effOf, eff, effCall, effBin, effUn, effConv, effPick, effNil, effFold, fold1, effLoad, effStore, effFieldAddr, effField, fieldOf, sliceOf, effIndexAddr, effIndex, effLen, effExtract, effSlice, bnd, effBuild, placesOf, effBuildSlice, effMakeSlice, effAppend, srcOf, fillA, chunk, seg, toD, toDs, put, eqAV, fieldsEq, leafEq, strip, unw, allB, selP_or, selP_and, tis, TyD.agg, AV.cells, AV.cell, allCell, vInt, vBool, vStr, subL_nil, subL_cons, upIds, AV.ids, AV.ids.idsL, AObj.ids, drops, Hp.get_cons, get_nil, retF, resL, one, fz, fz.fzL, List.map_cons, List.map_nil, List.nil_append, List.append_nil, List.cons_append, List.all_cons, List.all_nil, List.length_cons, List.length_nil, List.getElem?_cons_zero, List.getElem?_cons_succ, List.getD_cons_zero, List.getD_cons_succ, List.take_succ_cons, List.take_zero, List.drop_succ_cons, List.drop_zero, List.take_nil, List.drop_nil, List.contains_cons, List.contains_nil, Option.getD_some, Option.getD_none, Option.map_some, Option.map_none, if_true, if_false, true_and, and_true, and_self, or_self, or_false, false_or, false_and, and_false, reduceCtorEq, sel_and, sel_or, decide_eq_true_eq, Bool.and_eq_true, Bool.or_eq_true, Bool.and_true, Bool.true_and, Bool.or_false, Bool.false_or, Bool.true_or, Bool.or_true, Bool.not_true, Bool.not_false, Bool.false_eq_true, implies_true, not_false_eq_true, Nat.reduceLT, Nat.reduceEqDiff, Nat.reduceAdd, Nat.reduceMul, Nat.reduceMod, Nat.reduceLeDiff, Nat.reduceBEq, Nat.zero_add, Nat.add_zero, reduceIte, ↓reduceIte, List.not_mem_nil]
  refine wpc_loop (fun j : Nat => ⟨19, [10000], [(0, .d (.sl 4 (l.map docD))), (1, .fn 44 [.ptr 10000 0]), (7, vInt .i64 l.length), (8, vInt .i64 j)], [(10000, some (.cells 3 [vInt .i64 left]))]⟩) (fun j => j ≤ l.length ∧ ∀ k, k < j → ∀ d, l[k]? = some d → right (left - 1) d = true) (fun j => l.length - j) 0 ⟨Nat.zero_le _, fun k hk => absurd hk (Nat.not_lt_zero k)⟩ ?_ ?_
  · refine Le.of id [] ?_
    simp only [List.length_map, Mt_tup, Mt_agg, Mt_fn, forall_eq, forall_eq_or_imp, ne_eq, List.all_cons, List.all_nil, pr, Nat.reduceLeDiff, slR_nil, slR_cons, hpR_nil, hpR_cells, hpR_row, idsR_nil, idsR_cons, mtE_v, mtE_sl, mtE_nil, mtE_refl, mtE_row, mtE_born, mtE_ptr, mtE_rp, mtE_agg, mtE_tup, mtE_fn, mtE_ep, MtL_nil, MtL_cons, Mt_v, Mt_sl, Mt_nil, Mt_refl, Mt_row, Mt_born, Mt_ptr, MtO_cells, MtO_row, liveIds, distinct, Dat.v.injEq, Dat.sl.injEq, Value.int.injEq, Value.bool.injEq, Value.string.injEq, lk_cons, lk_nil, subL_nil, subL_cons, upIds, AV.ids, AV.ids.idsL, AObj.ids, Hp.get_cons, get_nil, allCell, AV.cell, vInt, vBool, vStr, id, true_and, and_true, and_self, List.append_nil, List.nil_append, List.not_mem_nil, List.mem_cons, or_false, false_or, or_self, not_true_eq_false, not_false_eq_true, false_imp_iff, false_implies, List.map_nil, not_false_eq_true, List.contains_cons, List.contains_nil, Bool.or_false, Bool.false_or, Bool.true_or, Bool.or_true, Bool.and_true, Bool.true_and, implies_true, if_true, if_false, reduceCtorEq, Nat.reduceEqDiff, Nat.reduceBEq, Nat.reduceAdd, reduceIte, ↓reduceIte]
    rfl
  · rintro j ⟨hj, hk⟩
    by_cases hj2 : (j : Int) < l.length
    · obtain ⟨d, hd⟩ : ∃ d, l[j]? = some d := ⟨_, List.getElem?_eq_getElem (by omega)⟩
      have hg := getD_doc hd
      simp only [hg, docD_eq, G_r1_at, F_r1, docsOf_map, Doc.eta, List.length_map, goTG_val, goTG_new, goTG_up, goTG_none, goG_none, goG_new, goG_up, ne_eq, evK, evH, retHF, DRun_mk, runT_nil, runT_none, runT_guard, goT_val, goT_new, goT_store, goTH_true, goTH_false, evO, keys, Option.toList_some, Option.toList_none, nzL_nil, nzL_cons, nz_k, nz_sl, nz_nil, nz_agg, startL, evC, evV, goE_val, goE_new, goE_store, goH_true, goH_false, goG_val, lk_cons, lk_nil, lk_func, lk_int, lk_bool, lk_string, lk_slice, lk_agg, look_mk, St.effOf, eff, effCall, effBin, effUn, effConv, effPick, effNil, effFold, fold1, effLoad, effStore, effFieldAddr, effField, fieldOf, sliceOf, effIndexAddr, effIndex, effLen, effExtract, effSlice, bnd, effBuild, placesOf, effBuildSlice, effMakeSlice, effAppend, srcOf, fillA, chunk, seg, toD, toDs, put, eqAV, fieldsEq, leafEq, strip, unw, allB, selP_or, selP_and, tis, TyD.agg, AV.cells, AV.cell, allCell, vInt, vBool, vStr, subL_nil, subL_cons, upIds, AV.ids, AV.ids.idsL, AObj.ids, drops, Hp.get_cons, get_nil, retF, resL, one, fz, fz.fzL, List.map_cons, List.map_nil, List.nil_append, List.append_nil, List.cons_append, List.all_cons, List.all_nil, List.length_cons, List.length_nil, List.getElem?_cons_zero, List.getElem?_cons_succ, List.getD_cons_zero, List.getD_cons_succ, List.take_succ_cons, List.take_zero, List.drop_succ_cons, List.drop_zero, List.take_nil, List.drop_nil, List.contains_cons, List.contains_nil, Option.getD_some, Option.getD_none, Option.map_some, Option.map_none, if_true, if_false, true_and, and_true, and_self, or_self, or_false, false_or, false_and, and_false, reduceCtorEq, sel_and, sel_or, decide_eq_true_eq, Bool.and_eq_true, Bool.or_eq_true, Bool.and_true, Bool.true_and, Bool.or_false, Bool.false_or, Bool.true_or, Bool.or_true, Bool.not_true, Bool.not_false, Bool.false_eq_true, implies_true, not_false_eq_true, Nat.reduceLT, Nat.reduceEqDiff, Nat.reduceAdd, Nat.reduceMul, Nat.reduceMod, Nat.reduceLeDiff, Nat.reduceBEq, Nat.zero_add, Nat.add_zero, reduceIte, ↓reduceIte, List.not_mem_nil]
      rw [if_pos hj2]
      refine ⟨by omega, ⟨okDs_get h4 hd, h0, h1, h2⟩, ?_⟩
      cases hr : right (left - 1) d with
      | false =>
        rw [if_pos (by decide), firstW_at hd hk hr]
        refine ⟨id, ?_⟩
        simp only [Mt_tup, Mt_agg, Mt_fn, forall_eq, forall_eq_or_imp, ne_eq, List.all_cons, List.all_nil, pr, Nat.reduceLeDiff, slR_nil, slR_cons, hpR_nil, hpR_cells, hpR_row, idsR_nil, idsR_cons, mtE_v, mtE_sl, mtE_nil, mtE_refl, mtE_row, mtE_born, mtE_ptr, mtE_rp, mtE_agg, mtE_tup, mtE_fn, mtE_ep, MtL_nil, MtL_cons, Mt_v, Mt_sl, Mt_nil, Mt_refl, Mt_row, Mt_born, Mt_ptr, MtO_cells, MtO_row, liveIds, distinct, Dat.v.injEq, Dat.sl.injEq, Value.int.injEq, Value.bool.injEq, Value.string.injEq, lk_cons, lk_nil, subL_nil, subL_cons, upIds, AV.ids, AV.ids.idsL, AObj.ids, Hp.get_cons, get_nil, allCell, AV.cell, vInt, vBool, vStr, id, true_and, and_true, and_self, List.append_nil, List.nil_append, List.not_mem_nil, List.mem_cons, or_false, false_or, or_self, not_true_eq_false, not_false_eq_true, false_imp_iff, false_implies, List.map_nil, not_false_eq_true, List.contains_cons, List.contains_nil, Bool.or_false, Bool.false_or, Bool.true_or, Bool.or_true, Bool.and_true, Bool.true_and, implies_true, if_true, if_false, reduceCtorEq, Nat.reduceEqDiff, Nat.reduceBEq, Nat.reduceAdd, reduceIte, ↓reduceIte]
      | true =>
        rw [if_neg (by decide)]
        refine ⟨j + 1, by omega, ⟨by omega, fun k hk2 d' hd' => ?_⟩, Le.of id [] ?_⟩
        · rcases Nat.lt_succ_iff_lt_or_eq.mp hk2 with h | rfl
          · exact hk k h d' hd'
          · rw [hd] at hd'; cases hd'; exact hr
        · simp only [Mt_tup, Mt_agg, Mt_fn, forall_eq, forall_eq_or_imp, ne_eq, List.all_cons, List.all_nil, pr, Nat.reduceLeDiff, slR_nil, slR_cons, hpR_nil, hpR_cells, hpR_row, idsR_nil, idsR_cons, mtE_v, mtE_sl, mtE_nil, mtE_refl, mtE_row, mtE_born, mtE_ptr, mtE_rp, mtE_agg, mtE_tup, mtE_fn, mtE_ep, MtL_nil, MtL_cons, Mt_v, Mt_sl, Mt_nil, Mt_refl, Mt_row, Mt_born, Mt_ptr, MtO_cells, MtO_row, liveIds, distinct, Dat.v.injEq, Dat.sl.injEq, Value.int.injEq, Value.bool.injEq, Value.string.injEq, lk_cons, lk_nil, subL_nil, subL_cons, upIds, AV.ids, AV.ids.idsL, AObj.ids, Hp.get_cons, get_nil, allCell, AV.cell, vInt, vBool, vStr, id, true_and, and_true, and_self, List.append_nil, List.nil_append, List.not_mem_nil, List.mem_cons, or_false, false_or, or_self, not_true_eq_false, not_false_eq_true, false_imp_iff, false_implies, List.map_nil, not_false_eq_true, List.contains_cons, List.contains_nil, Bool.or_false, Bool.false_or, Bool.true_or, Bool.or_true, Bool.and_true, Bool.true_and, implies_true, if_true, if_false, reduceCtorEq, Nat.reduceEqDiff, Nat.reduceBEq, Nat.reduceAdd, reduceIte, ↓reduceIte]
          exact w64 (by omega) (by omega)
    · simp only [docD_eq, G_r1_at, F_r1, docsOf_map, Doc.eta, List.length_map, goTG_val, goTG_new, goTG_up, goTG_none, goG_none, goG_new, goG_up, ne_eq, evK, evH, retHF, DRun_mk, runT_nil, runT_none, runT_guard, goT_val, goT_new, goT_store, goTH_true, goTH_false, evO, keys, Option.toList_some, Option.toList_none, nzL_nil, nzL_cons, nz_k, nz_sl, nz_nil, nz_agg, startL, evC, evV, goE_val, goE_new, goE_store, goH_true, goH_false, goG_val, lk_cons, lk_nil, lk_func, lk_int, lk_bool, lk_string, lk_slice, lk_agg, look_mk, St.effOf, eff, effCall, effBin, effUn, effConv, effPick, effNil, effFold, fold1, effLoad, effStore, effFieldAddr, effField, fieldOf, sliceOf, effIndexAddr, effIndex, effLen, effExtract, effSlice, bnd, effBuild, placesOf, effBuildSlice, effMakeSlice, effAppend, srcOf, fillA, chunk, seg, toD, toDs, put, eqAV, fieldsEq, leafEq, strip, unw, allB, selP_or, selP_and, tis, TyD.agg, AV.cells, AV.cell, allCell, vInt, vBool, vStr, subL_nil, subL_cons, upIds, AV.ids, AV.ids.idsL, AObj.ids, drops, Hp.get_cons, get_nil, retF, resL, one, fz, fz.fzL, List.map_cons, List.map_nil, List.nil_append, List.append_nil, List.cons_append, List.all_cons, List.all_nil, List.length_cons, List.length_nil, List.getElem?_cons_zero, List.getElem?_cons_succ, List.getD_cons_zero, List.getD_cons_succ, List.take_succ_cons, List.take_zero, List.drop_succ_cons, List.drop_zero, List.take_nil, List.drop_nil, List.contains_cons, List.contains_nil, Option.getD_some, Option.getD_none, Option.map_some, Option.map_none, if_true, if_false, true_and, and_true, and_self, or_self, or_false, false_or, false_and, and_false, reduceCtorEq, sel_and, sel_or, decide_eq_true_eq, Bool.and_eq_true, Bool.or_eq_true, Bool.and_true, Bool.true_and, Bool.or_false, Bool.false_or, Bool.true_or, Bool.or_true, Bool.not_true, Bool.not_false, Bool.false_eq_true, implies_true, not_false_eq_true, Nat.reduceLT, Nat.reduceEqDiff, Nat.reduceAdd, Nat.reduceMul, Nat.reduceMod, Nat.reduceLeDiff, Nat.reduceBEq, Nat.zero_add, Nat.add_zero, reduceIte, ↓reduceIte, List.not_mem_nil]
      rw [if_neg hj2, firstW_none fun k d hd => hk k (by have := (List.getElem?_eq_some_iff.mp hd).1; omega) d hd]
      refine ⟨id, ?_⟩
      simp only [Mt_tup, Mt_agg, Mt_fn, forall_eq, forall_eq_or_imp, ne_eq, List.all_cons, List.all_nil, pr, Nat.reduceLeDiff, slR_nil, slR_cons, hpR_nil, hpR_cells, hpR_row, idsR_nil, idsR_cons, mtE_v, mtE_sl, mtE_nil, mtE_refl, mtE_row, mtE_born, mtE_ptr, mtE_rp, mtE_agg, mtE_tup, mtE_fn, mtE_ep, MtL_nil, MtL_cons, Mt_v, Mt_sl, Mt_nil, Mt_refl, Mt_row, Mt_born, Mt_ptr, MtO_cells, MtO_row, liveIds, distinct, Dat.v.injEq, Dat.sl.injEq, Value.int.injEq, Value.bool.injEq, Value.string.injEq, lk_cons, lk_nil, subL_nil, subL_cons, upIds, AV.ids, AV.ids.idsL, AObj.ids, Hp.get_cons, get_nil, allCell, AV.cell, vInt, vBool, vStr, id, true_and, and_true, and_self, List.append_nil, List.nil_append, List.not_mem_nil, List.mem_cons, or_false, false_or, or_self, not_true_eq_false, not_false_eq_true, false_imp_iff, false_implies, List.map_nil, not_false_eq_true, List.contains_cons, List.contains_nil, Bool.or_false, Bool.false_or, Bool.true_or, Bool.or_true, Bool.and_true, Bool.true_and, implies_true, if_true, if_false, reduceCtorEq, Nat.reduceEqDiff, Nat.reduceBEq, Nat.reduceAdd, reduceIte, ↓reduceIte]
theorem cf_body (n : Nat) (left : Int) (l : List Doc) (h0 : 0 < left) (h1 : left ≤ 1000000000) (h2 : (left - 1).toNat < n) (h3 : l.length ≤ maxLen) (h4 : okDs l) :
    HBody Try.prog (G_ix n) (DRun Try.prog (G_ix n)) 43 [.d (.sl 4 (l.map docD)), .fn 44 [.ptr 10000 0]] [(10000, some (.cells 3 [vInt .i64 left]))] (vBool (!l.all (right (left - 1)))) [(10000, some (.cells 3 [vInt .i64 left]))] := by
  refine HBody.of Try.func43 Try.ntmps43 (by kernel_rfl) rfl rfl rfl (u := [10000]) rfl ?_
  simp only [docD_eq, G_ix_at, F_ix, docsOf_map, List.length_map, goTG_val, goTG_new, goTG_up, goTG_none, goG_none, goG_new, goG_up, ne_eq, evK, evH, retHF, DRun_mk, runT_nil, runT_none, runT_guard, goT_val, goT_new, goT_store, goTH_true, goTH_false, evO, keys, Option.toList_some, Option.toList_none, nzL_nil, nzL_cons, nz_k, nz_sl, nz_nil, nz_agg, startL, evC, evV, goE_val, goE_new, goE_store, goH_true, goH_false, goG_val, lk_cons, lk_nil, lk_func, lk_int, lk_bool, lk_string, lk_slice, lk_agg, look_mk, St.effOf, eff, effCall, effBin, effUn, effConv, effPick, effNil, effFold, fold1, effLoad, effStore, effFieldAddr, effField, fieldOf, sliceOf, effIndexAddr, effIndex, effLen, effExtract, effSlice, bnd, effBuild, placesOf, effBuildSlice, effMakeSlice, effAppend, srcOf, fillA, chunk, seg, toD, toDs, put, eqAV, fieldsEq, leafEq, strip, unw, allB, selP_or, selP_and, tis, TyD.agg, AV.cells, AV.cell, allCell, vInt, vBool, vStr, subL_nil, subL_cons, upIds, AV.ids, AV.ids.idsL, AObj.ids, drops, Hp.get_cons, get_nil, retF, resL, one, fz, fz.fzL, List.map_cons, List.map_nil, List.nil_append, List.append_nil, List.cons_append, List.all_cons, List.all_nil, List.length_cons, List.length_nil, List.getElem?_cons_zero, List.getElem?_cons_succ, List.getD_cons_zero, List.getD_cons_succ, List.take_succ_cons, List.take_zero, List.drop_succ_cons, List.drop_zero, List.take_nil, List.drop_nil, List.contains_cons, List.contains_nil, Option.getD_some, Option.getD_none, Option.map_some, Option.map_none, if_true, if_false, true_and, and_true, and_self, or_self, or_false, false_or, false_and, and_false, reduceCtorEq, sel_and, sel_or, decide_eq_true_eq, Bool.and_eq_true, Bool.or_eq_true, Bool.and_true, Bool.true_and, Bool.or_false, Bool.false_or, Bool.true_or, Bool.or_true, Bool.not_true, Bool.not_false, Bool.false_eq_true, implies_true, not_false_eq_true, Nat.reduceLT, Nat.reduceEqDiff, Nat.reduceAdd, Nat.reduceMul, Nat.reduceMod, Nat.reduceLeDiff, Nat.reduceBEq, Nat.zero_add, Nat.add_zero, reduceIte, ↓reduceIte, List.not_mem_nil]
  refine ⟨⟨h3, h4, h0, h1, h2⟩, id, ?_⟩
  rw [firstW_all]
  simp only [Mt_tup, Mt_agg, Mt_fn, forall_eq, forall_eq_or_imp, ne_eq, List.all_cons, List.all_nil, pr, Nat.reduceLeDiff, slR_nil, slR_cons, hpR_nil, hpR_cells, hpR_row, idsR_nil, idsR_cons, mtE_v, mtE_sl, mtE_nil, mtE_refl, mtE_row, mtE_born, mtE_ptr, mtE_rp, mtE_agg, mtE_tup, mtE_fn, mtE_ep, MtL_nil, MtL_cons, Mt_v, Mt_sl, Mt_nil, Mt_refl, Mt_row, Mt_born, Mt_ptr, MtO_cells, MtO_row, liveIds, distinct, Dat.v.injEq, Dat.sl.injEq, Value.int.injEq, Value.bool.injEq, Value.string.injEq, lk_cons, lk_nil, subL_nil, subL_cons, upIds, AV.ids, AV.ids.idsL, AObj.ids, Hp.get_cons, get_nil, allCell, AV.cell, vInt, vBool, vStr, id, true_and, and_true, and_self, List.append_nil, List.nil_append, List.not_mem_nil, List.mem_cons, or_false, false_or, or_self, not_true_eq_false, not_false_eq_true, false_imp_iff, false_implies, List.map_nil, not_false_eq_true, List.contains_cons, List.contains_nil, Bool.or_false, Bool.false_or, Bool.true_or, Bool.or_true, Bool.and_true, Bool.true_and, implies_true, if_true, if_false, reduceCtorEq, Nat.reduceEqDiff, Nat.reduceBEq, Nat.reduceAdd, reduceIte, ↓reduceIte]
theorem dright_body (n : Nat) (left : Int) (D : Doc) (h1 : left ≤ 1000000000) (h2 : left.toNat ≤ n) (h3 : okD D) : Body Try.prog (G_cf n) (DRun Try.prog (G_cf n)) 35 [.agg ((docD D).map .d), vInt .i64 left] (vBool (right left D)) := by
  refine Body.of Try.func35 Try.ntmps35 (by kernel_rfl) rfl rfl rfl ?_
  simp only [docD_eq, G_cf_at, F_cf, docsOf_map, Doc.eta, List.length_map, goTG_val, goTG_new, goTG_up, goTG_none, goG_none, goG_new, goG_up, ne_eq, evK, evH, retHF, DRun_mk, runT_nil, runT_none, runT_guard, goT_val, goT_new, goT_store, goTH_true, goTH_false, evO, keys, Option.toList_some, Option.toList_none, nzL_nil, nzL_cons, nz_k, nz_sl, nz_nil, nz_agg, startL, evC, evV, goE_val, goE_new, goE_store, goH_true, goH_false, goG_val, lk_cons, lk_nil, lk_func, lk_int, lk_bool, lk_string, lk_slice, lk_agg, look_mk, St.effOf, eff, effCall, effBin, effUn, effConv, effPick, effNil, effFold, fold1, effLoad, effStore, effFieldAddr, effField, fieldOf, sliceOf, effIndexAddr, effIndex, effLen, effExtract, effSlice, bnd, effBuild, placesOf, effBuildSlice, effMakeSlice, effAppend, srcOf, fillA, chunk, seg, toD, toDs, put, eqAV, fieldsEq, leafEq, strip, unw, allB, selP_or, selP_and, tis, TyD.agg, AV.cells, AV.cell, allCell, vInt, vBool, vStr, subL_nil, subL_cons, upIds, AV.ids, AV.ids.idsL, AObj.ids, drops, Hp.get_cons, get_nil, retF, resL, one, fz, fz.fzL, List.map_cons, List.map_nil, List.nil_append, List.append_nil, List.cons_append, List.all_cons, List.all_nil, List.length_cons, List.length_nil, List.getElem?_cons_zero, List.getElem?_cons_succ, List.getD_cons_zero, List.getD_cons_succ, List.take_succ_cons, List.take_zero, List.drop_succ_cons, List.drop_zero, List.take_nil, List.drop_nil, List.contains_cons, List.contains_nil, Option.getD_some, Option.getD_none, Option.map_some, Option.map_none, if_true, if_false, true_and, and_true, and_self, or_self, or_false, false_or, false_and, and_false, reduceCtorEq, sel_and, sel_or, decide_eq_true_eq, Bool.and_eq_true, Bool.or_eq_true, Bool.and_true, Bool.true_and, Bool.or_false, Bool.false_or, Bool.true_or, Bool.or_true, Bool.not_true, Bool.not_false, Bool.false_eq_true, implies_true, not_false_eq_true, Nat.reduceLT, Nat.reduceEqDiff, Nat.reduceAdd, Nat.reduceMul, Nat.reduceMod, Nat.reduceLeDiff, Nat.reduceBEq, Nat.zero_add, Nat.add_zero, reduceIte, ↓reduceIte, List.not_mem_nil]
  have e : ∀ n : Int, ((D.k == n) = true) = (D.k = n) := fun n => by simp
  have hin : (left > 0 ∧ (D.t.toList == (⟨#[]⟩ : ByteArray).toList) = true) ∧ (D.f == 0) = true → D.kids.length ≤ maxLen ∧ okDs D.kids ∧ 0 < left ∧ left ≤ 1000000000 ∧ (left - 1).toNat < n := fun h => by
    rw [okD_eq] at h3
    exact ⟨h3.2.1, h3.2.2, h.1.1, h1, by omega⟩
  rw [right_eq, rightC]
  simp only [e, Bool.not_not]
  by_cases c1 : D.k = 1
  · rw [if_pos c1, if_pos c1]
  by_cases c2 : D.k = 2 ∨ D.k = 3 ∨ D.k = 4
  · rw [if_neg c1, if_neg c1, if_pos c2]
    rcases c2 with c | c | c <;> simp only [c, Int.reduceEq, if_true, if_false, reduceIte] <;> exact Sub.refl _
  by_cases c3 : D.k = 5 ∨ D.k = 6 ∨ D.k = 7
  · rw [if_neg c1, if_neg c1, if_neg c2, if_pos c3]
    rcases c3 with c | c | c <;> simp only [c, Int.reduceEq, if_true, if_false, reduceIte] <;> exact ⟨hin, Sub.refl _⟩
  · rw [if_neg c1, if_neg c1, if_neg c2, if_neg c3]
    rw [if_neg (by omega), if_neg (by omega), if_neg (by omega), if_neg (by omega), if_neg (by omega), if_neg (by omega)]
/-- One object is handed in, a number, and stands as it did. -/
def one1 (o : Nat) (left : Int) (args : List AV) (res : AV) : HCall := ⟨fun _ => o, [], args, [(10000, some (.cells 3 [vInt .i64 left]))], res, [(10000, .cells 3 [vInt .i64 left])], false⟩
theorem one1_same {o : Nat} {left : Int} {args : List AV} {res : AV} {hp : Hp} {d : Nat} (ho : hp.get o = some (.cells 3 [.d (.v (.int .i64 left))])) (o' : Nat) : Hp.get ([] ++ hp) o' = Hp.get ((one1 o left args res).up d ++ hp) o' :=
  up_same rfl (fun p hp => by rcases List.mem_singleton.mp hp with rfl; exact ho) o'
theorem one1_match {o : Nat} {left : Int} {args cargs : List AV} {res : AV} {hp : Hp} (ho : hp.get o = some (.cells 3 [.d (.v (.int .i64 left))])) (hm : Mt.MtL (fun _ => o) [] args cargs) : HMatch hp args (one1 o left cargs res) := by
  refine ⟨hm, ?_, ⟨(fun _ b hb => nomatch (show b ∈ ([] : List Nat) from hb)), trivial⟩⟩
  show (if 10000 ∈ ([] : List Nat) then False else (match hp.get o with | some obj' => MtO (fun _ => o) [] obj' (.cells 3 [vInt .i64 left]) | none => False)) ∧ True
  rw [if_neg (by simp), ho]
  exact ⟨⟨rfl, ⟨.inl rfl, trivial⟩, rfl⟩, trivial⟩
theorem known_r1 (n : Nat) (K : Known Try.prog (G_r n)) : Known Try.prog (G_r1 n) := by
  refine K.addH (fun hp d args e h hs => ?_) (fun d args h h' ha => ?_)
  · unfold F_r1 at h
    split at h
    · split at h
      · rename_i k f t ks o _ left ho
        cases h
        obtain ⟨q1, q2, q3, q4, q5⟩ := hs
        have hD : [AV.d (.v (.int .i64 k)), .d (.v (.int .i64 f)), .d (.v (.string t)), .d (.sl 4 ks)] = (docD (.mk k f t (docsOf ks))).map .d := by
          rw [docD_eq]; simp only [List.map_cons, List.map_nil, Doc.k, Doc.f, Doc.t, Doc.kids, ← q1]
        refine ⟨one1 o left [.agg ((docD (.mk k f t (docsOf ks))).map .d), .ptr 10000 0] (vBool (!right (left - 1) (.mk k f t (docsOf ks)))), rfl, one1_match ho ⟨?_, ⟨by simp, rfl, rfl⟩, trivial⟩, K.hcalm mixed rfl (r1_body n left _ q3 q4 q5 q2), rfl, one1_same ho, rfl⟩
        rw [hD]; exact MtL_ds _ _ _
      · cases h
    · cases h
  · unfold F_r1
    split
    · rw [ha _ (by simp [AV.ids.idsL, AV.ids])]
    · rfl
theorem known_ix (n : Nat) (K : Known Try.prog (G_r1 n)) : Known Try.prog (G_ix n) := by
  refine K.addH (fun hp d args e h hs => ?_) (fun d args h h' ha => ?_)
  · unfold F_ix at h
    split at h
    · split at h
      · rename_i ks o _ left ho
        cases h
        obtain ⟨q1, q2, q3, q4, q5, q6⟩ := hs
        refine ⟨one1 o left [.d (.sl 4 ((docsOf ks).map docD)), .fn 44 [.ptr 10000 0]] (vInt .i64 (firstW (left - 1) (docsOf ks))), rfl, one1_match ho ⟨?_, ⟨rfl, ⟨by simp, rfl, rfl⟩, trivial⟩, trivial⟩, K.hcalm mixed rfl (ix_body n left _ q4 q5 q6 q2 q3), rfl, one1_same ho, rfl⟩
        rw [← q1]; exact .inl rfl
      · cases h
    · cases h
  · unfold F_ix
    split
    · rw [ha _ (by simp [AV.ids.idsL, AV.ids])]
    · rfl
theorem known_cf (n : Nat) (K : Known Try.prog (G_ix n)) : Known Try.prog (G_cf n) := by
  refine K.addH (fun hp d args e h hs => ?_) (fun d args h h' ha => ?_)
  · unfold F_cf at h
    split at h
    · split at h
      · rename_i ks o _ left ho
        cases h
        obtain ⟨q1, q2, q3, q4, q5, q6⟩ := hs
        refine ⟨one1 o left [.d (.sl 4 ((docsOf ks).map docD)), .fn 44 [.ptr 10000 0]] (vBool (!(docsOf ks).all (right (left - 1)))), rfl, one1_match ho ⟨?_, ⟨rfl, ⟨by simp, rfl, rfl⟩, trivial⟩, trivial⟩, K.hcalm mixed rfl (cf_body n left _ q4 q5 q6 q2 q3), rfl, one1_same ho, rfl⟩
        rw [← q1]; exact .inl rfl
      · cases h
    · cases h
  · unfold F_cf
    split
    · rw [ha _ (by simp [AV.ids.idsL, AV.ids])]
    · rfl
theorem dright_calm : ∀ args sc res, F_dright args = some (sc, res) → sc → Calm Try.prog 35 args res := by
  refine (Known.none Try.prog).recur left_of fun n K args sc res h hs hn => ?_
  have K4 := known_cf n (known_ix n (known_r1 n K))
  unfold F_dright at h
  split at h <;> cases h
  rename_i k f t ks left
  obtain ⟨q1, q2, q3, q4⟩ := hs
  have hD : [AV.d (.v (.int .i64 k)), .d (.v (.int .i64 f)), .d (.v (.string t)), .d (.sl 4 ks)] = (docD (.mk k f t (docsOf ks))).map .d := by
    rw [docD_eq]; simp only [List.map_cons, List.map_nil, Doc.k, Doc.f, Doc.t, Doc.kids, ← q1]
  rw [hD]
  exact K4.calm mixed rfl rfl (dright_body n left _ q4 (Nat.le_of_eq hn) q2)
end Go.Proofs.Ythcgkfgkknofnaa.Eng
