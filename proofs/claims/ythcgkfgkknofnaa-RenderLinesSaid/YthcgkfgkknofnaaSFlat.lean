/- A document without new lines, on the small machine: flat writes into a builder. -/
import Derived.Test.YthcgkfgkknofnaaSDoc
import Derived.Test.YthcgkfgkknofnaaSBld
import Derived.Test.YthcgkfgkknofnaaSBy
namespace Go.Proofs.Ythcgkfgkknofnaa.Eng
open Go Go.Proofs.Ythcgkfgkknofnaa.Base
set_option maxRecDepth 100000
set_option linter.unusedSimpArgs false
/- What is written: is it without new lines, the bytes, and whether anything was written at all. -/
mutual
def flatS : Doc → Bool × List UInt8 × Bool
  | .mk k _ t l =>
    if k = 4 then (false, [], false)
    else
      let r := flatsS l
      if k = 1 then (r.1, t.data.toList ++ r.2.1, true)
      else if k = 2 then (r.1, 32 :: r.2.1, true)
      else r
def flatsS : List Doc → Bool × List UInt8 × Bool
  | [] => (true, [], false)
  | d :: l =>
    let r := flatS d
    if r.1 then
      let q := flatsS l
      (q.1, r.2.1 ++ q.2.1, r.2.2 || q.2.2)
    else r
end
mutual
def dsz : Doc → Nat
  | .mk _ _ _ l => 1 + dszs l
def dszs : List Doc → Nat
  | [] => 0
  | d :: l => dsz d + dszs l
end
theorem dszs_get : ∀ {l : List Doc} {j : Nat} {d : Doc}, l[j]? = some d → dszs d.kids < dszs l
  | [], _, _, h => by cases h
  | x :: l, 0, _, h => by cases h; cases x; simp only [Doc.kids, dszs, dsz]; omega
  | x :: l, j + 1, d, h => by
    have := dszs_get (l := l) (j := j) (d := d) (by simpa using h)
    simp only [dszs]; omega
/-- The builder at a name: used or not, its row, the bytes. -/
def bldAt (h : Nat → Option AObj) (o : Nat) : Option (Bool × Nat × List (List Dat)) :=
  match h o with
  | some (.cells t [.d (.v (.pointer none)), .row b n]) => match h b with
    | some (.row e sz xs) => if t = 64 ∧ e = 5 ∧ sz = 1 ∧ n = xs.length ∧ b ≠ o then some (false, b, xs) else none
    | _ => none
  | some (.cells t [.ptr o' 0, .row b n]) => match h b with
    | some (.row e sz xs) => if o' = o ∧ t = 64 ∧ e = 5 ∧ sz = 1 ∧ n = xs.length ∧ b ≠ o then some (true, b, xs) else none
    | _ => none
  | _ => none
def bldA (u : Bool) (o : Nat) : AV := if u then .ptr o 0 else .d (.v (.pointer none))
def byteRows (l : List UInt8) : List (List Dat) := l.map byteRow
/-- What the builder comes to. -/
def bldUp (o d b : Nat) (u : Bool) (xs : List (List Dat)) : Hp := [(o, some (.cells 64 [bldA u o, .row d xs.length])), (d, some (.row 5 1 xs)), (b, none)]
noncomputable def F_fl (h : Nat → Option AObj) (d : Nat) : List AV → Option Eff
  | [.ptr o 0, .agg [.d (.v (.int .i64 k)), .d (.v (.int .i64 f)), .d (.v (.string t)), .d (.sl 4 ks)]] => match bldAt h o with
    | some (u, b, xs) => some { sc := ks = (docsOf ks).map docD ∧ okD (.mk k f t (docsOf ks)) ∧ xs.length + (flatS (.mk k f t (docsOf ks))).2.1.length ≤ 140737488355328, val := vBool (flatS (.mk k f t (docsOf ks))).1, up := bldUp o d b (u || (flatS (.mk k f t (docsOf ks))).2.2) (xs ++ byteRows (flatS (.mk k f t (docsOf ks))).2.1), new := true }
    | none => none
  | _ => none
noncomputable def flμ : List AV → Nat
  | [_, .agg [_, _, _, .d (.sl 4 ks)]] => dszs (docsOf ks)
  | _ => 0
/-- The same, by the closure's box. -/
noncomputable def F_f1 (n : Nat) (h : Nat → Option AObj) (d : Nat) : List AV → Option Eff
  | [.agg [.d (.v (.int .i64 k)), .d (.v (.int .i64 f)), .d (.v (.string t)), .d (.sl 4 ks)], .ptr x 0] => match h x with
    | some (.cells t2 [.ptr o 0]) => match bldAt h o with
      | some (u, b, xs) => if t2 = 61 ∧ x ≠ o ∧ x ≠ b then some { sc := ks = (docsOf ks).map docD ∧ okD (.mk k f t (docsOf ks)) ∧ dszs (docsOf ks) < n ∧ xs.length + (flatS (.mk k f t (docsOf ks))).2.1.length ≤ 140737488355328, val := vBool (!(flatS (.mk k f t (docsOf ks))).1), up := (x, some (.cells t2 [.ptr o 0])) :: bldUp o d b (u || (flatS (.mk k f t (docsOf ks))).2.2) (xs ++ byteRows (flatS (.mk k f t (docsOf ks))).2.1), new := true } else none
      | none => none
    | _ => none
  | _ => none
/-- Names for the builder and the box: handed in, and behind. -/
def fH (u : Bool) (xs : List (List Dat)) : Hp := (10002, some (.cells 61 [.ptr 10000 0])) :: bldH (bldA u 10000) xs
def fO (u : Bool) (xs : List (List Dat)) : List (Nat × AObj) := [(10002, .cells 61 [.ptr 10000 0]), (10000, .cells 64 [bldA u 10000, .row 9000 xs.length]), (9000, .row 5 1 xs)]
noncomputable def G_fl (n : Nat) : Gam := (Gam.none.addH 31 F_ws).addH 64 (limH F_fl flμ n)
theorem G_fl_at : (∀ n h d a, G_fl n 31 h d a = F_ws h d a) ∧ (∀ n h d a, G_fl n 64 h d a = limH F_fl flμ n h d a) := ⟨fun _ _ _ _ => rfl, fun _ _ _ _ => rfl⟩
theorem f1_body (n : Nat) (u : Bool) (xs : List (List Dat)) (D : Doc) (h0 : dszs D.kids < n) (h1 : okD D) (h2 : xs.length + (flatS D).2.1.length ≤ 140737488355328) :
    HBody Try.prog (G_fl n) (DRun Try.prog Gam.none) 66 [.agg ((docD D).map .d), .ptr 10002 0] (fH u xs) (vBool (!(flatS D).1)) ((fO (u || (flatS D).2.2) (xs ++ byteRows (flatS D).2.1)).map fun p => (p.1, some p.2)) := by
  cases u <;> cases hw : (flatS D).2.2
  all_goals
    refine HBody.of Try.func66 Try.ntmps66 (by kernel_rfl) rfl rfl rfl rfl ?_
    simp only [fH, fO, bldH, bldA, docD_eq, G_fl_at, limH, F_fl, flμ, bldAt, bldUp, docsOf_map, Doc.eta, hw, List.length_map, goTG_val, goTG_new, goTG_up, goTG_none, goG_none, goG_new, goG_up, ne_eq, evK, evH, retHF, DRun_mk, runT_nil, runT_none, runT_guard, goT_val, goT_new, goT_store, goTH_true, goTH_false, evO, keys, Option.toList_some, Option.toList_none, nzL_nil, nzL_cons, nz_k, nz_sl, nz_nil, nz_agg, startL, evC, evV, goE_val, goE_new, goE_store, goH_true, goH_false, goG_val, lk_cons, lk_nil, lk_func, lk_int, lk_bool, lk_string, lk_slice, lk_agg, look_mk, St.effOf, eff, effCall, effBin, effUn, effConv, effPick, effNil, effFold, fold1, effLoad, effStore, effFieldAddr, effField, fieldOf, sliceOf, effIndexAddr, effIndex, effLen, effExtract, effSlice, bnd, effBuild, placesOf, effBuildSlice, effMakeSlice, effAppend, srcOf, fillA, chunk, seg, toD, toDs, put, eqAV, fieldsEq, leafEq, strip, unw, allB, selP_or, selP_and, tis, TyD.agg, AV.cells, AV.cell, allCell, vInt, vBool, vStr, subL_nil, subL_cons, upIds, AV.ids, AV.ids.idsL, AObj.ids, drops, Hp.get_cons, get_nil, retF, resL, one, fz, fz.fzL, List.map_cons, List.map_nil, List.nil_append, List.append_nil, List.cons_append, List.all_cons, List.all_nil, List.length_cons, List.length_nil, List.getElem?_cons_zero, List.getElem?_cons_succ, List.getD_cons_zero, List.getD_cons_succ, List.take_succ_cons, List.take_zero, List.drop_succ_cons, List.drop_zero, List.take_nil, List.drop_nil, List.contains_cons, List.contains_nil, Option.getD_some, Option.getD_none, Option.map_some, Option.map_none, if_true, if_false, true_and, and_true, and_self, or_self, or_false, false_or, false_and, and_false, reduceCtorEq, sel_and, sel_or, decide_eq_true_eq, Bool.and_eq_true, Bool.or_eq_true, Bool.and_true, Bool.true_and, Bool.or_false, Bool.false_or, Bool.true_or, Bool.or_true, Bool.not_true, Bool.not_false, Bool.false_eq_true, implies_true, not_false_eq_true, Nat.reduceLT, Nat.reduceEqDiff, Nat.reduceAdd, Nat.reduceMul, Nat.reduceMod, Nat.reduceLeDiff, Nat.reduceBEq, Nat.zero_add, Nat.add_zero, reduceIte, ↓reduceIte, List.not_mem_nil]
    refine ⟨⟨⟨h1, h2⟩, h0⟩, fun o => if o = 9000 then 6 else o, ?_⟩
    simp only [Mt_tup, Mt_agg, Mt_fn, forall_eq, forall_eq_or_imp, ne_eq, List.all_cons, List.all_nil, pr, Nat.reduceLeDiff, slR_nil, slR_cons, hpR_nil, hpR_cells, hpR_row, idsR_nil, idsR_cons, mtE_v, mtE_sl, mtE_nil, mtE_refl, mtE_row, mtE_born, mtE_ptr, mtE_rp, mtE_agg, mtE_tup, mtE_fn, mtE_ep, MtL_nil, MtL_cons, Mt_v, Mt_sl, Mt_nil, Mt_refl, Mt_row, Mt_born, Mt_ptr, MtO_cells, MtO_row, liveIds, distinct, Dat.v.injEq, Dat.sl.injEq, Value.int.injEq, Value.bool.injEq, Value.string.injEq, lk_cons, lk_nil, subL_nil, subL_cons, upIds, AV.ids, AV.ids.idsL, AObj.ids, Hp.get_cons, get_nil, allCell, AV.cell, vInt, vBool, vStr, id, true_and, and_true, and_self, List.append_nil, List.nil_append, List.not_mem_nil, List.mem_cons, or_false, false_or, or_self, not_true_eq_false, not_false_eq_true, false_imp_iff, false_implies, List.map_nil, not_false_eq_true, List.contains_cons, List.contains_nil, Bool.or_false, Bool.false_or, Bool.true_or, Bool.or_true, Bool.and_true, Bool.true_and, implies_true, if_true, if_false, reduceCtorEq, Nat.reduceEqDiff, Nat.reduceBEq, Nat.reduceAdd, reduceIte, ↓reduceIte]
/-- The first one, of those that are not flat (all before it are written). -/
def firstF (l : List Doc) : Int := match l.findIdx? (fun d => !(flatS d).1) with | some i => i | none => -1
noncomputable def F_fix (n : Nat) (h : Nat → Option AObj) (d : Nat) : List AV → Option Eff
  | [.d (.sl 4 ks), .fn 66 [.ptr x 0]] => match h x with
    | some (.cells t2 [.ptr o 0]) => match bldAt h o with
      | some (u, b, xs) => if t2 = 61 ∧ x ≠ o ∧ x ≠ b then some { sc := ks = (docsOf ks).map docD ∧ (docsOf ks).length ≤ maxLen ∧ okDs (docsOf ks) ∧ dszs (docsOf ks) ≤ n ∧ xs.length + (flatsS (docsOf ks)).2.1.length ≤ 140737488355328, val := vInt .i64 (firstF (docsOf ks)), up := (x, some (.cells t2 [.ptr o 0])) :: bldUp o d b (u || (flatsS (docsOf ks)).2.2) (xs ++ byteRows (flatsS (docsOf ks)).2.1), new := true } else none
      | none => none
    | _ => none
  | _ => none
noncomputable def G_f1 (n : Nat) : Gam := (G_fl n).addH 66 (F_f1 n)
theorem G_f1_at : ∀ n h d a, G_f1 n 66 h d a = F_f1 n h d a := fun _ _ _ _ => rfl
/-- So much of the kids is written. -/
theorem flatsS_take {l : List Doc} {j : Nat} {d : Doc} (hd : l[j]? = some d) (hk : (flatsS (l.take j)).1 = true) : flatsS (l.take (j + 1)) = ((flatS d).1, (flatsS (l.take j)).2.1 ++ (flatS d).2.1, (flatsS (l.take j)).2.2 || (flatS d).2.2) := by
  induction l generalizing j with
  | nil => simp at hd
  | cons x l ih =>
    cases j with
    | zero =>
      simp only [List.getElem?_cons_zero, Option.some.injEq] at hd
      subst hd
      simp only [List.take_succ_cons, List.take_zero, flatsS, List.nil_append, Bool.false_or]
      rcases hf : flatS x with ⟨a, b, c⟩
      cases a <;> simp
    | succ j =>
      simp only [List.getElem?_cons_succ] at hd
      simp only [List.take_succ_cons, flatsS] at hk ⊢
      split at hk
      · rename_i h1
        rw [if_pos h1, if_pos h1, ih hd hk]
        simp [Bool.or_assoc]
      · rename_i h1; exact absurd hk h1
theorem flatsS_len {l : List Doc} (j : Nat) (hk : (flatsS (l.take j)).1 = true) : (flatsS (l.take j)).2.1.length ≤ (flatsS l).2.1.length := by
  induction l generalizing j with
  | nil => simp
  | cons x l ih =>
    cases j with
    | zero => simp [flatsS]
    | succ j =>
      simp only [List.take_succ_cons, flatsS] at hk ⊢
      split at hk
      · rename_i h1
        rw [if_pos h1, if_pos h1]
        simp only [List.length_append]
        have := ih j hk
        omega
      · rename_i h1; exact absurd hk h1
theorem flatsS_stop {l : List Doc} {j : Nat} {d : Doc} (hd : l[j]? = some d) (hk : (flatsS (l.take j)).1 = true) (hf : (flatS d).1 = false) : flatsS l = flatsS (l.take (j + 1)) := by
  induction l generalizing j with
  | nil => simp at hd
  | cons x l ih =>
    cases j with
    | zero =>
      simp only [List.getElem?_cons_zero, Option.some.injEq] at hd
      subst hd
      simp only [List.take_succ_cons, List.take_zero, flatsS, hf, Bool.false_eq_true, if_false]
    | succ j =>
      simp only [List.getElem?_cons_succ] at hd
      simp only [List.take_succ_cons, flatsS] at hk ⊢
      split at hk
      · rename_i h1
        rw [if_pos h1, if_pos h1, ih hd hk]
      · rename_i h1; exact absurd hk h1
theorem byteRows_append (a b : List UInt8) : byteRows (a ++ b) = byteRows a ++ byteRows b := List.map_append
theorem fix_body (n : Nat) (u : Bool) (xs : List (List Dat)) (l : List Doc) (h0 : dszs l ≤ n) (h1 : okDs l) (h2 : xs.length + (flatsS l).2.1.length ≤ 140737488355328) (h3 : l.length ≤ maxLen) :
    HBody Try.prog (G_f1 n) (DRun Try.prog Gam.none) 50 [.d (.sl 4 (l.map docD)), .fn 66 [.ptr 10002 0]] (fH u xs) (vInt .i64 (firstF l)) ((fO (u || (flatsS l).2.2) (xs ++ byteRows (flatsS l).2.1)).map fun p => (p.1, some p.2)) := by
  have h3' : l.length ≤ 9223372036854775807 := h3
  obtain ⟨uf, huf⟩ : ∃ uf, uf = (u || (flatsS l).2.2) := ⟨_, rfl⟩
  rw [← huf]
  refine HBody.of Try.func50 Try.ntmps50 (by kernel_rfl) rfl rfl rfl rfl ?_
  simp only [fH, fO, bldH, List.length_map, goTG_val, goTG_new, goTG_up, goTG_none, goG_none, goG_new, goG_up, ne_eq, evK, evH, retHF, DRun_mk, runT_nil, runT_none, runT_guard, goT_val, goT_new, goT_store, goTH_true, goTH_false, evO, keys, Option.toList_some, Option.toList_none, nzL_nil, nzL_cons, nz_k, nz_sl, nz_nil, nz_agg, startL, evC, evV, goE_val, goE_new, goE_store, goH_true, goH_false, goG_val, lk_cons, lk_nil, lk_func, lk_int, lk_bool, lk_string, lk_slice, lk_agg, look_mk, St.effOf, eff, effCall, effBin, effUn, effConv, effPick, effNil, effFold, fold1, effLoad, effStore, effFieldAddr, effField, fieldOf, sliceOf, effIndexAddr, effIndex, effLen, effExtract, effSlice, bnd, effBuild, placesOf, effBuildSlice, effMakeSlice, effAppend, srcOf, fillA, chunk, seg, toD, toDs, put, eqAV, fieldsEq, leafEq, strip, unw, allB, selP_or, selP_and, tis, TyD.agg, AV.cells, AV.cell, allCell, vInt, vBool, vStr, subL_nil, subL_cons, upIds, AV.ids, AV.ids.idsL, AObj.ids, drops, Hp.get_cons, get_nil, retF, resL, one, fz, fz.fzL, List.map_cons, List.map_nil, List.nil_append, List.append_nil, List.cons_append, List.all_cons, List.all_nil, List.length_cons, List.length_nil, List.getElem?_cons_zero, List.getElem?_cons_succ, List.getD_cons_zero, List.getD_cons_succ, List.take_succ_cons, List.take_zero, List.drop_succ_cons, List.drop_zero, List.take_nil, List.drop_nil, List.contains_cons, List.contains_nil, Option.getD_some, Option.getD_none, Option.map_some, Option.map_none, if_true, if_false, true_and, and_true, and_self, or_self, or_false, false_or, false_and, and_false, reduceCtorEq, sel_and, sel_or, decide_eq_true_eq, Bool.and_eq_true, Bool.or_eq_true, Bool.and_true, Bool.true_and, Bool.or_false, Bool.false_or, Bool.true_or, Bool.or_true, Bool.not_true, Bool.not_false, Bool.false_eq_true, implies_true, not_false_eq_true, Nat.reduceLT, Nat.reduceEqDiff, Nat.reduceAdd, Nat.reduceMul, Nat.reduceMod, Nat.reduceLeDiff, Nat.reduceBEq, Nat.zero_add, Nat.add_zero, reduceIte, ↓reduceIte, List.not_mem_nil]
  refine wpc_loop (fun p : Nat × Bool => ⟨19, [10002, 10000, 100], [(0, .d (.sl 4 (l.map docD))), (1, .fn 66 [.ptr 10002 0]), (7, vInt .i64 l.length), (8, vInt .i64 p.1)],
    [(10002, some (.cells 61 [.ptr 10000 0])), (10000, some (.cells 64 [bldA p.2 10000, .row 100 (xs ++ byteRows (flatsS (l.take p.1)).2.1).length])), (100, some (.row 5 1 (xs ++ byteRows (flatsS (l.take p.1)).2.1)))]⟩)
    (fun p => p.1 ≤ l.length ∧ (flatsS (l.take p.1)).1 = true ∧ p.2 = (u || (flatsS (l.take p.1)).2.2) ∧ ∀ k, k < p.1 → ∀ d, l[k]? = some d → (flatS d).1 = true) (fun p => l.length - p.1) (0, u) ⟨Nat.zero_le _, rfl, by simp [flatsS], fun k hk => absurd hk (Nat.not_lt_zero k)⟩ ?_ ?_
  · refine Le.of (fun _ => 10001) [] ?_
    cases u
    all_goals
      simp only [bldA, List.take_zero, flatsS, byteRows, List.map_nil, List.append_nil, List.length_map, Mt_tup, Mt_agg, Mt_fn, forall_eq, forall_eq_or_imp, ne_eq, List.all_cons, List.all_nil, pr, Nat.reduceLeDiff, slR_nil, slR_cons, hpR_nil, hpR_cells, hpR_row, idsR_nil, idsR_cons, mtE_v, mtE_sl, mtE_nil, mtE_refl, mtE_row, mtE_born, mtE_ptr, mtE_rp, mtE_agg, mtE_tup, mtE_fn, mtE_ep, MtL_nil, MtL_cons, Mt_v, Mt_sl, Mt_nil, Mt_refl, Mt_row, Mt_born, Mt_ptr, MtO_cells, MtO_row, liveIds, distinct, Dat.v.injEq, Dat.sl.injEq, Value.int.injEq, Value.bool.injEq, Value.string.injEq, lk_cons, lk_nil, subL_nil, subL_cons, upIds, AV.ids, AV.ids.idsL, AObj.ids, Hp.get_cons, get_nil, allCell, AV.cell, vInt, vBool, vStr, id, true_and, and_true, and_self, List.append_nil, List.nil_append, List.not_mem_nil, List.mem_cons, or_false, false_or, or_self, not_true_eq_false, not_false_eq_true, false_imp_iff, false_implies, List.map_nil, not_false_eq_true, List.contains_cons, List.contains_nil, Bool.or_false, Bool.false_or, Bool.true_or, Bool.or_true, Bool.and_true, Bool.true_and, implies_true, if_true, if_false, reduceCtorEq, Nat.reduceEqDiff, Nat.reduceBEq, Nat.reduceAdd, reduceIte, ↓reduceIte]
      exact ⟨rfl, rfl⟩
  · rintro ⟨j, v⟩ ⟨hj, hk, hv, hall⟩
    simp only [] at hj hk hv hall
    by_cases hj2 : (j : Int) < l.length
    · obtain ⟨d, hd⟩ : ∃ d, l[j]? = some d := ⟨_, List.getElem?_eq_getElem (by omega)⟩
      have hg := getD_doc hd
      have htk := flatsS_take hd hk
      cases v <;> cases hw : (flatS d).2.2
      all_goals
        simp only [bldA, bldAt, bldUp, hg, hw, docD_eq, G_f1_at, F_f1, docsOf_map, Doc.eta, List.length_map, goTG_val, goTG_new, goTG_up, goTG_none, goG_none, goG_new, goG_up, ne_eq, evK, evH, retHF, DRun_mk, runT_nil, runT_none, runT_guard, goT_val, goT_new, goT_store, goTH_true, goTH_false, evO, keys, Option.toList_some, Option.toList_none, nzL_nil, nzL_cons, nz_k, nz_sl, nz_nil, nz_agg, startL, evC, evV, goE_val, goE_new, goE_store, goH_true, goH_false, goG_val, lk_cons, lk_nil, lk_func, lk_int, lk_bool, lk_string, lk_slice, lk_agg, look_mk, St.effOf, eff, effCall, effBin, effUn, effConv, effPick, effNil, effFold, fold1, effLoad, effStore, effFieldAddr, effField, fieldOf, sliceOf, effIndexAddr, effIndex, effLen, effExtract, effSlice, bnd, effBuild, placesOf, effBuildSlice, effMakeSlice, effAppend, srcOf, fillA, chunk, seg, toD, toDs, put, eqAV, fieldsEq, leafEq, strip, unw, allB, selP_or, selP_and, tis, TyD.agg, AV.cells, AV.cell, allCell, vInt, vBool, vStr, subL_nil, subL_cons, upIds, AV.ids, AV.ids.idsL, AObj.ids, drops, Hp.get_cons, get_nil, retF, resL, one, fz, fz.fzL, List.map_cons, List.map_nil, List.nil_append, List.append_nil, List.cons_append, List.all_cons, List.all_nil, List.length_cons, List.length_nil, List.getElem?_cons_zero, List.getElem?_cons_succ, List.getD_cons_zero, List.getD_cons_succ, List.take_succ_cons, List.take_zero, List.drop_succ_cons, List.drop_zero, List.take_nil, List.drop_nil, List.contains_cons, List.contains_nil, Option.getD_some, Option.getD_none, Option.map_some, Option.map_none, if_true, if_false, true_and, and_true, and_self, or_self, or_false, false_or, false_and, and_false, reduceCtorEq, sel_and, sel_or, decide_eq_true_eq, Bool.and_eq_true, Bool.or_eq_true, Bool.and_true, Bool.true_and, Bool.or_false, Bool.false_or, Bool.true_or, Bool.or_true, Bool.not_true, Bool.not_false, Bool.false_eq_true, implies_true, not_false_eq_true, Nat.reduceLT, Nat.reduceEqDiff, Nat.reduceAdd, Nat.reduceMul, Nat.reduceMod, Nat.reduceLeDiff, Nat.reduceBEq, Nat.zero_add, Nat.add_zero, reduceIte, ↓reduceIte, List.not_mem_nil]
        rw [if_pos hj2]
        have hlen := flatsS_len j hk
        have hok := okDs_get h1 hd
        have hdz := dszs_get hd
        have hl2 : (flatsS (l.take j)).2.1.length + (flatS d).2.1.length ≤ (flatsS l).2.1.length := by
          cases hf : (flatS d).1 with
          | false => rw [flatsS_stop hd hk hf, htk]; simp
          | true =>
            have := flatsS_len (l := l) (j + 1) (by rw [htk]; exact hf)
            rw [htk] at this
            simpa using this
        refine ⟨by omega, ⟨hok, by omega, by rw [List.length_append, byteRows, List.length_map]; omega⟩, ?_⟩
        cases hf : (flatS d).1 with
        | false =>
          rw [if_pos (by decide)]
          have hst := flatsS_stop hd hk hf
          rw [htk] at hst
          have hix : firstF l = j := by
            have : l.findIdx? (fun d => !(flatS d).1) = some j := by
              rw [List.findIdx?_eq_some_iff_getElem]
              obtain ⟨hj, rfl⟩ := List.getElem?_eq_some_iff.mp hd
              exact ⟨hj, by simp [hf], fun k hkj => by simp [hall k hkj _ (List.getElem?_eq_getElem (by omega))]⟩
            unfold firstF; rw [this]
          rw [hst] at huf
          simp only [hw] at huf
          rw [← Bool.or_assoc, ← hv] at huf
          subst huf
          rw [hst, hix]
          refine ⟨fun o => if o = 9000 then 16 else o, ?_⟩
          simp only [byteRows_append, ← List.append_assoc, Mt_tup, Mt_agg, Mt_fn, forall_eq, forall_eq_or_imp, ne_eq, List.all_cons, List.all_nil, pr, Nat.reduceLeDiff, slR_nil, slR_cons, hpR_nil, hpR_cells, hpR_row, idsR_nil, idsR_cons, mtE_v, mtE_sl, mtE_nil, mtE_refl, mtE_row, mtE_born, mtE_ptr, mtE_rp, mtE_agg, mtE_tup, mtE_fn, mtE_ep, MtL_nil, MtL_cons, Mt_v, Mt_sl, Mt_nil, Mt_refl, Mt_row, Mt_born, Mt_ptr, MtO_cells, MtO_row, liveIds, distinct, Dat.v.injEq, Dat.sl.injEq, Value.int.injEq, Value.bool.injEq, Value.string.injEq, lk_cons, lk_nil, subL_nil, subL_cons, upIds, AV.ids, AV.ids.idsL, AObj.ids, Hp.get_cons, get_nil, allCell, AV.cell, vInt, vBool, vStr, id, true_and, and_true, and_self, List.append_nil, List.nil_append, List.not_mem_nil, List.mem_cons, or_false, false_or, or_self, not_true_eq_false, not_false_eq_true, false_imp_iff, false_implies, List.map_nil, not_false_eq_true, List.contains_cons, List.contains_nil, Bool.or_false, Bool.false_or, Bool.true_or, Bool.or_true, Bool.and_true, Bool.true_and, implies_true, if_true, if_false, reduceCtorEq, Nat.reduceEqDiff, Nat.reduceBEq, Nat.reduceAdd, reduceIte, ↓reduceIte]
        | true =>
          rw [if_neg (by decide)]
          refine ⟨(j + 1, (u || (flatsS (l.take (j + 1))).2.2)), by simp only []; omega, ⟨by simp only []; omega, by rw [htk]; exact hf, rfl, fun k hk2 d' hd' => ?_⟩, ?_⟩
          · rcases Nat.lt_succ_iff_lt_or_eq.mp hk2 with h | rfl
            · exact hall k h d' hd'
            · rw [hd] at hd'; cases hd'; exact hf
          · have hv2 := congrArg (fun r : Bool × List UInt8 × Bool => (u || r.2.2)) htk
            simp only [hw] at hv2
            rw [← Bool.or_assoc, ← hv] at hv2
            rw [hv2]
            refine Le.of (fun o => if o = 100 then 16 else o) [] ?_
            simp only [htk, byteRows_append, ← List.append_assoc, List.length_map, Mt_tup, Mt_agg, Mt_fn, forall_eq, forall_eq_or_imp, ne_eq, List.all_cons, List.all_nil, pr, Nat.reduceLeDiff, slR_nil, slR_cons, hpR_nil, hpR_cells, hpR_row, idsR_nil, idsR_cons, mtE_v, mtE_sl, mtE_nil, mtE_refl, mtE_row, mtE_born, mtE_ptr, mtE_rp, mtE_agg, mtE_tup, mtE_fn, mtE_ep, MtL_nil, MtL_cons, Mt_v, Mt_sl, Mt_nil, Mt_refl, Mt_row, Mt_born, Mt_ptr, MtO_cells, MtO_row, liveIds, distinct, Dat.v.injEq, Dat.sl.injEq, Value.int.injEq, Value.bool.injEq, Value.string.injEq, lk_cons, lk_nil, subL_nil, subL_cons, upIds, AV.ids, AV.ids.idsL, AObj.ids, Hp.get_cons, get_nil, allCell, AV.cell, vInt, vBool, vStr, id, true_and, and_true, and_self, List.append_nil, List.nil_append, List.not_mem_nil, List.mem_cons, or_false, false_or, or_self, not_true_eq_false, not_false_eq_true, false_imp_iff, false_implies, List.map_nil, not_false_eq_true, List.contains_cons, List.contains_nil, Bool.or_false, Bool.false_or, Bool.true_or, Bool.or_true, Bool.and_true, Bool.true_and, implies_true, if_true, if_false, reduceCtorEq, Nat.reduceEqDiff, Nat.reduceBEq, Nat.reduceAdd, reduceIte, ↓reduceIte]
            first | exact w64 (n := (j : Int) + 1) (by omega) (by omega) | exact ⟨w64 (n := (j : Int) + 1) (by omega) (by omega), rfl⟩
    · have hall2 : l.take j = l := List.take_of_length_le (by omega)
      rw [hall2] at hk hv
      have hix : firstF l = -1 := by
        have : l.findIdx? (fun d => !(flatS d).1) = none := by
          rw [List.findIdx?_eq_none_iff]
          intro d hd
          obtain ⟨k, hk2⟩ := List.getElem?_of_mem hd
          have := (List.getElem?_eq_some_iff.mp hk2).1
          simp [hall k (by omega) d hk2]
        unfold firstF; rw [this]
      rw [← hv] at huf
      subst huf
      rw [hall2, hix]
      cases uf
      all_goals
        simp only [bldA, docD_eq, G_f1_at, F_f1, docsOf_map, Doc.eta, List.length_map, goTG_val, goTG_new, goTG_up, goTG_none, goG_none, goG_new, goG_up, ne_eq, evK, evH, retHF, DRun_mk, runT_nil, runT_none, runT_guard, goT_val, goT_new, goT_store, goTH_true, goTH_false, evO, keys, Option.toList_some, Option.toList_none, nzL_nil, nzL_cons, nz_k, nz_sl, nz_nil, nz_agg, startL, evC, evV, goE_val, goE_new, goE_store, goH_true, goH_false, goG_val, lk_cons, lk_nil, lk_func, lk_int, lk_bool, lk_string, lk_slice, lk_agg, look_mk, St.effOf, eff, effCall, effBin, effUn, effConv, effPick, effNil, effFold, fold1, effLoad, effStore, effFieldAddr, effField, fieldOf, sliceOf, effIndexAddr, effIndex, effLen, effExtract, effSlice, bnd, effBuild, placesOf, effBuildSlice, effMakeSlice, effAppend, srcOf, fillA, chunk, seg, toD, toDs, put, eqAV, fieldsEq, leafEq, strip, unw, allB, selP_or, selP_and, tis, TyD.agg, AV.cells, AV.cell, allCell, vInt, vBool, vStr, subL_nil, subL_cons, upIds, AV.ids, AV.ids.idsL, AObj.ids, drops, Hp.get_cons, get_nil, retF, resL, one, fz, fz.fzL, List.map_cons, List.map_nil, List.nil_append, List.append_nil, List.cons_append, List.all_cons, List.all_nil, List.length_cons, List.length_nil, List.getElem?_cons_zero, List.getElem?_cons_succ, List.getD_cons_zero, List.getD_cons_succ, List.take_succ_cons, List.take_zero, List.drop_succ_cons, List.drop_zero, List.take_nil, List.drop_nil, List.contains_cons, List.contains_nil, Option.getD_some, Option.getD_none, Option.map_some, Option.map_none, if_true, if_false, true_and, and_true, and_self, or_self, or_false, false_or, false_and, and_false, reduceCtorEq, sel_and, sel_or, decide_eq_true_eq, Bool.and_eq_true, Bool.or_eq_true, Bool.and_true, Bool.true_and, Bool.or_false, Bool.false_or, Bool.true_or, Bool.or_true, Bool.not_true, Bool.not_false, Bool.false_eq_true, implies_true, not_false_eq_true, Nat.reduceLT, Nat.reduceEqDiff, Nat.reduceAdd, Nat.reduceMul, Nat.reduceMod, Nat.reduceLeDiff, Nat.reduceBEq, Nat.zero_add, Nat.add_zero, reduceIte, ↓reduceIte, List.not_mem_nil]
        rw [if_neg hj2]
        refine ⟨fun o => if o = 9000 then 100 else o, ?_⟩
        simp only [Mt_tup, Mt_agg, Mt_fn, forall_eq, forall_eq_or_imp, ne_eq, List.all_cons, List.all_nil, pr, Nat.reduceLeDiff, slR_nil, slR_cons, hpR_nil, hpR_cells, hpR_row, idsR_nil, idsR_cons, mtE_v, mtE_sl, mtE_nil, mtE_refl, mtE_row, mtE_born, mtE_ptr, mtE_rp, mtE_agg, mtE_tup, mtE_fn, mtE_ep, MtL_nil, MtL_cons, Mt_v, Mt_sl, Mt_nil, Mt_refl, Mt_row, Mt_born, Mt_ptr, MtO_cells, MtO_row, liveIds, distinct, Dat.v.injEq, Dat.sl.injEq, Value.int.injEq, Value.bool.injEq, Value.string.injEq, lk_cons, lk_nil, subL_nil, subL_cons, upIds, AV.ids, AV.ids.idsL, AObj.ids, Hp.get_cons, get_nil, allCell, AV.cell, vInt, vBool, vStr, id, true_and, and_true, and_self, List.append_nil, List.nil_append, List.not_mem_nil, List.mem_cons, or_false, false_or, or_self, not_true_eq_false, not_false_eq_true, false_imp_iff, false_implies, List.map_nil, not_false_eq_true, List.contains_cons, List.contains_nil, Bool.or_false, Bool.false_or, Bool.true_or, Bool.or_true, Bool.and_true, Bool.true_and, implies_true, if_true, if_false, reduceCtorEq, Nat.reduceEqDiff, Nat.reduceBEq, Nat.reduceAdd, reduceIte, ↓reduceIte]
theorem flatsS_all : ∀ l : List Doc, (flatsS l).1 = l.all fun d => (flatS d).1
  | [] => rfl
  | d :: l => by
    simp only [flatsS, List.all_cons]
    cases h : (flatS d).1 <;> simp [h, flatsS_all l]
theorem firstF_all (l : List Doc) : decide (firstF l ≥ 0) = !(flatsS l).1 := by
  rw [flatsS_all]
  unfold firstF
  cases h : l.findIdx? (fun d => !(flatS d).1) with
  | none =>
    rw [List.findIdx?_eq_none_iff] at h
    have : (l.all fun d => (flatS d).1) = true := List.all_eq_true.mpr fun d hd => by simpa using h d hd
    rw [this]; rfl
  | some i =>
    rw [List.findIdx?_eq_some_iff_getElem] at h
    obtain ⟨hi, h1, -⟩ := h
    have : (l.all fun d => (flatS d).1) = false := List.all_eq_false.mpr ⟨_, List.getElem_mem hi, by simpa using h1⟩
    rw [this]
    simp
noncomputable def F_fcf (n : Nat) (h : Nat → Option AObj) (d : Nat) : List AV → Option Eff
  | [.d (.sl 4 ks), .fn 66 [.ptr x 0]] => match h x with
    | some (.cells t2 [.ptr o 0]) => match bldAt h o with
      | some (u, b, xs) => if t2 = 61 ∧ x ≠ o ∧ x ≠ b then some { sc := ks = (docsOf ks).map docD ∧ (docsOf ks).length ≤ maxLen ∧ okDs (docsOf ks) ∧ dszs (docsOf ks) ≤ n ∧ xs.length + (flatsS (docsOf ks)).2.1.length ≤ 140737488355328, val := vBool (!(flatsS (docsOf ks)).1), up := (x, some (.cells t2 [.ptr o 0])) :: bldUp o d b (u || (flatsS (docsOf ks)).2.2) (xs ++ byteRows (flatsS (docsOf ks)).2.1), new := true } else none
      | none => none
    | _ => none
  | _ => none
noncomputable def G_fix (n : Nat) : Gam := (G_f1 n).addH 50 (F_fix n)
noncomputable def G_fcf (n : Nat) : Gam := (G_fix n).addH 43 (F_fcf n)
theorem G_fix_at : ∀ n h d a, G_fix n 50 h d a = F_fix n h d a := fun _ _ _ _ => rfl
theorem G_fcf_at : (∀ n h d a, G_fcf n 43 h d a = F_fcf n h d a) ∧ (∀ n h d a, G_fcf n 31 h d a = F_ws h d a) := ⟨fun _ _ _ _ => rfl, fun _ _ _ _ => rfl⟩
theorem fcf_body (n : Nat) (u : Bool) (xs : List (List Dat)) (l : List Doc) (h0 : dszs l ≤ n) (h1 : okDs l) (h2 : xs.length + (flatsS l).2.1.length ≤ 140737488355328) (h3 : l.length ≤ maxLen) :
    HBody Try.prog (G_fix n) (DRun Try.prog Gam.none) 43 [.d (.sl 4 (l.map docD)), .fn 66 [.ptr 10002 0]] (fH u xs) (vBool (!(flatsS l).1)) ((fO (u || (flatsS l).2.2) (xs ++ byteRows (flatsS l).2.1)).map fun p => (p.1, some p.2)) := by
  cases u <;> cases hw : (flatsS l).2.2
  all_goals
    refine HBody.of Try.func43 Try.ntmps43 (by kernel_rfl) rfl rfl rfl rfl ?_
    simp only [fH, fO, bldH, bldA, G_fix_at, F_fix, bldAt, bldUp, docsOf_map, hw, List.length_map, goTG_val, goTG_new, goTG_up, goTG_none, goG_none, goG_new, goG_up, ne_eq, evK, evH, retHF, DRun_mk, runT_nil, runT_none, runT_guard, goT_val, goT_new, goT_store, goTH_true, goTH_false, evO, keys, Option.toList_some, Option.toList_none, nzL_nil, nzL_cons, nz_k, nz_sl, nz_nil, nz_agg, startL, evC, evV, goE_val, goE_new, goE_store, goH_true, goH_false, goG_val, lk_cons, lk_nil, lk_func, lk_int, lk_bool, lk_string, lk_slice, lk_agg, look_mk, St.effOf, eff, effCall, effBin, effUn, effConv, effPick, effNil, effFold, fold1, effLoad, effStore, effFieldAddr, effField, fieldOf, sliceOf, effIndexAddr, effIndex, effLen, effExtract, effSlice, bnd, effBuild, placesOf, effBuildSlice, effMakeSlice, effAppend, srcOf, fillA, chunk, seg, toD, toDs, put, eqAV, fieldsEq, leafEq, strip, unw, allB, selP_or, selP_and, tis, TyD.agg, AV.cells, AV.cell, allCell, vInt, vBool, vStr, subL_nil, subL_cons, upIds, AV.ids, AV.ids.idsL, AObj.ids, drops, Hp.get_cons, get_nil, retF, resL, one, fz, fz.fzL, List.map_cons, List.map_nil, List.nil_append, List.append_nil, List.cons_append, List.all_cons, List.all_nil, List.length_cons, List.length_nil, List.getElem?_cons_zero, List.getElem?_cons_succ, List.getD_cons_zero, List.getD_cons_succ, List.take_succ_cons, List.take_zero, List.drop_succ_cons, List.drop_zero, List.take_nil, List.drop_nil, List.contains_cons, List.contains_nil, Option.getD_some, Option.getD_none, Option.map_some, Option.map_none, if_true, if_false, true_and, and_true, and_self, or_self, or_false, false_or, false_and, and_false, reduceCtorEq, sel_and, sel_or, decide_eq_true_eq, Bool.and_eq_true, Bool.or_eq_true, Bool.and_true, Bool.true_and, Bool.or_false, Bool.false_or, Bool.true_or, Bool.or_true, Bool.not_true, Bool.not_false, Bool.false_eq_true, implies_true, not_false_eq_true, Nat.reduceLT, Nat.reduceEqDiff, Nat.reduceAdd, Nat.reduceMul, Nat.reduceMod, Nat.reduceLeDiff, Nat.reduceBEq, Nat.zero_add, Nat.add_zero, reduceIte, ↓reduceIte, List.not_mem_nil]
    refine ⟨⟨h3, h1, h0, h2⟩, fun o => if o = 9000 then 7 else o, ?_⟩
    rw [firstF_all]
    simp only [Mt_tup, Mt_agg, Mt_fn, forall_eq, forall_eq_or_imp, ne_eq, List.all_cons, List.all_nil, pr, Nat.reduceLeDiff, slR_nil, slR_cons, hpR_nil, hpR_cells, hpR_row, idsR_nil, idsR_cons, mtE_v, mtE_sl, mtE_nil, mtE_refl, mtE_row, mtE_born, mtE_ptr, mtE_rp, mtE_agg, mtE_tup, mtE_fn, mtE_ep, MtL_nil, MtL_cons, Mt_v, Mt_sl, Mt_nil, Mt_refl, Mt_row, Mt_born, Mt_ptr, MtO_cells, MtO_row, liveIds, distinct, Dat.v.injEq, Dat.sl.injEq, Value.int.injEq, Value.bool.injEq, Value.string.injEq, lk_cons, lk_nil, subL_nil, subL_cons, upIds, AV.ids, AV.ids.idsL, AObj.ids, Hp.get_cons, get_nil, allCell, AV.cell, vInt, vBool, vStr, id, true_and, and_true, and_self, List.append_nil, List.nil_append, List.not_mem_nil, List.mem_cons, or_false, false_or, or_self, not_true_eq_false, not_false_eq_true, false_imp_iff, false_implies, List.map_nil, not_false_eq_true, List.contains_cons, List.contains_nil, Bool.or_false, Bool.false_or, Bool.true_or, Bool.or_true, Bool.and_true, Bool.true_and, implies_true, if_true, if_false, reduceCtorEq, Nat.reduceEqDiff, Nat.reduceBEq, Nat.reduceAdd, reduceIte, ↓reduceIte]
theorem flatS_eq (D : Doc) : flatS D = if D.k = 4 then (false, [], false) else if D.k = 1 then ((flatsS D.kids).1, D.t.data.toList ++ (flatsS D.kids).2.1, true) else if D.k = 2 then ((flatsS D.kids).1, 32 :: (flatsS D.kids).2.1, true) else flatsS D.kids := by
  cases D; rw [flatS]; rfl
theorem flat_body (n : Nat) (u : Bool) (xs : List (List Dat)) (D : Doc) (h0 : dszs D.kids ≤ n) (h1 : okD D) (h2 : xs.length + (flatS D).2.1.length ≤ 140737488355328) :
    HBody Try.prog (G_fcf n) (DRun Try.prog Gam.none) 64 [.ptr 10000 0, .agg ((docD D).map .d)] (bldH (bldA u 10000) xs) (vBool (flatS D).1) ([(10000, AObj.cells 64 [bldA (u || (flatS D).2.2) 10000, .row 9000 (xs ++ byteRows (flatS D).2.1).length]), (9000, .row 5 1 (xs ++ byteRows (flatS D).2.1))].map fun p => (p.1, some p.2)) := by
  rw [okD_eq] at h1
  have hS := flatS_eq D
  by_cases k4 : D.k = 4
  · rw [if_pos k4] at hS
    cases u
    all_goals
      refine HBody.of Try.func64 Try.ntmps64 (by kernel_rfl) rfl rfl rfl rfl ?_
      simp only [bldH, bldA, docD_eq, G_fcf_at, F_fcf, F_ws, bldAt, bldUp, docsOf_map, k4, hS, byteRows, Int.reduceBEq, List.length_map, goTG_val, goTG_new, goTG_up, goTG_none, goG_none, goG_new, goG_up, ne_eq, evK, evH, retHF, DRun_mk, runT_nil, runT_none, runT_guard, goT_val, goT_new, goT_store, goTH_true, goTH_false, evO, keys, Option.toList_some, Option.toList_none, nzL_nil, nzL_cons, nz_k, nz_sl, nz_nil, nz_agg, startL, evC, evV, goE_val, goE_new, goE_store, goH_true, goH_false, goG_val, lk_cons, lk_nil, lk_func, lk_int, lk_bool, lk_string, lk_slice, lk_agg, look_mk, St.effOf, eff, effCall, effBin, effUn, effConv, effPick, effNil, effFold, fold1, effLoad, effStore, effFieldAddr, effField, fieldOf, sliceOf, effIndexAddr, effIndex, effLen, effExtract, effSlice, bnd, effBuild, placesOf, effBuildSlice, effMakeSlice, effAppend, srcOf, fillA, chunk, seg, toD, toDs, put, eqAV, fieldsEq, leafEq, strip, unw, allB, selP_or, selP_and, tis, TyD.agg, AV.cells, AV.cell, allCell, vInt, vBool, vStr, subL_nil, subL_cons, upIds, AV.ids, AV.ids.idsL, AObj.ids, drops, Hp.get_cons, get_nil, retF, resL, one, fz, fz.fzL, List.map_cons, List.map_nil, List.nil_append, List.append_nil, List.cons_append, List.all_cons, List.all_nil, List.length_cons, List.length_nil, List.getElem?_cons_zero, List.getElem?_cons_succ, List.getD_cons_zero, List.getD_cons_succ, List.take_succ_cons, List.take_zero, List.drop_succ_cons, List.drop_zero, List.take_nil, List.drop_nil, List.contains_cons, List.contains_nil, Option.getD_some, Option.getD_none, Option.map_some, Option.map_none, if_true, if_false, true_and, and_true, and_self, or_self, or_false, false_or, false_and, and_false, reduceCtorEq, sel_and, sel_or, decide_eq_true_eq, Bool.and_eq_true, Bool.or_eq_true, Bool.and_true, Bool.true_and, Bool.or_false, Bool.false_or, Bool.true_or, Bool.or_true, Bool.not_true, Bool.not_false, Bool.false_eq_true, implies_true, not_false_eq_true, Nat.reduceLT, Nat.reduceEqDiff, Nat.reduceAdd, Nat.reduceMul, Nat.reduceMod, Nat.reduceLeDiff, Nat.reduceBEq, Nat.zero_add, Nat.add_zero, reduceIte, ↓reduceIte, List.not_mem_nil]
      refine ⟨fun o => if o = 9000 then 10001 else o, ?_⟩
      simp only [Mt_tup, Mt_agg, Mt_fn, forall_eq, forall_eq_or_imp, ne_eq, List.all_cons, List.all_nil, pr, Nat.reduceLeDiff, slR_nil, slR_cons, hpR_nil, hpR_cells, hpR_row, idsR_nil, idsR_cons, mtE_v, mtE_sl, mtE_nil, mtE_refl, mtE_row, mtE_born, mtE_ptr, mtE_rp, mtE_agg, mtE_tup, mtE_fn, mtE_ep, MtL_nil, MtL_cons, Mt_v, Mt_sl, Mt_nil, Mt_refl, Mt_row, Mt_born, Mt_ptr, MtO_cells, MtO_row, liveIds, distinct, Dat.v.injEq, Dat.sl.injEq, Value.int.injEq, Value.bool.injEq, Value.string.injEq, lk_cons, lk_nil, subL_nil, subL_cons, upIds, AV.ids, AV.ids.idsL, AObj.ids, Hp.get_cons, get_nil, allCell, AV.cell, vInt, vBool, vStr, id, true_and, and_true, and_self, List.append_nil, List.nil_append, List.not_mem_nil, List.mem_cons, or_false, false_or, or_self, not_true_eq_false, not_false_eq_true, false_imp_iff, false_implies, List.map_nil, not_false_eq_true, List.contains_cons, List.contains_nil, Bool.or_false, Bool.false_or, Bool.true_or, Bool.or_true, Bool.and_true, Bool.true_and, implies_true, if_true, if_false, reduceCtorEq, Nat.reduceEqDiff, Nat.reduceBEq, Nat.reduceAdd, reduceIte, ↓reduceIte]
  rw [if_neg k4] at hS
  have b4 : (D.k == 4) = false := by simpa using k4
  by_cases k1 : D.k = 1
  · rw [if_pos k1] at hS
    rw [hS] at h2
    simp only [List.length_append, size_toList] at h2
    cases u <;> cases hw : (flatsS D.kids).2.2
    all_goals
      refine HBody.of Try.func64 Try.ntmps64 (by kernel_rfl) rfl rfl rfl rfl ?_
      simp only [bldH, bldA, docD_eq, G_fcf_at, F_fcf, F_ws, bldAt, bldUp, docsOf_map, k1, hS, hw, Int.reduceBEq, Bool.not_not, List.length_map, goTG_val, goTG_new, goTG_up, goTG_none, goG_none, goG_new, goG_up, ne_eq, evK, evH, retHF, DRun_mk, runT_nil, runT_none, runT_guard, goT_val, goT_new, goT_store, goTH_true, goTH_false, evO, keys, Option.toList_some, Option.toList_none, nzL_nil, nzL_cons, nz_k, nz_sl, nz_nil, nz_agg, startL, evC, evV, goE_val, goE_new, goE_store, goH_true, goH_false, goG_val, lk_cons, lk_nil, lk_func, lk_int, lk_bool, lk_string, lk_slice, lk_agg, look_mk, St.effOf, eff, effCall, effBin, effUn, effConv, effPick, effNil, effFold, fold1, effLoad, effStore, effFieldAddr, effField, fieldOf, sliceOf, effIndexAddr, effIndex, effLen, effExtract, effSlice, bnd, effBuild, placesOf, effBuildSlice, effMakeSlice, effAppend, srcOf, fillA, chunk, seg, toD, toDs, put, eqAV, fieldsEq, leafEq, strip, unw, allB, selP_or, selP_and, tis, TyD.agg, AV.cells, AV.cell, allCell, vInt, vBool, vStr, subL_nil, subL_cons, upIds, AV.ids, AV.ids.idsL, AObj.ids, drops, Hp.get_cons, get_nil, retF, resL, one, fz, fz.fzL, List.map_cons, List.map_nil, List.nil_append, List.append_nil, List.cons_append, List.all_cons, List.all_nil, List.length_cons, List.length_nil, List.getElem?_cons_zero, List.getElem?_cons_succ, List.getD_cons_zero, List.getD_cons_succ, List.take_succ_cons, List.take_zero, List.drop_succ_cons, List.drop_zero, List.take_nil, List.drop_nil, List.contains_cons, List.contains_nil, Option.getD_some, Option.getD_none, Option.map_some, Option.map_none, if_true, if_false, true_and, and_true, and_self, or_self, or_false, false_or, false_and, and_false, reduceCtorEq, sel_and, sel_or, decide_eq_true_eq, Bool.and_eq_true, Bool.or_eq_true, Bool.and_true, Bool.true_and, Bool.or_false, Bool.false_or, Bool.true_or, Bool.or_true, Bool.not_true, Bool.not_false, Bool.false_eq_true, implies_true, not_false_eq_true, Nat.reduceLT, Nat.reduceEqDiff, Nat.reduceAdd, Nat.reduceMul, Nat.reduceMod, Nat.reduceLeDiff, Nat.reduceBEq, Nat.zero_add, Nat.add_zero, reduceIte, ↓reduceIte, List.not_mem_nil]
      refine ⟨by omega, ⟨h1.2.1, h1.2.2, h0, by rw [List.length_append, List.length_map, size_toList]; omega⟩, fun o => if o = 9000 then 22 else o, ?_⟩
      simp only [byteRows, List.map_append, ← List.append_assoc, Mt_tup, Mt_agg, Mt_fn, forall_eq, forall_eq_or_imp, ne_eq, List.all_cons, List.all_nil, pr, Nat.reduceLeDiff, slR_nil, slR_cons, hpR_nil, hpR_cells, hpR_row, idsR_nil, idsR_cons, mtE_v, mtE_sl, mtE_nil, mtE_refl, mtE_row, mtE_born, mtE_ptr, mtE_rp, mtE_agg, mtE_tup, mtE_fn, mtE_ep, MtL_nil, MtL_cons, Mt_v, Mt_sl, Mt_nil, Mt_refl, Mt_row, Mt_born, Mt_ptr, MtO_cells, MtO_row, liveIds, distinct, Dat.v.injEq, Dat.sl.injEq, Value.int.injEq, Value.bool.injEq, Value.string.injEq, lk_cons, lk_nil, subL_nil, subL_cons, upIds, AV.ids, AV.ids.idsL, AObj.ids, Hp.get_cons, get_nil, allCell, AV.cell, vInt, vBool, vStr, id, true_and, and_true, and_self, List.append_nil, List.nil_append, List.not_mem_nil, List.mem_cons, or_false, false_or, or_self, not_true_eq_false, not_false_eq_true, false_imp_iff, false_implies, List.map_nil, not_false_eq_true, List.contains_cons, List.contains_nil, Bool.or_false, Bool.false_or, Bool.true_or, Bool.or_true, Bool.and_true, Bool.true_and, implies_true, if_true, if_false, reduceCtorEq, Nat.reduceEqDiff, Nat.reduceBEq, Nat.reduceAdd, reduceIte, ↓reduceIte]
  rw [if_neg k1] at hS
  have b1 : (D.k == 1) = false := by simpa using k1
  by_cases k2 : D.k = 2
  · rw [if_pos k2] at hS
    rw [hS] at h2
    simp only [List.length_cons] at h2
    cases u <;> cases hw : (flatsS D.kids).2.2
    all_goals
      refine HBody.of Try.func64 Try.ntmps64 (by kernel_rfl) rfl rfl rfl rfl ?_
      simp only [bldH, bldA, docD_eq, G_fcf_at, F_fcf, F_ws, bldAt, bldUp, docsOf_map, k2, hS, hw, Int.reduceBEq, Bool.not_not, List.length_map, goTG_val, goTG_new, goTG_up, goTG_none, goG_none, goG_new, goG_up, ne_eq, evK, evH, retHF, DRun_mk, runT_nil, runT_none, runT_guard, goT_val, goT_new, goT_store, goTH_true, goTH_false, evO, keys, Option.toList_some, Option.toList_none, nzL_nil, nzL_cons, nz_k, nz_sl, nz_nil, nz_agg, startL, evC, evV, goE_val, goE_new, goE_store, goH_true, goH_false, goG_val, lk_cons, lk_nil, lk_func, lk_int, lk_bool, lk_string, lk_slice, lk_agg, look_mk, St.effOf, eff, effCall, effBin, effUn, effConv, effPick, effNil, effFold, fold1, effLoad, effStore, effFieldAddr, effField, fieldOf, sliceOf, effIndexAddr, effIndex, effLen, effExtract, effSlice, bnd, effBuild, placesOf, effBuildSlice, effMakeSlice, effAppend, srcOf, fillA, chunk, seg, toD, toDs, put, eqAV, fieldsEq, leafEq, strip, unw, allB, selP_or, selP_and, tis, TyD.agg, AV.cells, AV.cell, allCell, vInt, vBool, vStr, subL_nil, subL_cons, upIds, AV.ids, AV.ids.idsL, AObj.ids, drops, Hp.get_cons, get_nil, retF, resL, one, fz, fz.fzL, List.map_cons, List.map_nil, List.nil_append, List.append_nil, List.cons_append, List.all_cons, List.all_nil, List.length_cons, List.length_nil, List.getElem?_cons_zero, List.getElem?_cons_succ, List.getD_cons_zero, List.getD_cons_succ, List.take_succ_cons, List.take_zero, List.drop_succ_cons, List.drop_zero, List.take_nil, List.drop_nil, List.contains_cons, List.contains_nil, Option.getD_some, Option.getD_none, Option.map_some, Option.map_none, if_true, if_false, true_and, and_true, and_self, or_self, or_false, false_or, false_and, and_false, reduceCtorEq, sel_and, sel_or, decide_eq_true_eq, Bool.and_eq_true, Bool.or_eq_true, Bool.and_true, Bool.true_and, Bool.or_false, Bool.false_or, Bool.true_or, Bool.or_true, Bool.not_true, Bool.not_false, Bool.false_eq_true, implies_true, not_false_eq_true, Nat.reduceLT, Nat.reduceEqDiff, Nat.reduceAdd, Nat.reduceMul, Nat.reduceMod, Nat.reduceLeDiff, Nat.reduceBEq, Nat.zero_add, Nat.add_zero, reduceIte, ↓reduceIte, List.not_mem_nil]
      refine ⟨by show xs.length + 1 ≤ _; omega, ⟨h1.2.1, h1.2.2, h0, by rw [List.length_append]; show xs.length + 1 + _ ≤ _; omega⟩, fun o => if o = 9000 then 22 else o, ?_⟩
      simp only [byteRows, List.map_cons, List.append_assoc, List.singleton_append, Mt_tup, Mt_agg, Mt_fn, forall_eq, forall_eq_or_imp, ne_eq, List.all_cons, List.all_nil, pr, Nat.reduceLeDiff, slR_nil, slR_cons, hpR_nil, hpR_cells, hpR_row, idsR_nil, idsR_cons, mtE_v, mtE_sl, mtE_nil, mtE_refl, mtE_row, mtE_born, mtE_ptr, mtE_rp, mtE_agg, mtE_tup, mtE_fn, mtE_ep, MtL_nil, MtL_cons, Mt_v, Mt_sl, Mt_nil, Mt_refl, Mt_row, Mt_born, Mt_ptr, MtO_cells, MtO_row, liveIds, distinct, Dat.v.injEq, Dat.sl.injEq, Value.int.injEq, Value.bool.injEq, Value.string.injEq, lk_cons, lk_nil, subL_nil, subL_cons, upIds, AV.ids, AV.ids.idsL, AObj.ids, Hp.get_cons, get_nil, allCell, AV.cell, vInt, vBool, vStr, id, true_and, and_true, and_self, List.append_nil, List.nil_append, List.not_mem_nil, List.mem_cons, or_false, false_or, or_self, not_true_eq_false, not_false_eq_true, false_imp_iff, false_implies, List.map_nil, not_false_eq_true, List.contains_cons, List.contains_nil, Bool.or_false, Bool.false_or, Bool.true_or, Bool.or_true, Bool.and_true, Bool.true_and, implies_true, if_true, if_false, reduceCtorEq, Nat.reduceEqDiff, Nat.reduceBEq, Nat.reduceAdd, reduceIte, ↓reduceIte]
  rw [if_neg k2] at hS
  have b2 : (D.k == 2) = false := by simpa using k2
  rw [hS] at h2
  cases u <;> cases hw : (flatsS D.kids).2.2
  all_goals
    refine HBody.of Try.func64 Try.ntmps64 (by kernel_rfl) rfl rfl rfl rfl ?_
    simp only [bldH, bldA, docD_eq, G_fcf_at, F_fcf, F_ws, bldAt, bldUp, docsOf_map, b1, b2, b4, hS, hw, Bool.not_not, List.length_map, goTG_val, goTG_new, goTG_up, goTG_none, goG_none, goG_new, goG_up, ne_eq, evK, evH, retHF, DRun_mk, runT_nil, runT_none, runT_guard, goT_val, goT_new, goT_store, goTH_true, goTH_false, evO, keys, Option.toList_some, Option.toList_none, nzL_nil, nzL_cons, nz_k, nz_sl, nz_nil, nz_agg, startL, evC, evV, goE_val, goE_new, goE_store, goH_true, goH_false, goG_val, lk_cons, lk_nil, lk_func, lk_int, lk_bool, lk_string, lk_slice, lk_agg, look_mk, St.effOf, eff, effCall, effBin, effUn, effConv, effPick, effNil, effFold, fold1, effLoad, effStore, effFieldAddr, effField, fieldOf, sliceOf, effIndexAddr, effIndex, effLen, effExtract, effSlice, bnd, effBuild, placesOf, effBuildSlice, effMakeSlice, effAppend, srcOf, fillA, chunk, seg, toD, toDs, put, eqAV, fieldsEq, leafEq, strip, unw, allB, selP_or, selP_and, tis, TyD.agg, AV.cells, AV.cell, allCell, vInt, vBool, vStr, subL_nil, subL_cons, upIds, AV.ids, AV.ids.idsL, AObj.ids, drops, Hp.get_cons, get_nil, retF, resL, one, fz, fz.fzL, List.map_cons, List.map_nil, List.nil_append, List.append_nil, List.cons_append, List.all_cons, List.all_nil, List.length_cons, List.length_nil, List.getElem?_cons_zero, List.getElem?_cons_succ, List.getD_cons_zero, List.getD_cons_succ, List.take_succ_cons, List.take_zero, List.drop_succ_cons, List.drop_zero, List.take_nil, List.drop_nil, List.contains_cons, List.contains_nil, Option.getD_some, Option.getD_none, Option.map_some, Option.map_none, if_true, if_false, true_and, and_true, and_self, or_self, or_false, false_or, false_and, and_false, reduceCtorEq, sel_and, sel_or, decide_eq_true_eq, Bool.and_eq_true, Bool.or_eq_true, Bool.and_true, Bool.true_and, Bool.or_false, Bool.false_or, Bool.true_or, Bool.or_true, Bool.not_true, Bool.not_false, Bool.false_eq_true, implies_true, not_false_eq_true, Nat.reduceLT, Nat.reduceEqDiff, Nat.reduceAdd, Nat.reduceMul, Nat.reduceMod, Nat.reduceLeDiff, Nat.reduceBEq, Nat.zero_add, Nat.add_zero, reduceIte, ↓reduceIte, List.not_mem_nil]
    refine ⟨⟨h1.2.1, h1.2.2, h0, h2⟩, fun o => if o = 9000 then 22 else o, ?_⟩
    simp only [Mt_tup, Mt_agg, Mt_fn, forall_eq, forall_eq_or_imp, ne_eq, List.all_cons, List.all_nil, pr, Nat.reduceLeDiff, slR_nil, slR_cons, hpR_nil, hpR_cells, hpR_row, idsR_nil, idsR_cons, mtE_v, mtE_sl, mtE_nil, mtE_refl, mtE_row, mtE_born, mtE_ptr, mtE_rp, mtE_agg, mtE_tup, mtE_fn, mtE_ep, MtL_nil, MtL_cons, Mt_v, Mt_sl, Mt_nil, Mt_refl, Mt_row, Mt_born, Mt_ptr, MtO_cells, MtO_row, liveIds, distinct, Dat.v.injEq, Dat.sl.injEq, Value.int.injEq, Value.bool.injEq, Value.string.injEq, lk_cons, lk_nil, subL_nil, subL_cons, upIds, AV.ids, AV.ids.idsL, AObj.ids, Hp.get_cons, get_nil, allCell, AV.cell, vInt, vBool, vStr, id, true_and, and_true, and_self, List.append_nil, List.nil_append, List.not_mem_nil, List.mem_cons, or_false, false_or, or_self, not_true_eq_false, not_false_eq_true, false_imp_iff, false_implies, List.map_nil, not_false_eq_true, List.contains_cons, List.contains_nil, Bool.or_false, Bool.false_or, Bool.true_or, Bool.or_true, Bool.and_true, Bool.true_and, implies_true, if_true, if_false, reduceCtorEq, Nat.reduceEqDiff, Nat.reduceBEq, Nat.reduceAdd, reduceIte, ↓reduceIte]
theorem bldAt_inv {h : Nat → Option AObj} {o b : Nat} {u : Bool} {xs : List (List Dat)} (e : bldAt h o = some (u, b, xs)) : h o = some (.cells 64 [bldA u o, .row b xs.length]) ∧ h b = some (.row 5 1 xs) ∧ b ≠ o := by
  unfold bldAt at e
  split at e
  · rename_i t b' n ho
    split at e
    · rename_i e0 sz ys hb
      split at e
      · rename_i hc
        obtain ⟨rfl, rfl, rfl, rfl, hne⟩ := hc
        cases e
        exact ⟨ho, hb, hne⟩
      · cases e
    · cases e
  · rename_i t o' b' n ho
    split at e
    · rename_i e0 sz ys hb
      split at e
      · rename_i hc
        obtain ⟨rfl, rfl, rfl, rfl, rfl, hne⟩ := hc
        cases e
        exact ⟨ho, hb, hne⟩
      · cases e
    · cases e
  · cases e
def fsg (x o b : Nat) (i : Nat) : Nat := if i = 10002 then x else if i = 10001 then b else o
/-- A call that is handed the box, the builder and its row. -/
theorem bx_ok {g : Nat} {args cargs : List AV} {r : Dat} {u u' : Bool} {xs ys : List (List Dat)} {x o b d : Nat} {hp : Hp} {sc : Prop} (hx : hp.get x = some (.cells 61 [.ptr o 0])) (hb : bldAt hp.get o = some (u, b, xs)) (h1 : x ≠ o) (h2 : x ≠ b)
    (hm : Mt.MtL (fsg x o b) [] args cargs) (hi : subL (AV.ids.idsL cargs) [10002, 10000, 10001] = true) (hc : HCalm Try.prog g cargs (fH u xs) (.d r) ((fO u' ys).map fun p => (p.1, some p.2))) :
    HOk Try.prog g hp d args { sc := sc, val := .d r, up := (x, some (.cells 61 [.ptr o 0])) :: bldUp o d b u' ys, new := true } := by
  obtain ⟨q1, q2, q3⟩ := bldAt_inv hb
  refine ⟨⟨fsg x o b, [], cargs, fH u xs, .d r, fO u' ys, true⟩, ?_, ⟨hm, ?_, ?_⟩, hc, rfl, fun o' => ?_, rfl⟩
  · have hsub : subL (AV.ids.idsL cargs) (upIds (fH u xs)) = true := by
      refine List.all_eq_true.2 fun i hi' => ?_
      have := List.all_eq_true.1 hi i hi'
      cases u <;> simp [fH, bldH, bldA, upIds, AObj.ids, AV.ids, AV.ids.idsL] at this ⊢ <;> omega
    cases u <;> cases u' <;> simp only [HCall.tidy, hsub] <;> rfl
  · refine ⟨?_, ?_, ?_, trivial⟩
    · rw [if_neg (by simp)]
      simp only [fsg, if_true, hx]
      exact ⟨rfl, ⟨⟨by simp, rfl, rfl⟩, trivial⟩, rfl⟩
    · rw [if_neg (by simp)]
      simp only [fsg, show ((10000 : Nat) = 10002) = False by simp, show ((10000 : Nat) = 10001) = False by simp, if_false, q1]
      cases u
      · exact ⟨rfl, ⟨.inl rfl, ⟨by simp, rfl, rfl⟩, trivial⟩, rfl⟩
      · exact ⟨rfl, ⟨⟨by simp, rfl, rfl⟩, ⟨by simp, rfl, rfl⟩, trivial⟩, rfl⟩
    · rw [if_neg (by simp)]
      simp only [fsg, show ((10001 : Nat) = 10002) = False by simp, if_false, if_true, q2]
      exact ⟨rfl, rfl, rfl⟩
  · refine ⟨fun _ i hi' _ _ => ?_, fun _ i hi' _ _ => ?_, (fun _ i hi' => nomatch (show i ∈ ([] : List Nat) from hi')), trivial⟩
    · rcases List.mem_cons.mp (show i ∈ [10000, 10001] from hi') with rfl | hi'
      · exact fun e => h1 e.symm
      · rcases List.mem_singleton.mp hi' with rfl
        exact fun e => h2 e.symm
    · rcases List.mem_singleton.mp (show i ∈ [10001] from hi') with rfl
      exact q3
  · cases u' <;> rfl
theorem docD_args (k f : Int) (t : ByteArray) {ks : List (List Dat)} (q1 : ks = (docsOf ks).map docD) : [AV.d (.v (.int .i64 k)), .d (.v (.int .i64 f)), .d (.v (.string t)), .d (.sl 4 ks)] = (docD (.mk k f t (docsOf ks))).map .d := by
  rw [docD_eq]; simp only [List.map_cons, List.map_nil, Doc.k, Doc.f, Doc.t, Doc.kids, ← q1]
theorem idsL_ds : ∀ l : List Dat, AV.ids.idsL (l.map .d) = []
  | [] => rfl
  | _ :: l => idsL_ds l
theorem f1_ok (n : Nat) (hG : Gok Try.prog (G_fl n)) : Gok Try.prog (G_f1 n) := by
  refine hG.addH fun hp d args e he hs => ?_
  unfold F_f1 at he
  split at he
  case h_2 => cases he
  rename_i k f t ks x
  split at he
  case h_2 => cases he
  rename_i t2 o hx
  split at he
  case h_2 => cases he
  rename_i u b xs hb
  split at he
  case isFalse => cases he
  rename_i hc
  obtain ⟨rfl, c1, c2⟩ := hc
  cases he
  obtain ⟨q1, q2, q3, q4⟩ := hs
  refine bx_ok hx hb c1 c2 (cargs := [.agg ((docD (.mk k f t (docsOf ks))).map .d), .ptr 10002 0]) ⟨?_, ⟨by simp, rfl, rfl⟩, trivial⟩ ?_ ((f1_body n u xs (.mk k f t (docsOf ks)) q3 q2 q4).calm hG (draws0 _) ?_)
  · rw [docD_args k f t q1]; exact MtL_ds _ _ _
  · simp only [AV.ids.idsL, AV.ids, idsL_ds]; rfl
  · simp only [AV.ids.idsL, AV.ids, idsL_ds]; cases u <;> rfl
theorem fix_ok (n : Nat) (hG : Gok Try.prog (G_f1 n)) : Gok Try.prog (G_fix n) := by
  refine hG.addH fun hp d args e he hs => ?_
  unfold F_fix at he
  split at he
  case h_2 => cases he
  rename_i ks x
  split at he
  case h_2 => cases he
  rename_i t2 o hx
  split at he
  case h_2 => cases he
  rename_i u b xs hb
  split at he
  case isFalse => cases he
  rename_i hc
  obtain ⟨rfl, c1, c2⟩ := hc
  cases he
  obtain ⟨q1, q2, q3, q4, q5⟩ := hs
  refine bx_ok hx hb c1 c2 (cargs := [.d (.sl 4 ((docsOf ks).map docD)), .fn 66 [.ptr 10002 0]]) ⟨?_, ⟨rfl, ⟨by simp, rfl, rfl⟩, trivial⟩, trivial⟩ rfl ((fix_body n u xs _ q4 q3 q5 q2).calm hG (draws0 _) ?_)
  · rw [← q1]; exact .inl rfl
  · cases u <;> rfl
theorem fcf_ok (n : Nat) (hG : Gok Try.prog (G_fix n)) : Gok Try.prog (G_fcf n) := by
  refine hG.addH fun hp d args e he hs => ?_
  unfold F_fcf at he
  split at he
  case h_2 => cases he
  rename_i ks x
  split at he
  case h_2 => cases he
  rename_i t2 o hx
  split at he
  case h_2 => cases he
  rename_i u b xs hb
  split at he
  case isFalse => cases he
  rename_i hc
  obtain ⟨rfl, c1, c2⟩ := hc
  cases he
  obtain ⟨q1, q2, q3, q4, q5⟩ := hs
  refine bx_ok hx hb c1 c2 (cargs := [.d (.sl 4 ((docsOf ks).map docD)), .fn 66 [.ptr 10002 0]]) ⟨?_, ⟨rfl, ⟨by simp, rfl, rfl⟩, trivial⟩, trivial⟩ rfl ((fcf_body n u xs _ q4 q3 q5 q2).calm hG (draws0 _) ?_)
  · rw [← q1]; exact .inl rfl
  · cases u <;> rfl
def flO (u : Bool) (xs : List (List Dat)) : List (Nat × AObj) := [(10000, AObj.cells 64 [bldA u 10000, .row 9000 xs.length]), (9000, .row 5 1 xs)]
theorem flat_calm_of (n : Nat) (hG : Gok Try.prog (G_fl n)) (u : Bool) (xs : List (List Dat)) (D : Doc) (h0 : dszs D.kids ≤ n) (h1 : okD D) (h2 : xs.length + (flatS D).2.1.length ≤ 140737488355328) :
    HCalm Try.prog 64 [.ptr 10000 0, .agg ((docD D).map .d)] (bldH (bldA u 10000) xs) (vBool (flatS D).1) ((flO (u || (flatS D).2.2) (xs ++ byteRows (flatS D).2.1)).map fun p => (p.1, some p.2)) := by
  refine (flat_body n u xs D h0 h1 h2).calm (fcf_ok n (fix_ok n (f1_ok n hG))) (draws0 _) ?_
  simp only [AV.ids.idsL, AV.ids, idsL_ds]
  cases u <;> rfl
theorem bl_ok {g : Nat} {args : List AV} {as_ : List Dat} {r : Dat} {u u' : Bool} {xs ys : List (List Dat)} {o b d : Nat} {hp : Hp} {sc : Prop} (hb : bldAt hp.get o = some (u, b, xs)) (ha : args = [.ptr o 0, .agg (as_.map .d)])
    (hc : HCalm Try.prog g [.ptr 10000 0, .agg (as_.map .d)] (bldH (bldA u 10000) xs) (.d r) ((flO u' ys).map fun p => (p.1, some p.2))) : HOk Try.prog g hp d args { sc := sc, val := .d r, up := bldUp o d b u' ys, new := true } := by
  subst ha
  obtain ⟨q1, q2, q3⟩ := bldAt_inv hb
  refine ⟨⟨fun i => if i = 10001 then b else o, [], [.ptr 10000 0, .agg (as_.map .d)], bldH (bldA u 10000) xs, .d r, flO u' ys, true⟩, ?_, ⟨⟨⟨by simp, rfl, rfl⟩, MtL_ds _ _ _, trivial⟩, ?_, ?_⟩, hc, rfl, fun o' => ?_, rfl⟩
  · have hsub : subL (AV.ids.idsL [.ptr 10000 0, .agg (as_.map .d)]) (upIds (bldH (bldA u 10000) xs)) = true := by
      simp only [AV.ids.idsL, AV.ids, idsL_ds]
      cases u <;> rfl
    cases u <;> cases u' <;> simp only [HCall.tidy, hsub] <;> rfl
  · refine ⟨?_, ?_, trivial⟩
    · rw [if_neg (by simp)]
      simp only [show ((10000 : Nat) = 10001) = False by simp, if_false, q1]
      cases u
      · exact ⟨rfl, ⟨.inl rfl, ⟨by simp, rfl, rfl⟩, trivial⟩, rfl⟩
      · exact ⟨rfl, ⟨⟨by simp, rfl, rfl⟩, ⟨by simp, rfl, rfl⟩, trivial⟩, rfl⟩
    · rw [if_neg (by simp)]
      simp only [if_true, q2]
      exact ⟨rfl, rfl, rfl⟩
  · refine ⟨fun _ i hi' _ _ => ?_, (fun _ i hi' => nomatch (show i ∈ ([] : List Nat) from hi')), trivial⟩
    rcases List.mem_singleton.mp (show i ∈ [10001] from hi') with rfl
    exact q3
  · cases u' <;> rfl
theorem fl_known : ∀ n, Gok Try.prog (G_fl n) := fun n => by
  induction n using Nat.strongRecOn with
  | ind n ih =>
    refine (ws_ok (Known.none Try.prog).ok).addH fun hp d args e he hs => ?_
    unfold limH at he
    split at he
    case h_2 => cases he
    rename_i e0 hf
    cases he
    obtain ⟨hs, hlt⟩ := hs
    unfold F_fl at hf
    split at hf
    case h_2 => cases hf
    rename_i o k f t ks
    split at hf
    case h_2 => cases hf
    rename_i u b xs hb
    cases hf
    obtain ⟨q1, q2, q3⟩ := hs
    exact bl_ok (as_ := docD (.mk k f t (docsOf ks))) hb (by rw [← docD_args k f t q1]) (flat_calm_of _ (ih _ hlt) u xs (.mk k f t (docsOf ks)) (Nat.le_refl _) q2 q3)
theorem flat_calm (u : Bool) (xs : List (List Dat)) (D : Doc) (h1 : okD D) (h2 : xs.length + (flatS D).2.1.length ≤ 140737488355328) :
    HCalm Try.prog 64 [.ptr 10000 0, .agg ((docD D).map .d)] (bldH (bldA u 10000) xs) (vBool (flatS D).1) ((flO (u || (flatS D).2.2) (xs ++ byteRows (flatS D).2.1)).map fun p => (p.1, some p.2)) :=
  flat_calm_of (dszs D.kids) (fl_known _) u xs D (Nat.le_refl _) h1 h2
end Go.Proofs.Ythcgkfgkknofnaa.Eng
