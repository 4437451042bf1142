/- Segments that come in, as data; the law's few; how a map is written. -/
import Derived.Test.YthokfhifahlohaaDoorSSr
import Derived.Test.YthokfhifahlohaaDoorEngLaw
namespace Go.Proofs.YthokfhifahlohaaDoor.Eng
open Go Go.Proofs.YthokfhifahlohaaDoor.Base
set_option maxRecDepth 100000
set_option linter.unusedSimpArgs false
set_option linter.unusedVariables false
theorem okS_mono {l : List Sg} {i j : Nat} (h : okS l j) (hij : i ≤ j) : okS l i := fun k hk => h k (by omega)
theorem mapB_len {l : List Sg} : ∀ {j : Nat}, okS l j → j ≤ l.length → (mapB l j).length ≤ 100037 * j
  | 0, _, _ => by simp [mapB]
  | j + 1, h, hj => by
    have ih := mapB_len (okS_mono h (Nat.le_succ j)) (by omega)
    obtain ⟨s, hs⟩ : ∃ s, l[j]? = some s := ⟨_, List.getElem?_eq_getElem (by omega)⟩
    have hr := last_in h (Nat.lt_succ_self j) hs
    have h2 := seg_len j (lastS (l.take j)) s hr.2.1
    obtain ⟨⟨⟨k1, k2⟩, _⟩, _⟩ := h j (Nat.lt_succ_self j) s hs
    rw [mapB, hs, List.length_append]
    simp only []
    omega
def mapT (l : List Sg) : ByteArray := ⟨(mapB l l.length).toArray⟩
theorem mapS_yes {l : List Sg} (h : okS l l.length) : mapS l = .tup [vStr (mapT l), vBool true] := if_pos h
theorem mapS_no {l : List Sg} (h : ¬ okS l l.length) : mapS l = .tup [vStr ByteArray.empty, vBool false] := if_neg h
def farL (s : Sg) : Prop := s.a > 200 ∧ s.a ≤ 100000
instance (s : Sg) : Decidable (farL s) := by unfold farL; infer_instance
def fewS (l : List Sg) : Bool := decide ((∀ s ∈ l, ¬ farL s) ∧ l.length ≤ 60)
theorem fewS_body (l : List Sg) (hl : l.length ≤ maxLen) : Body Tryd.prog Gam.none (DRun Tryd.prog Gam.none) 7 [.d (sgsD l)] (vBool (fewS l)) := by
  refine Body.of Tryd.func7 Tryd.ntmps7 (by kernel_rfl) rfl rfl rfl ?_
  have hl : l.length ≤ 9223372036854775807 := hl
  simp only [sgsD, List.length_map, goTG_val, goTG_new, goTG_up, goTG_none, goG_none, goG_new, goG_up, ne_eq, evK, evH, retHF, DRun_mk, runT_nil, runT_none, runT_guard, goT_val, goT_new, goT_store, goTH_true, goTH_false, evO, keys, Option.toList_some, Option.toList_none, nzL_nil, nzL_cons, nz_k, nz_sl, nz_nil, nz_agg, startL, evC, evV, goE_val, goE_new, goE_store, goH_true, goH_false, goG_val, lk_cons, lk_nil, lk_func, lk_int, lk_bool, lk_string, lk_slice, lk_agg, look_mk, St.effOf, eff, effCall, effBin, effUn, effConv, effPick, effNil, effFold, fold1, effLoad, effStore, effFieldAddr, effField, fieldOf, sliceOf, effIndexAddr, effIndex, effLen, effExtract, effSlice, bnd, effBuild, placesOf, effBuildSlice, effMakeSlice, effAppend, srcOf, fillA, chunk, seg, toD, toDs, put, eqAV, fieldsEq, leafEq, strip, unw, allB, selP_or, selP_and, tis, TyD.agg, AV.cells, AV.cell, allCell, vInt, vBool, vStr, subL_nil, subL_cons, upIds, AV.ids, AV.ids.idsL, AObj.ids, drops, Hp.get_cons, get_nil, retF, resL, one, fz, fz.fzL, List.map_cons, List.map_nil, List.nil_append, List.append_nil, List.cons_append, List.all_cons, List.all_nil, List.length_cons, List.length_nil, List.getElem?_cons_zero, List.getElem?_cons_succ, List.getD_cons_zero, List.getD_cons_succ, List.take_succ_cons, List.take_zero, List.drop_succ_cons, List.drop_zero, List.take_nil, List.drop_nil, List.contains_cons, List.contains_nil, Option.getD_some, Option.getD_none, Option.map_some, Option.map_none, if_true, if_false, true_and, and_true, and_self, or_self, or_false, false_or, false_and, and_false, reduceCtorEq, sel_and, sel_or, decide_eq_true_eq, Bool.and_eq_true, Bool.or_eq_true, Bool.and_true, Bool.true_and, Bool.or_false, Bool.false_or, Bool.true_or, Bool.or_true, Bool.not_true, Bool.not_false, Bool.false_eq_true, implies_true, not_false_eq_true, Nat.reduceLT, Nat.reduceEqDiff, Nat.reduceAdd, Nat.reduceMul, Nat.reduceMod, Nat.reduceLeDiff, Nat.reduceBEq, Nat.zero_add, Nat.add_zero, reduceIte, ↓reduceIte, List.not_mem_nil]
  refine wpc_loop (fun j : Nat => ⟨27, [], [(0, .d (sgsD l)), (3, vInt .i64 j)], []⟩) (fun j => j ≤ l.length ∧ ∀ k, k < j → ∀ s, l[k]? = some s → ¬ farL s) (fun j => l.length - j) 0 ⟨Nat.zero_le _, fun k hk => absurd hk (Nat.not_lt_zero k)⟩ ?_ ?_
  · refine Le.of id [] ?_
    simp only [sgsD, Mt_tup, Mt_agg, Mt_fn, forall_eq, forall_eq_or_imp, ne_eq, List.all_cons, List.all_nil, pr, Nat.reduceLeDiff, slR_nil, slR_cons, hpR_nil, hpR_cells, hpR_row, idsR_nil, idsR_cons, mtE_v, mtE_sl, mtE_nil, mtE_refl, mtE_row, mtE_born, mtE_ptr, mtE_rp, mtE_agg, mtE_tup, mtE_fn, mtE_ep, MtL_nil, MtL_cons, Mt_v, Mt_sl, Mt_nil, Mt_refl, Mt_row, Mt_born, Mt_ptr, MtO_cells, MtO_row, liveIds, distinct, Dat.v.injEq, Dat.sl.injEq, Value.int.injEq, Value.bool.injEq, Value.string.injEq, lk_cons, lk_nil, subL_nil, subL_cons, upIds, AV.ids, AV.ids.idsL, AObj.ids, Hp.get_cons, get_nil, allCell, AV.cell, vInt, vBool, vStr, id, true_and, and_true, and_self, List.append_nil, List.nil_append, List.not_mem_nil, List.mem_cons, or_false, false_or, or_self, not_true_eq_false, not_false_eq_true, false_imp_iff, false_implies, List.map_nil, not_false_eq_true, List.contains_cons, List.contains_nil, Bool.or_false, Bool.false_or, Bool.true_or, Bool.or_true, Bool.and_true, Bool.true_and, implies_true, if_true, if_false, reduceCtorEq, Nat.reduceEqDiff, Nat.reduceBEq, Nat.reduceAdd, reduceIte, ↓reduceIte]
    rfl
  · rintro j ⟨hj, hk⟩
    by_cases hj2 : (j : Int) < l.length
    · obtain ⟨d, hd⟩ : ∃ d, l[j]? = some d := ⟨_, List.getElem?_eq_getElem (by omega)⟩
      have hg : ∀ z, (l.map sgD).getD (j : Int).toNat z = sgD d := getD_map hd
      simp only [sgsD, hg, sgD, List.length_map, goTG_val, goTG_new, goTG_up, goTG_none, goG_none, goG_new, goG_up, ne_eq, evK, evH, retHF, DRun_mk, runT_nil, runT_none, runT_guard, goT_val, goT_new, goT_store, goTH_true, goTH_false, evO, keys, Option.toList_some, Option.toList_none, nzL_nil, nzL_cons, nz_k, nz_sl, nz_nil, nz_agg, startL, evC, evV, goE_val, goE_new, goE_store, goH_true, goH_false, goG_val, lk_cons, lk_nil, lk_func, lk_int, lk_bool, lk_string, lk_slice, lk_agg, look_mk, St.effOf, eff, effCall, effBin, effUn, effConv, effPick, effNil, effFold, fold1, effLoad, effStore, effFieldAddr, effField, fieldOf, sliceOf, effIndexAddr, effIndex, effLen, effExtract, effSlice, bnd, effBuild, placesOf, effBuildSlice, effMakeSlice, effAppend, srcOf, fillA, chunk, seg, toD, toDs, put, eqAV, fieldsEq, leafEq, strip, unw, allB, selP_or, selP_and, tis, TyD.agg, AV.cells, AV.cell, allCell, vInt, vBool, vStr, subL_nil, subL_cons, upIds, AV.ids, AV.ids.idsL, AObj.ids, drops, Hp.get_cons, get_nil, retF, resL, one, fz, fz.fzL, List.map_cons, List.map_nil, List.nil_append, List.append_nil, List.cons_append, List.all_cons, List.all_nil, List.length_cons, List.length_nil, List.getElem?_cons_zero, List.getElem?_cons_succ, List.getD_cons_zero, List.getD_cons_succ, List.take_succ_cons, List.take_zero, List.drop_succ_cons, List.drop_zero, List.take_nil, List.drop_nil, List.contains_cons, List.contains_nil, Option.getD_some, Option.getD_none, Option.map_some, Option.map_none, if_true, if_false, true_and, and_true, and_self, or_self, or_false, false_or, false_and, and_false, reduceCtorEq, sel_and, sel_or, decide_eq_true_eq, Bool.and_eq_true, Bool.or_eq_true, Bool.and_true, Bool.true_and, Bool.or_false, Bool.false_or, Bool.true_or, Bool.or_true, Bool.not_true, Bool.not_false, Bool.false_eq_true, implies_true, not_false_eq_true, Nat.reduceLT, Nat.reduceEqDiff, Nat.reduceAdd, Nat.reduceMul, Nat.reduceMod, Nat.reduceLeDiff, Nat.reduceBEq, Nat.zero_add, Nat.add_zero, reduceIte, ↓reduceIte, List.not_mem_nil]
      rw [if_pos hj2]
      refine ⟨by omega, fun _ => by omega, ?_⟩
      by_cases hr : farL d
      · rw [if_pos (show _ ∧ _ from hr)]
        have : fewS l = false := decide_eq_false fun h => h.1 d (List.mem_of_getElem? hd) hr
        rw [this]
      · rw [if_neg (show ¬ (_ ∧ _) from hr)]
        refine ⟨j + 1, by omega, ⟨by omega, fun k hk2 d' hd' => ?_⟩, Le.of id [] ?_⟩
        · rcases Nat.lt_succ_iff_lt_or_eq.mp hk2 with h | rfl
          · exact hk k h d' hd'
          · rw [hd] at hd'; cases hd'; exact hr
        · simp only [sgsD, Mt_tup, Mt_agg, Mt_fn, forall_eq, forall_eq_or_imp, ne_eq, List.all_cons, List.all_nil, pr, Nat.reduceLeDiff, slR_nil, slR_cons, hpR_nil, hpR_cells, hpR_row, idsR_nil, idsR_cons, mtE_v, mtE_sl, mtE_nil, mtE_refl, mtE_row, mtE_born, mtE_ptr, mtE_rp, mtE_agg, mtE_tup, mtE_fn, mtE_ep, MtL_nil, MtL_cons, Mt_v, Mt_sl, Mt_nil, Mt_refl, Mt_row, Mt_born, Mt_ptr, MtO_cells, MtO_row, liveIds, distinct, Dat.v.injEq, Dat.sl.injEq, Value.int.injEq, Value.bool.injEq, Value.string.injEq, lk_cons, lk_nil, subL_nil, subL_cons, upIds, AV.ids, AV.ids.idsL, AObj.ids, Hp.get_cons, get_nil, allCell, AV.cell, vInt, vBool, vStr, id, true_and, and_true, and_self, List.append_nil, List.nil_append, List.not_mem_nil, List.mem_cons, or_false, false_or, or_self, not_true_eq_false, not_false_eq_true, false_imp_iff, false_implies, List.map_nil, not_false_eq_true, List.contains_cons, List.contains_nil, Bool.or_false, Bool.false_or, Bool.true_or, Bool.or_true, Bool.and_true, Bool.true_and, implies_true, if_true, if_false, reduceCtorEq, Nat.reduceEqDiff, Nat.reduceBEq, Nat.reduceAdd, reduceIte, ↓reduceIte]
          exact w64 (by omega) (by omega)
    · simp only [sgsD, List.length_map, goTG_val, goTG_new, goTG_up, goTG_none, goG_none, goG_new, goG_up, ne_eq, evK, evH, retHF, DRun_mk, runT_nil, runT_none, runT_guard, goT_val, goT_new, goT_store, goTH_true, goTH_false, evO, keys, Option.toList_some, Option.toList_none, nzL_nil, nzL_cons, nz_k, nz_sl, nz_nil, nz_agg, startL, evC, evV, goE_val, goE_new, goE_store, goH_true, goH_false, goG_val, lk_cons, lk_nil, lk_func, lk_int, lk_bool, lk_string, lk_slice, lk_agg, look_mk, St.effOf, eff, effCall, effBin, effUn, effConv, effPick, effNil, effFold, fold1, effLoad, effStore, effFieldAddr, effField, fieldOf, sliceOf, effIndexAddr, effIndex, effLen, effExtract, effSlice, bnd, effBuild, placesOf, effBuildSlice, effMakeSlice, effAppend, srcOf, fillA, chunk, seg, toD, toDs, put, eqAV, fieldsEq, leafEq, strip, unw, allB, selP_or, selP_and, tis, TyD.agg, AV.cells, AV.cell, allCell, vInt, vBool, vStr, subL_nil, subL_cons, upIds, AV.ids, AV.ids.idsL, AObj.ids, drops, Hp.get_cons, get_nil, retF, resL, one, fz, fz.fzL, List.map_cons, List.map_nil, List.nil_append, List.append_nil, List.cons_append, List.all_cons, List.all_nil, List.length_cons, List.length_nil, List.getElem?_cons_zero, List.getElem?_cons_succ, List.getD_cons_zero, List.getD_cons_succ, List.take_succ_cons, List.take_zero, List.drop_succ_cons, List.drop_zero, List.take_nil, List.drop_nil, List.contains_cons, List.contains_nil, Option.getD_some, Option.getD_none, Option.map_some, Option.map_none, if_true, if_false, true_and, and_true, and_self, or_self, or_false, false_or, false_and, and_false, reduceCtorEq, sel_and, sel_or, decide_eq_true_eq, Bool.and_eq_true, Bool.or_eq_true, Bool.and_true, Bool.true_and, Bool.or_false, Bool.false_or, Bool.true_or, Bool.or_true, Bool.not_true, Bool.not_false, Bool.false_eq_true, implies_true, not_false_eq_true, Nat.reduceLT, Nat.reduceEqDiff, Nat.reduceAdd, Nat.reduceMul, Nat.reduceMod, Nat.reduceLeDiff, Nat.reduceBEq, Nat.zero_add, Nat.add_zero, reduceIte, ↓reduceIte, List.not_mem_nil]
      rw [if_neg hj2]
      have : fewS l = decide ((l.length : Int) ≤ 60) := by
        unfold fewS
        rw [decide_eq_decide]
        constructor
        · rintro ⟨-, h⟩; omega
        · intro h
          refine ⟨fun s hs => ?_, by omega⟩
          obtain ⟨k, hk2⟩ := List.getElem?_of_mem hs
          exact hk k (by have := (List.getElem?_eq_some_iff.mp hk2).1; omega) s hk2
      rw [this]
def F_fewS : List AV → Option (Prop × AV)
  | [.d (.sl 4 xs)] => some (xs = (xs.map sgOf).map sgD ∧ xs.length ≤ maxLen, vBool (fewS (xs.map sgOf)))
  | _ => none
theorem fewS_calm : ∀ args sc res, F_fewS args = some (sc, res) → sc → Calm Tryd.prog 7 args res := by
  intro args sc res h hs
  unfold F_fewS at h
  split at h <;> cases h
  rename_i xs
  obtain ⟨h1, h2⟩ := hs
  have hb := fewS_body (xs.map sgOf) (by simpa using h2)
  rw [sgsD, ← h1] at hb
  exact (Known.none _).calm mixed rfl rfl hb
theorem encT35 (f : Nat) : IsEnc Tryd.prog f 35 (fun p : Sg => (((Lit.int .i64 p.a).wf = true ∧ (Lit.int .i64 p.b).wf = true) ∧ (Lit.int .i64 p.c).wf = true) ∧ (Lit.int .i64 p.d).wf = true) (fun p => sgD p) := by
  intro H enc W spare held cs r h
  obtain ⟨xs, h1, h2, h3⟩ := enc_struct (l := [(1, _), (1, _), (1, _), (1, _)]) Tryd.underlying35 (by kernel_rfl) (fun g hg => ⟨rfl, by kernel_rfl, (enc_int Tryd.underlying3).sub (fun _ => rfl), rfl, by kernel_rfl, (enc_int Tryd.underlying3).sub (fun _ => rfl), rfl, by kernel_rfl, (enc_int Tryd.underlying3).sub (fun _ => rfl), rfl, by kernel_rfl, (enc_int Tryd.underlying3).sub (fun _ => rfl), trivial⟩) H enc W spare held cs r h
  match xs, h1 with
  | [a, b, c, d], _ =>
    obtain ⟨-, ta, wa, ha⟩ := h2 0 a _ rfl rfl
    obtain ⟨-, tb, wb, hb⟩ := h2 1 b _ rfl rfl
    obtain ⟨-, tc, wc, hc⟩ := h2 2 c _ rfl rfl
    obtain ⟨-, td, wd, hd⟩ := h2 3 d _ rfl rfl
    subst ha hb hc hd
    exact ⟨⟨ta, tb, tc, td⟩, ⟨⟨⟨wa, wb⟩, wc⟩, wd⟩, h3⟩
def upO : Option Sg → Sg → Bool
  | some p, s => decide (upS p s)
  | none, _ => true
def okB : Option Sg → List Sg → Bool
  | _, [] => true
  | p, s :: l => decide (inS s) && upO p s && okB (some s) l
theorem okB_iff : ∀ (l : List Sg) (p : Option Sg), okB p l = true ↔ (∀ i s, l[i]? = some s → inS s ∧ ∀ q, (if i = 0 then p else l[i - 1]?) = some q → upS q s)
  | [], p => by simp [okB]
  | s :: l, p => by
    rw [okB, Bool.and_eq_true, Bool.and_eq_true, okB_iff l (some s)]
    constructor
    · rintro ⟨⟨h1, h2⟩, h3⟩ i t ht
      cases i with
      | zero =>
        cases ht
        refine ⟨of_decide_eq_true h1, fun q hq => ?_⟩
        rw [if_pos rfl] at hq
        subst hq
        exact of_decide_eq_true h2
      | succ i =>
        obtain ⟨k1, k2⟩ := h3 i t (by simpa using ht)
        refine ⟨k1, fun q hq => k2 q ?_⟩
        rw [if_neg (by omega), Nat.add_sub_cancel] at hq
        by_cases h0 : i = 0
        · subst h0; rw [if_pos rfl]; simpa using hq
        · rw [if_neg h0]
          obtain ⟨i, rfl⟩ : ∃ k, i = k + 1 := ⟨i - 1, by omega⟩
          simpa using hq
    · intro h
      refine ⟨⟨decide_eq_true (h 0 s rfl).1, ?_⟩, fun i t ht => ?_⟩
      · cases p with
        | none => rfl
        | some q => exact decide_eq_true ((h 0 s rfl).2 q (if_pos rfl))
      · obtain ⟨k1, k2⟩ := h (i + 1) t (by simpa using ht)
        refine ⟨k1, fun q hq => k2 q ?_⟩
        rw [if_neg (by omega), Nat.add_sub_cancel]
        by_cases h0 : i = 0
        · subst h0; rw [if_pos rfl] at hq; simpa using hq
        · rw [if_neg h0] at hq
          obtain ⟨i, rfl⟩ : ∃ k, i = k + 1 := ⟨i - 1, by omega⟩
          simpa using hq
theorem okS_iff (l : List Sg) : okS l l.length ↔ okB none l = true := by
  rw [okB_iff]
  constructor
  · intro h i s hs
    obtain ⟨k1, k2⟩ := h i (List.getElem?_eq_some_iff.mp hs).1 s hs
    refine ⟨k1, fun q hq => ?_⟩
    by_cases h0 : i = 0
    · rw [if_pos h0] at hq; cases hq
    · rw [if_neg h0] at hq; exact k2 q (by omega) hq
  · intro h i _ s hs
    obtain ⟨k1, k2⟩ := h i s hs
    exact ⟨k1, fun q h0 hq => k2 q (by rw [if_neg (by omega)]; exact hq)⟩
end Go.Proofs.YthokfhifahlohaaDoor.Eng
