/- RenderLines. -/
import Derived.Test.YthcgkfgkknofnaaSRl5
namespace Go.Proofs.Ythcgkfgkknofnaa.Eng
open Go Go.Proofs.Ythcgkfgkknofnaa.Base
set_option maxRecDepth 100000
set_option linter.unusedSimpArgs false
set_option linter.unusedVariables false
/- Lines that are right: with a blank, not wider than so. -/
def goodL (w : Int) (l : List UInt8) : Prop := (32 : UInt8) ∈ l → (l.length : Int) ≤ w
def chk (w : Int) : List UInt8 → List UInt8 → Prop
  | cur, [] => goodL w cur
  | cur, c :: s => if c = 10 then goodL w cur ∧ chk w [] s else chk w (cur ++ [c]) s
theorem chk_line (w : Int) : ∀ (l cur s : List UInt8), (10 : UInt8) ∉ l → goodL w (cur ++ l) → chk w [] s → chk w cur (l ++ 10 :: s)
  | [], cur, s, _, h, hs => by
    rw [List.append_nil] at h
    rw [List.nil_append, chk, if_pos rfl]; exact ⟨h, hs⟩
  | c :: l, cur, s, hn, h, hs => by
    rw [List.cons_append, chk, if_neg (fun e => hn (by rw [e]; exact List.mem_cons_self))]
    exact chk_line w l (cur ++ [c]) s (fun e => hn (List.mem_cons_of_mem _ e)) (by rw [List.append_assoc]; exact h) hs
theorem chk_last (w : Int) : ∀ (l cur : List UInt8), (10 : UInt8) ∉ l → goodL w (cur ++ l) → chk w cur l
  | [], cur, _, h => by rw [List.append_nil] at h; exact h
  | c :: l, cur, hn, h => by
    rw [chk, if_neg (fun e => hn (by rw [e]; exact List.mem_cons_self))]
    exact chk_last w l (cur ++ [c]) (fun e => hn (List.mem_cons_of_mem _ e)) (by rw [List.append_assoc]; exact h)
/- The document. -/
def lnT (x : Int) : Doc := .mk 1 (-1) (tw 121 x) []
def lnS : Doc := .mk 2 0 ByteArray.empty []
def lnG (x : Int) : Doc := .mk 6 0 ByteArray.empty [lnT x, lnS, lnT x]
def lnK : Nat → List Int → List Doc
  | _, [] => []
  | j, x :: l => (if j = 0 then [] else [lnS]) ++ lnG x :: lnK (j + 1) l
theorem lnK_snoc : ∀ (l : List Int) (j : Nat) (x : Int), lnK j (l ++ [x]) = lnK j l ++ ((if j + l.length = 0 then [] else [lnS]) ++ [lnG x])
  | [], j, x => by simp [lnK]
  | y :: l, j, x => by
    rw [List.cons_append, lnK, lnK_snoc l (j + 1) x, lnK, if_neg (show ¬ j + 1 + l.length = 0 by omega), if_neg (show ¬ j + (y :: l).length = 0 by rw [List.length_cons]; omega)]
    simp only [List.append_assoc, List.cons_append]
theorem lnK_len : ∀ (l : List Int) (j : Nat), (lnK j l).length ≤ 2 * l.length
  | [], _ => Nat.zero_le _
  | x :: l, j => by
    have := lnK_len l (j + 1)
    rw [lnK, List.length_append, List.length_cons, List.length_cons]
    split <;> simp only [List.length_nil, List.length_cons] <;> omega
theorem lnK_each : ∀ (l : List Int) (j : Nat), ∀ d ∈ lnK j l, okD d ∧ tot d ≤ 22 ∧ right 199 d = true
  | [], _, d, h => by cases h
  | x :: l, j, d, h => by
    have hw := tw_size 121 x
    have hm : 8 ≤ maxLen := by decide
    have e0 : ByteArray.empty.size = 0 := rfl
    rw [lnK] at h
    rcases List.mem_append.mp h with h | h
    · split at h
      · cases h
      · rcases List.mem_singleton.mp h with rfl
        refine ⟨⟨Nat.zero_le _, Nat.zero_le _, trivial⟩, by decide, ?_⟩
        rw [lnS, right, rightC, if_neg (by decide), if_pos (by decide), em0]; rfl
    · rcases List.mem_cons.mp h with rfl | h
      · refine ⟨⟨Nat.zero_le _, by show 3 ≤ maxLen; decide, ⟨by show (tw 121 x).size ≤ maxLen; omega, Nat.zero_le _, trivial⟩, ⟨Nat.zero_le _, Nat.zero_le _, trivial⟩, ⟨by show (tw 121 x).size ≤ maxLen; omega, Nat.zero_le _, trivial⟩, trivial⟩, ?_, ?_⟩
        · simp only [lnG, lnT, lnS, tot, tots, e0]; omega
        · rw [lnG, right, rightC, if_neg (by decide), if_neg (by decide), if_pos (by decide), if_pos ⟨⟨by decide, em0⟩, rfl⟩]
          simp only [rights, lnT, lnS, right, rightC, em0, show ¬ (2 : Int) = 1 by decide, if_false, if_true, Bool.and_true]
          rfl
      · exact lnK_each l (j + 1) d h
/- A letter's text. -/
theorem tw_data (c : UInt8) (x : Int) : (tw c x).data.toList = List.replicate (1 + x % 8).toNat c := rfl
theorem lnG_rf (x : Int) : rfS (lnG x) = ((tw 121 x).data.toList ++ 32 :: (tw 121 x).data.toList, true) := by
  rw [lnG, rfS]
  simp only [show ¬ (6 : Int) = 1 by decide, show ¬ (6 : Int) = 2 by decide, show ¬ (6 : Int) = 3 by decide, show ¬ (6 : Int) = 4 by decide, if_false, rfL, lnT, lnS, rfS, show ¬ (2 : Int) = 1 by decide, if_true, rfJ, List.append_nil, List.cons_append, List.nil_append]
def lnX (x : Int) : List UInt8 := (tw 121 x).data.toList ++ 32 :: (tw 121 x).data.toList
theorem lnX_ascii (x : Int) : ∀ c ∈ lnX x, c.toNat < 128 ∧ c ≠ 10 := by
  intro c h
  rw [lnX, tw_data] at h
  rcases List.mem_append.mp h with h | h
  · rw [List.eq_of_mem_replicate h]; decide
  · rcases List.mem_cons.mp h with rfl | h
    · decide
    · rw [List.eq_of_mem_replicate h]; decide
theorem lnG_fw (x : Int) : fw (lnG x) = ((lnX x).length : Int) := by
  rw [fw, flatB, lnG_rf]; exact wide_ascii _ fun c h => (lnX_ascii x c h).1
/- Broken: each group by itself, on a line or on two. -/
theorem bl0 : (lineT (0 * 0)).data.toList = [10] := rfl
theorem ln_one (w x : Int) (r : List It) (hr : sumB r = 0) : ∃ col, layR w 0 (⟨lnG x, 0, false⟩ :: r) 0 = (if ((lnX x).length : Int) ≤ w then [(tw 121 x, -1), (⟨#[32]⟩, -1), (tw 121 x, -1)] else [(tw 121 x, -1), (lineT (0 * 0), -1), (tw 121 x, -1)]) ++ layR w 0 r col := by
  have hw := tw_size 121 x
  have hf : fitsR w 0 (.mk 6 0 ByteArray.empty [lnT x, lnS, lnT x]) r = decide (((lnX x).length : Int) ≤ w) := by
    show fitsR w 0 (lnG x) r = _
    rw [fitsR, lnG_rf, Bool.true_and, lnG_fw, hr]
    congr 1
    simp only [eq_iff_iff]; omega
  rw [lnG, layR_grp, hf]
  by_cases c : ((lnX x).length : Int) ≤ w
  · rw [decide_eq_true c, if_pos c]
    simp only [List.map_cons, List.map_nil, List.cons_append, List.nil_append, lnT, lnS]
    rw [layR_text _ _ _ _ _ _ _ _ (by omega), layR_sp, layR_text _ _ _ _ _ _ _ _ (by omega)]
    exact ⟨_, rfl⟩
  · rw [decide_eq_false c, if_neg c]
    simp only [List.map_cons, List.map_nil, List.cons_append, List.nil_append, lnT, lnS]
    rw [layR_text _ _ _ _ _ _ _ _ (by omega), layR_nl _ _ _ _ (.inl rfl), layR_text _ _ _ _ _ _ _ _ (by omega)]
    exact ⟨_, rfl⟩
theorem tw_good (w x : Int) (c : UInt8) (h : c ≠ 32) : goodL w (tw c x).data.toList := fun hm => by
  rw [tw_data] at hm
  exact absurd (List.eq_of_mem_replicate hm).symm h
theorem tw_no (x : Int) : (10 : UInt8) ∉ (tw 121 x).data.toList := fun hm => by
  rw [tw_data] at hm
  exact absurd (List.eq_of_mem_replicate hm) (by decide)
theorem ln_rows (w : Int) : ∀ (l : List Int) (x : Int), chk w [] (wholeP (layR w 0 ((lnG x :: lnK 1 l).map fun d => ⟨d, 0, false⟩) 0))
  | l, x => by
    have hsum : sumB ((lnK 1 l).map fun d => ⟨d, 0, false⟩) = 0 := by
      cases l with
      | nil => rfl
      | cons y l => rfl
    obtain ⟨col, e⟩ := ln_one w x ((lnK 1 l).map fun d => ⟨d, 0, false⟩) hsum
    rw [List.map_cons, e]
    have tailok : ∀ pre : List UInt8, (10 : UInt8) ∉ pre → goodL w pre → chk w [] (pre ++ wholeP (layR w 0 ((lnK 1 l).map fun d => ⟨d, 0, false⟩) col)) := by
      intro pre h1 h2
      match l with
      | [] =>
        rw [show wholeP (layR w 0 ((lnK 1 []).map fun d => ⟨d, 0, false⟩) col) = [] from rfl, List.append_nil]
        exact chk_last w pre [] h1 h2
      | y :: l =>
        have ih := ln_rows w l y
        have hk : ∀ j, lnK (j + 2) l = lnK 1 l := by
          have : ∀ (l : List Int) (a b : Nat), lnK (a + 1) l = lnK (b + 1) l := by
            intro l
            induction l with
            | nil => intro a b; rfl
            | cons z l ih => intro a b; rw [lnK, lnK, if_neg (by omega), if_neg (by omega), ih (a + 1) (b + 1)]
          exact fun j => this l (j + 1) 0
        rw [lnK, if_neg (by decide), hk 0]
        simp only [List.cons_append, List.nil_append, List.map_cons]
        rw [show lnS = Doc.mk 2 0 ByteArray.empty [] from rfl, layR_nl _ _ _ _ (.inl rfl), wholeP_cons, bl0]
        rw [List.map_cons] at ih
        exact chk_line w pre [] _ h1 h2 ih
    by_cases c : ((lnX x).length : Int) ≤ w
    · rw [if_pos c, wholeP_app]
      have e2 : wholeP [(tw 121 x, (-1 : Int)), (⟨#[32]⟩, -1), (tw 121 x, -1)] = lnX x := by simp [wholeP, lnX]
      rw [e2]
      exact tailok _ (fun h => (lnX_ascii x _ h).2 rfl) (fun _ => c)
    · rw [if_neg c, wholeP_app]
      have e2 : wholeP [(tw 121 x, (-1 : Int)), (lineT (0 * 0), -1), (tw 121 x, -1)] = (tw 121 x).data.toList ++ 10 :: (tw 121 x).data.toList := by
        simp only [wholeP_cons, bl0]; simp [wholeP]
      rw [e2, List.append_assoc, List.cons_append]
      exact chk_line w _ [] _ (tw_no x) (tw_good w x 121 (by decide)) (tailok _ (tw_no x) (tw_good w x 121 (by decide)))
theorem lnK_rf : ∀ (l : List Int) (j : Nat), ∃ s : List UInt8, rfL (lnK j l) = (s, true) ∧ ∀ c ∈ s, c.toNat < 128 ∧ c ≠ 10
  | [], _ => ⟨[], rfl, fun c h => by cases h⟩
  | x :: l, j => by
    obtain ⟨s, h1, h2⟩ := lnK_rf l (j + 1)
    have e1 : rfL (lnG x :: lnK (j + 1) l) = (lnX x ++ s, true) := by
      rw [rfL, lnG_rf, h1]; rfl
    rw [lnK]
    split
    · refine ⟨lnX x ++ s, by rw [List.nil_append, e1], fun c h => ?_⟩
      rcases List.mem_append.mp h with h | h
      · exact lnX_ascii x c h
      · exact h2 c h
    · refine ⟨32 :: (lnX x ++ s), by rw [List.cons_append, List.nil_append, rfL, e1, lnS, rfS]; rfl, fun c h => ?_⟩
      rcases List.mem_cons.mp h with rfl | h
      · decide
      rcases List.mem_append.mp h with h | h
      · exact lnX_ascii x c h
      · exact h2 c h
theorem ln_plain (l : List Int) (hl : l.length ≤ 40) (w : Int) (hw : 1 ≤ w ∧ w ≤ 60) :
    okD (.mk 6 0 ByteArray.empty (lnK 0 l)) ∧ tot (.mk 6 0 ByteArray.empty (lnK 0 l)) ≤ 1000000 ∧ (pcs (.mk 6 0 ByteArray.empty (lnK 0 l)) w 0).length ≤ 1000000000 ∧ totP (pcs (.mk 6 0 ByteArray.empty (lnK 0 l)) w 0) ≤ 1000000000 ∧
      chk w [] (wholeP (pcs (.mk 6 0 ByteArray.empty (lnK 0 l)) w 0)) := by
  have hm : 100 ≤ maxLen := by decide
  have hlen := lnK_len l 0
  have each := lnK_each l 0
  have ok : okD (.mk 6 0 ByteArray.empty (lnK 0 l)) := ⟨Nat.zero_le _, by show (lnK 0 l).length ≤ maxLen; omega, okDs_of fun d hd => (each d hd).1⟩
  have ht : tots (lnK 0 l) ≤ (lnK 0 l).length * 22 := tots_of fun d hd => (each d hd).2.1
  have hT : tot (.mk 6 0 ByteArray.empty (lnK 0 l)) = 1 + tots (lnK 0 l) := by
    have : ByteArray.empty.size = 0 := rfl
    rw [tot, this]
  have hb := pcs_le w 0 ok 2000 2000 (by have := dsz_tot (.mk 6 0 ByteArray.empty (lnK 0 l)); omega) (by omega)
  have hr : right 200 (.mk 6 0 ByteArray.empty (lnK 0 l)) = true := by
    rw [right, rightC, if_neg (by decide), if_neg (by decide), if_pos (by decide), if_pos ⟨⟨by decide, em0⟩, rfl⟩]
    exact rights_of fun d hd => (each d hd).2.2
  refine ⟨ok, by omega, by omega, by omega, ?_⟩
  have hmw : mx 1 (mn w 1000) = w := by unfold mx mn; split <;> split <;> omega
  have hmi : mx 0 (mn 0 16) = 0 := by decide
  rw [pcs, if_pos hr, rnd, hmw, hmi, layR_grp, List.append_nil]
  obtain ⟨s, s1, s2⟩ := lnK_rf l 0
  have hrf : rfS (.mk 6 0 ByteArray.empty (lnK 0 l)) = (s, true) := by
    rw [rfS, if_neg (by decide), if_neg (by decide), if_neg (by decide), if_neg (by decide), s1]
  have hfit : fitsR w 0 (.mk 6 0 ByteArray.empty (lnK 0 l)) [] = decide ((s.length : Int) ≤ w) := by
    have e0 : fw (.mk 6 0 ByteArray.empty (lnK 0 l)) = (s.length : Int) := by
      rw [fw, flatB, hrf]; exact wide_ascii _ fun c h => (s2 c h).1
    rw [fitsR, hrf, Bool.true_and, e0]
    congr 1
    simp only [sumB, eq_iff_iff]; omega
  rw [hfit]
  by_cases c : (s.length : Int) ≤ w
  · rw [decide_eq_true c, layR_flat _ _ _ _ _ (Nat.le_refl _) (by intro x hx; obtain ⟨d, _, rfl⟩ := List.mem_map.mp hx; rfl), fpR_kids, fps_text _ (by rw [s1]), s1]
    exact chk_last w s [] (fun h => (s2 _ h).2 rfl) (fun _ => c)
  · rw [decide_eq_false c]
    cases l with
    | nil => exact fun h => by cases h
    | cons x l =>
      rw [lnK, if_pos rfl, List.nil_append]
      exact ln_rows w l x
theorem bt_at {S : List UInt8} {i : Nat} {c : UInt8} (h : S[i]? = some c) : bt ⟨S.toArray⟩ (i : Int) = (c.toNat : Int) := by
  rw [bt, Int.toNat_natCast]
  show ((S.getD i 0).toNat : Int) = _
  rw [List.getD_eq_getElem?_getD, h]; rfl
theorem ext121 (n : Nat) (h : n ≤ 15) : (⟨#[121, 121, 121, 121, 121, 121, 121, 121, 121, 121, 121, 121, 121, 121, 121]⟩ : ByteArray).extract 0 n = reps 121 n := by
  have key : ∀ n : Fin 16, (⟨#[121, 121, 121, 121, 121, 121, 121, 121, 121, 121, 121, 121, 121, 121, 121]⟩ : ByteArray).extract 0 n.val = reps 121 n.val := by decide +kernel
  exact key ⟨n, by omega⟩
theorem RenderLines_body (ws : List Int) (w : Int) (h0 : ws.length ≤ maxLen ∧ ∀ x ∈ ws, (Lit.int .i64 x).wf = true) (_ : (Lit.int .i64 w).wf = true) : Body Try.prog G11e (DRun Try.prog G11e) 7 [.d (intsD ws), .d (.v (.int .i64 w))] (vBool true) := by
  refine Body.of Try.func7 Try.ntmps7 (by kernel_rfl) rfl rfl rfl ?_
  simp only [intsD, G11e_at, calmE, F_alive11, F_Pieces, F_PText, AV.flat, AV.flat.flatL, List.length_map, goTG_val, goTG_new, goTG_up, goTG_none, goG_none, goG_new, goG_up, ne_eq, evK, evH, retHF, DRun_mk, runT_nil, runT_none, runT_guard, goT_val, goT_new, goT_store, goTH_true, goTH_false, evO, keys, Option.toList_some, Option.toList_none, nzL_nil, nzL_cons, nz_k, nz_sl, nz_nil, nz_agg, startL, evC, evV, goE_val, goE_new, goE_store, goH_true, goH_false, goG_val, lk_cons, lk_nil, lk_func, lk_int, lk_bool, lk_string, lk_slice, lk_agg, look_mk, St.effOf, eff, effCall, effBin, effUn, effConv, effPick, effNil, effFold, fold1, effLoad, effStore, effFieldAddr, effField, fieldOf, sliceOf, effIndexAddr, effIndex, effLen, effExtract, effSlice, bnd, effBuild, placesOf, effBuildSlice, effMakeSlice, effAppend, srcOf, fillA, chunk, seg, toD, toDs, put, eqAV, fieldsEq, leafEq, strip, unw, allB, selP_or, selP_and, tis, TyD.agg, AV.cells, AV.cell, allCell, vInt, vBool, vStr, subL_nil, subL_cons, upIds, AV.ids, AV.ids.idsL, AObj.ids, drops, Hp.get_cons, get_nil, retF, resL, one, fz, fz.fzL, List.map_cons, List.map_nil, List.nil_append, List.append_nil, List.cons_append, List.all_cons, List.all_nil, List.length_cons, List.length_nil, List.getElem?_cons_zero, List.getElem?_cons_succ, List.getD_cons_zero, List.getD_cons_succ, List.take_succ_cons, List.take_zero, List.drop_succ_cons, List.drop_zero, List.take_nil, List.drop_nil, List.contains_cons, List.contains_nil, Option.getD_some, Option.getD_none, Option.map_some, Option.map_none, if_true, if_false, true_and, and_true, and_self, or_self, or_false, false_or, false_and, and_false, reduceCtorEq, sel_and, sel_or, decide_eq_true_eq, Bool.and_eq_true, Bool.or_eq_true, Bool.and_true, Bool.true_and, Bool.or_false, Bool.false_or, Bool.true_or, Bool.or_true, Bool.not_true, Bool.not_false, Bool.false_eq_true, implies_true, not_false_eq_true, Nat.reduceLT, Nat.reduceEqDiff, Nat.reduceAdd, Nat.reduceMul, Nat.reduceMod, Nat.reduceLeDiff, Nat.reduceBEq, Nat.zero_add, Nat.add_zero, reduceIte, ↓reduceIte, List.not_mem_nil]
  by_cases c : ((ws.length : Int) > 40 ∨ w < 1) ∨ w > 60
  · rw [if_pos c]
    try exact Sub.refl _
  rw [if_neg c]
  refine wpc_loop (fun j : Nat => ⟨106, [100], [(0, .d (intsD ws)), (1, vInt .i64 w), (6, .row 100 (lnK 0 (ws.take j)).length), (7, vInt .i64 j)], [(100, some (.row 24 4 (docNs (lnK 0 (ws.take j)))))]⟩) (fun j => j ≤ ws.length) (fun j => ws.length - j) 0 (Nat.zero_le _) ?_ ?_
  · refine Le.of id [100] ?_
    simp only [intsD, List.take_zero, lnK, docNs, List.length_nil, Mt_tup, Mt_agg, Mt_fn, forall_eq, forall_eq_or_imp, ne_eq, List.all_cons, List.all_nil, pr, Nat.reduceLeDiff, slR_nil, slR_cons, hpR_nil, hpR_cells, hpR_row, idsR_nil, idsR_cons, mtE_v, mtE_sl, mtE_nil, mtE_refl, mtE_row, mtE_born, mtE_ptr, mtE_rp, mtE_agg, mtE_tup, mtE_fn, mtE_ep, MtL_nil, MtL_cons, Mt_v, Mt_sl, Mt_nil, Mt_refl, Mt_row, Mt_born, Mt_ptr, MtO_cells, MtO_row, liveIds, distinct, Dat.v.injEq, Dat.sl.injEq, Value.int.injEq, Value.bool.injEq, Value.string.injEq, lk_cons, lk_nil, subL_nil, subL_cons, upIds, AV.ids, AV.ids.idsL, AObj.ids, Hp.get_cons, get_nil, allCell, AV.cell, vInt, vBool, vStr, id, true_and, and_true, and_self, List.append_nil, List.nil_append, List.not_mem_nil, List.mem_cons, or_false, false_or, or_self, not_true_eq_false, not_false_eq_true, false_imp_iff, false_implies, List.map_nil, not_false_eq_true, List.contains_cons, List.contains_nil, Bool.or_false, Bool.false_or, Bool.true_or, Bool.or_true, Bool.and_true, Bool.true_and, implies_true, if_true, if_false, reduceCtorEq, Nat.reduceEqDiff, Nat.reduceBEq, Nat.reduceAdd, reduceIte, ↓reduceIte]
    first | rfl | exact ⟨rfl, rfl⟩
  · intro j hj
    by_cases hj2 : (j : Int) < ws.length
    · obtain ⟨x, hx⟩ : ∃ x, ws[j]? = some x := ⟨_, List.getElem?_eq_getElem (by omega)⟩
      have hg : ws.getD (j : Int).toNat 0 = x := getD_at hx
      have hjt : (ws.take j).length = j := by rw [List.length_take]; omega
      have hxt : (⟨#[121, 121, 121, 121, 121, 121, 121, 121, 121, 121, 121, 121, 121, 121, 121]⟩ : ByteArray).extract 0 (1 + x % 8).toNat = tw 121 x := ext121 _ (by omega)
      have hkl := lnK_len (ws.take j) 0
      have s1 := lnK_snoc (ws.take j) 0 x
      rw [hjt] at hkl
      rw [hjt, Nat.zero_add, ← take_at hx] at s1
      simp only [intsD, getD_iD, hg, iD, and7, List.length_map, goTG_val, goTG_new, goTG_up, goTG_none, goG_none, goG_new, goG_up, ne_eq, evK, evH, retHF, DRun_mk, runT_nil, runT_none, runT_guard, goT_val, goT_new, goT_store, goTH_true, goTH_false, evO, keys, Option.toList_some, Option.toList_none, nzL_nil, nzL_cons, nz_k, nz_sl, nz_nil, nz_agg, startL, evC, evV, goE_val, goE_new, goE_store, goH_true, goH_false, goG_val, lk_cons, lk_nil, lk_func, lk_int, lk_bool, lk_string, lk_slice, lk_agg, look_mk, St.effOf, eff, effCall, effBin, effUn, effConv, effPick, effNil, effFold, fold1, effLoad, effStore, effFieldAddr, effField, fieldOf, sliceOf, effIndexAddr, effIndex, effLen, effExtract, effSlice, bnd, effBuild, placesOf, effBuildSlice, effMakeSlice, effAppend, srcOf, fillA, chunk, seg, toD, toDs, put, eqAV, fieldsEq, leafEq, strip, unw, allB, selP_or, selP_and, tis, TyD.agg, AV.cells, AV.cell, allCell, vInt, vBool, vStr, subL_nil, subL_cons, upIds, AV.ids, AV.ids.idsL, AObj.ids, drops, Hp.get_cons, get_nil, retF, resL, one, fz, fz.fzL, List.map_cons, List.map_nil, List.nil_append, List.append_nil, List.cons_append, List.all_cons, List.all_nil, List.length_cons, List.length_nil, List.getElem?_cons_zero, List.getElem?_cons_succ, List.getD_cons_zero, List.getD_cons_succ, List.take_succ_cons, List.take_zero, List.drop_succ_cons, List.drop_zero, List.take_nil, List.drop_nil, List.contains_cons, List.contains_nil, Option.getD_some, Option.getD_none, Option.map_some, Option.map_none, if_true, if_false, true_and, and_true, and_self, or_self, or_false, false_or, false_and, and_false, reduceCtorEq, sel_and, sel_or, decide_eq_true_eq, Bool.and_eq_true, Bool.or_eq_true, Bool.and_true, Bool.true_and, Bool.or_false, Bool.false_or, Bool.true_or, Bool.or_true, Bool.not_true, Bool.not_false, Bool.false_eq_true, implies_true, not_false_eq_true, Nat.reduceLT, Nat.reduceEqDiff, Nat.reduceAdd, Nat.reduceMul, Nat.reduceMod, Nat.reduceLeDiff, Nat.reduceBEq, Nat.zero_add, Nat.add_zero, reduceIte, ↓reduceIte, List.not_mem_nil]
      rw [if_pos hj2, w64 (n := 1 + x % 8) (by omega) (by omega), show Int.toNat 0 = 0 from rfl, hxt]
      refine ⟨by omega, ⟨by decide, by omega, by show (1 + x % 8 : Int) ≤ 15; omega⟩, ?_⟩
      by_cases hj3 : (j : Int) > 0
      · rw [if_neg (show ¬ j = 0 by omega)] at s1
        rw [if_pos hj3]
        simp only [docNs_len, List.length_append, List.length_cons, List.length_nil] at *
        refine ⟨by omega, by omega, j + 1, by omega, by omega, Le.of (fun _ => 61) [] ?_⟩
        rw [s1]
        simp only [intsD, lnS, lnG, lnT, docNs_app, docNs_len, docNs, docN, List.length_append, List.length_cons, List.length_nil, List.append_assoc, List.cons_append, List.nil_append, Mt_tup, Mt_agg, Mt_fn, forall_eq, forall_eq_or_imp, ne_eq, List.all_cons, List.all_nil, pr, Nat.reduceLeDiff, slR_nil, slR_cons, hpR_nil, hpR_cells, hpR_row, idsR_nil, idsR_cons, mtE_v, mtE_sl, mtE_nil, mtE_refl, mtE_row, mtE_born, mtE_ptr, mtE_rp, mtE_agg, mtE_tup, mtE_fn, mtE_ep, MtL_nil, MtL_cons, Mt_v, Mt_sl, Mt_nil, Mt_refl, Mt_row, Mt_born, Mt_ptr, MtO_cells, MtO_row, liveIds, distinct, Dat.v.injEq, Dat.sl.injEq, Value.int.injEq, Value.bool.injEq, Value.string.injEq, lk_cons, lk_nil, subL_nil, subL_cons, upIds, AV.ids, AV.ids.idsL, AObj.ids, Hp.get_cons, get_nil, allCell, AV.cell, vInt, vBool, vStr, id, true_and, and_true, and_self, List.append_nil, List.nil_append, List.not_mem_nil, List.mem_cons, or_false, false_or, or_self, not_true_eq_false, not_false_eq_true, false_imp_iff, false_implies, List.map_nil, not_false_eq_true, List.contains_cons, List.contains_nil, Bool.or_false, Bool.false_or, Bool.true_or, Bool.or_true, Bool.and_true, Bool.true_and, implies_true, if_true, if_false, reduceCtorEq, Nat.reduceEqDiff, Nat.reduceBEq, Nat.reduceAdd, reduceIte, ↓reduceIte]
        exact w64 (by omega) (by omega)
      · rw [if_pos (show j = 0 by omega)] at s1
        rw [if_neg hj3]
        simp only [docNs_len, List.length_append, List.length_cons, List.length_nil] at *
        refine ⟨by omega, j + 1, by omega, by omega, Le.of (fun _ => 61) [] ?_⟩
        rw [s1]
        simp only [intsD, lnS, lnG, lnT, docNs_app, docNs_len, docNs, docN, List.length_append, List.length_cons, List.length_nil, List.append_assoc, List.cons_append, List.nil_append, Mt_tup, Mt_agg, Mt_fn, forall_eq, forall_eq_or_imp, ne_eq, List.all_cons, List.all_nil, pr, Nat.reduceLeDiff, slR_nil, slR_cons, hpR_nil, hpR_cells, hpR_row, idsR_nil, idsR_cons, mtE_v, mtE_sl, mtE_nil, mtE_refl, mtE_row, mtE_born, mtE_ptr, mtE_rp, mtE_agg, mtE_tup, mtE_fn, mtE_ep, MtL_nil, MtL_cons, Mt_v, Mt_sl, Mt_nil, Mt_refl, Mt_row, Mt_born, Mt_ptr, MtO_cells, MtO_row, liveIds, distinct, Dat.v.injEq, Dat.sl.injEq, Value.int.injEq, Value.bool.injEq, Value.string.injEq, lk_cons, lk_nil, subL_nil, subL_cons, upIds, AV.ids, AV.ids.idsL, AObj.ids, Hp.get_cons, get_nil, allCell, AV.cell, vInt, vBool, vStr, id, true_and, and_true, and_self, List.append_nil, List.nil_append, List.not_mem_nil, List.mem_cons, or_false, false_or, or_self, not_true_eq_false, not_false_eq_true, false_imp_iff, false_implies, List.map_nil, not_false_eq_true, List.contains_cons, List.contains_nil, Bool.or_false, Bool.false_or, Bool.true_or, Bool.or_true, Bool.and_true, Bool.true_and, implies_true, if_true, if_false, reduceCtorEq, Nat.reduceEqDiff, Nat.reduceBEq, Nat.reduceAdd, reduceIte, ↓reduceIte]
        exact w64 (by omega) (by omega)
    · simp only [intsD, List.length_map, goTG_val, goTG_new, goTG_up, goTG_none, goG_none, goG_new, goG_up, ne_eq, evK, evH, retHF, DRun_mk, runT_nil, runT_none, runT_guard, goT_val, goT_new, goT_store, goTH_true, goTH_false, evO, keys, Option.toList_some, Option.toList_none, nzL_nil, nzL_cons, nz_k, nz_sl, nz_nil, nz_agg, startL, evC, evV, goE_val, goE_new, goE_store, goH_true, goH_false, goG_val, lk_cons, lk_nil, lk_func, lk_int, lk_bool, lk_string, lk_slice, lk_agg, look_mk, St.effOf, eff, effCall, effBin, effUn, effConv, effPick, effNil, effFold, fold1, effLoad, effStore, effFieldAddr, effField, fieldOf, sliceOf, effIndexAddr, effIndex, effLen, effExtract, effSlice, bnd, effBuild, placesOf, effBuildSlice, effMakeSlice, effAppend, srcOf, fillA, chunk, seg, toD, toDs, put, eqAV, fieldsEq, leafEq, strip, unw, allB, selP_or, selP_and, tis, TyD.agg, AV.cells, AV.cell, allCell, vInt, vBool, vStr, subL_nil, subL_cons, upIds, AV.ids, AV.ids.idsL, AObj.ids, drops, Hp.get_cons, get_nil, retF, resL, one, fz, fz.fzL, List.map_cons, List.map_nil, List.nil_append, List.append_nil, List.cons_append, List.all_cons, List.all_nil, List.length_cons, List.length_nil, List.getElem?_cons_zero, List.getElem?_cons_succ, List.getD_cons_zero, List.getD_cons_succ, List.take_succ_cons, List.take_zero, List.drop_succ_cons, List.drop_zero, List.take_nil, List.drop_nil, List.contains_cons, List.contains_nil, Option.getD_some, Option.getD_none, Option.map_some, Option.map_none, if_true, if_false, true_and, and_true, and_self, or_self, or_false, false_or, false_and, and_false, reduceCtorEq, sel_and, sel_or, decide_eq_true_eq, Bool.and_eq_true, Bool.or_eq_true, Bool.and_true, Bool.true_and, Bool.or_false, Bool.false_or, Bool.true_or, Bool.or_true, Bool.not_true, Bool.not_false, Bool.false_eq_true, implies_true, not_false_eq_true, Nat.reduceLT, Nat.reduceEqDiff, Nat.reduceAdd, Nat.reduceMul, Nat.reduceMod, Nat.reduceLeDiff, Nat.reduceBEq, Nat.zero_add, Nat.add_zero, reduceIte, ↓reduceIte, List.not_mem_nil]
      rw [if_neg hj2]
      obtain rfl : j = ws.length := by omega
      try rw [List.take_of_length_le (Nat.le_refl _)]
      obtain ⟨p1, p2, p3, p4, p5⟩ := ln_plain ws (by omega) w (by omega)
      simp only [intsD, G11e_at, calmE, F_alive11, F_Pieces, F_PText, nz_r, nz_s2, nnR, nnC, nn, nn_docs, docsOf_map, pcs_map, pcOf_map, AV.flat, AV.flat.flatL, List.length_map, goTG_val, goTG_new, goTG_up, goTG_none, goG_none, goG_new, goG_up, ne_eq, evK, evH, retHF, DRun_mk, runT_nil, runT_none, runT_guard, goT_val, goT_new, goT_store, goTH_true, goTH_false, evO, keys, Option.toList_some, Option.toList_none, nzL_nil, nzL_cons, nz_k, nz_sl, nz_nil, nz_agg, startL, evC, evV, goE_val, goE_new, goE_store, goH_true, goH_false, goG_val, lk_cons, lk_nil, lk_func, lk_int, lk_bool, lk_string, lk_slice, lk_agg, look_mk, St.effOf, eff, effCall, effBin, effUn, effConv, effPick, effNil, effFold, fold1, effLoad, effStore, effFieldAddr, effField, fieldOf, sliceOf, effIndexAddr, effIndex, effLen, effExtract, effSlice, bnd, effBuild, placesOf, effBuildSlice, effMakeSlice, effAppend, srcOf, fillA, chunk, seg, toD, toDs, put, eqAV, fieldsEq, leafEq, strip, unw, allB, selP_or, selP_and, tis, TyD.agg, AV.cells, AV.cell, allCell, vInt, vBool, vStr, subL_nil, subL_cons, upIds, AV.ids, AV.ids.idsL, AObj.ids, drops, Hp.get_cons, get_nil, retF, resL, one, fz, fz.fzL, List.map_cons, List.map_nil, List.nil_append, List.append_nil, List.cons_append, List.all_cons, List.all_nil, List.length_cons, List.length_nil, List.getElem?_cons_zero, List.getElem?_cons_succ, List.getD_cons_zero, List.getD_cons_succ, List.take_succ_cons, List.take_zero, List.drop_succ_cons, List.drop_zero, List.take_nil, List.drop_nil, List.contains_cons, List.contains_nil, Option.getD_some, Option.getD_none, Option.map_some, Option.map_none, if_true, if_false, true_and, and_true, and_self, or_self, or_false, false_or, false_and, and_false, reduceCtorEq, sel_and, sel_or, decide_eq_true_eq, Bool.and_eq_true, Bool.or_eq_true, Bool.and_true, Bool.true_and, Bool.or_false, Bool.false_or, Bool.true_or, Bool.or_true, Bool.not_true, Bool.not_false, Bool.false_eq_true, implies_true, not_false_eq_true, Nat.reduceLT, Nat.reduceEqDiff, Nat.reduceAdd, Nat.reduceMul, Nat.reduceMod, Nat.reduceLeDiff, Nat.reduceBEq, Nat.zero_add, Nat.add_zero, reduceIte, ↓reduceIte, List.not_mem_nil]
      refine ⟨⟨p1, p2⟩, ⟨p3, p4⟩, ?_⟩
      have hl := wholeP_len (pcs (.mk 6 0 ByteArray.empty (lnK 0 ws)) w 0)
      rw [← hl] at p4
      generalize wholeP (pcs (.mk 6 0 ByteArray.empty (lnK 0 ws)) w 0) = S at p4 p5 ⊢
      refine wpc_loop (fun q : Nat × Nat => ⟨106, [], [(1, vInt .i64 w), (10, vStr ⟨S.toArray⟩), (11, vInt .i64 q.1), (12, vInt .i64 q.2)], []⟩) (fun q => q.1 ≤ q.2 ∧ q.2 ≤ S.length + 1 ∧ (q.2 ≤ S.length → chk w ((S.take q.2).drop q.1) (S.drop q.2))) (fun q => S.length + 1 - q.2) (0, 0) ⟨Nat.le_refl _, Nat.zero_le _, fun _ => p5⟩ ?_ ?_
      · refine Le.of id [] ?_
        simp only [Mt_tup, Mt_agg, Mt_fn, forall_eq, forall_eq_or_imp, ne_eq, List.all_cons, List.all_nil, pr, Nat.reduceLeDiff, slR_nil, slR_cons, hpR_nil, hpR_cells, hpR_row, idsR_nil, idsR_cons, mtE_v, mtE_sl, mtE_nil, mtE_refl, mtE_row, mtE_born, mtE_ptr, mtE_rp, mtE_agg, mtE_tup, mtE_fn, mtE_ep, MtL_nil, MtL_cons, Mt_v, Mt_sl, Mt_nil, Mt_refl, Mt_row, Mt_born, Mt_ptr, MtO_cells, MtO_row, liveIds, distinct, Dat.v.injEq, Dat.sl.injEq, Value.int.injEq, Value.bool.injEq, Value.string.injEq, lk_cons, lk_nil, subL_nil, subL_cons, upIds, AV.ids, AV.ids.idsL, AObj.ids, Hp.get_cons, get_nil, allCell, AV.cell, vInt, vBool, vStr, id, true_and, and_true, and_self, List.append_nil, List.nil_append, List.not_mem_nil, List.mem_cons, or_false, false_or, or_self, not_true_eq_false, not_false_eq_true, false_imp_iff, false_implies, List.map_nil, not_false_eq_true, List.contains_cons, List.contains_nil, Bool.or_false, Bool.false_or, Bool.true_or, Bool.or_true, Bool.and_true, Bool.true_and, implies_true, if_true, if_false, reduceCtorEq, Nat.reduceEqDiff, Nat.reduceBEq, Nat.reduceAdd, reduceIte, ↓reduceIte]
        first | rfl | exact ⟨rfl, rfl⟩
      · rintro ⟨f, i⟩ ⟨hf, hi, hc⟩
        simp only [] at hf hi hc
        simp only [ba_size, goTG_val, goTG_new, goTG_up, goTG_none, goG_none, goG_new, goG_up, ne_eq, evK, evH, retHF, DRun_mk, runT_nil, runT_none, runT_guard, goT_val, goT_new, goT_store, goTH_true, goTH_false, evO, keys, Option.toList_some, Option.toList_none, nzL_nil, nzL_cons, nz_k, nz_sl, nz_nil, nz_agg, startL, evC, evV, goE_val, goE_new, goE_store, goH_true, goH_false, goG_val, lk_cons, lk_nil, lk_func, lk_int, lk_bool, lk_string, lk_slice, lk_agg, look_mk, St.effOf, eff, effCall, effBin, effUn, effConv, effPick, effNil, effFold, fold1, effLoad, effStore, effFieldAddr, effField, fieldOf, sliceOf, effIndexAddr, effIndex, effLen, effExtract, effSlice, bnd, effBuild, placesOf, effBuildSlice, effMakeSlice, effAppend, srcOf, fillA, chunk, seg, toD, toDs, put, eqAV, fieldsEq, leafEq, strip, unw, allB, selP_or, selP_and, tis, TyD.agg, AV.cells, AV.cell, allCell, vInt, vBool, vStr, subL_nil, subL_cons, upIds, AV.ids, AV.ids.idsL, AObj.ids, drops, Hp.get_cons, get_nil, retF, resL, one, fz, fz.fzL, List.map_cons, List.map_nil, List.nil_append, List.append_nil, List.cons_append, List.all_cons, List.all_nil, List.length_cons, List.length_nil, List.getElem?_cons_zero, List.getElem?_cons_succ, List.getD_cons_zero, List.getD_cons_succ, List.take_succ_cons, List.take_zero, List.drop_succ_cons, List.drop_zero, List.take_nil, List.drop_nil, List.contains_cons, List.contains_nil, Option.getD_some, Option.getD_none, Option.map_some, Option.map_none, if_true, if_false, true_and, and_true, and_self, or_self, or_false, false_or, false_and, and_false, reduceCtorEq, sel_and, sel_or, decide_eq_true_eq, Bool.and_eq_true, Bool.or_eq_true, Bool.and_true, Bool.true_and, Bool.or_false, Bool.false_or, Bool.true_or, Bool.or_true, Bool.not_true, Bool.not_false, Bool.false_eq_true, implies_true, not_false_eq_true, Nat.reduceLT, Nat.reduceEqDiff, Nat.reduceAdd, Nat.reduceMul, Nat.reduceMod, Nat.reduceLeDiff, Nat.reduceBEq, Nat.zero_add, Nat.add_zero, reduceIte, ↓reduceIte, List.not_mem_nil]
        by_cases hi2 : (i : Int) ≤ S.length
        · rw [if_pos hi2]
          have hc := hc (by omega)
          have hfi : ∀ c, S[i]? = some c → (S.take (i + 1)).drop f = (S.take i).drop f ++ [c] := fun c h => by
            have hle := (List.getElem?_eq_some_iff.mp h).1
            rw [take_at h, List.drop_append_of_le_length (by rw [List.length_take]; omega)]
          refine ⟨fun _ => by omega, ?_⟩
          by_cases hA : (i : Int) < S.length ∧ (bt ⟨S.toArray⟩ (i : Int) != 10) = true
          · rw [if_pos hA]
            obtain ⟨c, hci⟩ : ∃ c, S[i]? = some c := ⟨_, List.getElem?_eq_getElem (by omega)⟩
            have hne : c ≠ 10 := fun e => by
              have := hA.2
              rw [bt_at hci, e] at this
              exact absurd this (by decide)
            rw [drop_at hci, chk, if_neg hne] at hc
            refine ⟨(f, i + 1), by simp only []; omega, ⟨by simp only []; omega, by simp only []; omega, fun _ => by simp only []; rw [hfi c hci]; exact hc⟩, Le.of id [] ?_⟩
            simp only [Mt_tup, Mt_agg, Mt_fn, forall_eq, forall_eq_or_imp, ne_eq, List.all_cons, List.all_nil, pr, Nat.reduceLeDiff, slR_nil, slR_cons, hpR_nil, hpR_cells, hpR_row, idsR_nil, idsR_cons, mtE_v, mtE_sl, mtE_nil, mtE_refl, mtE_row, mtE_born, mtE_ptr, mtE_rp, mtE_agg, mtE_tup, mtE_fn, mtE_ep, MtL_nil, MtL_cons, Mt_v, Mt_sl, Mt_nil, Mt_refl, Mt_row, Mt_born, Mt_ptr, MtO_cells, MtO_row, liveIds, distinct, Dat.v.injEq, Dat.sl.injEq, Value.int.injEq, Value.bool.injEq, Value.string.injEq, lk_cons, lk_nil, subL_nil, subL_cons, upIds, AV.ids, AV.ids.idsL, AObj.ids, Hp.get_cons, get_nil, allCell, AV.cell, vInt, vBool, vStr, id, true_and, and_true, and_self, List.append_nil, List.nil_append, List.not_mem_nil, List.mem_cons, or_false, false_or, or_self, not_true_eq_false, not_false_eq_true, false_imp_iff, false_implies, List.map_nil, not_false_eq_true, List.contains_cons, List.contains_nil, Bool.or_false, Bool.false_or, Bool.true_or, Bool.or_true, Bool.and_true, Bool.true_and, implies_true, if_true, if_false, reduceCtorEq, Nat.reduceEqDiff, Nat.reduceBEq, Nat.reduceAdd, reduceIte, ↓reduceIte]
            exact w64 (by omega) (by omega)
          · rw [if_neg hA]
            have hgood : goodL w ((S.take i).drop f) ∧ (i + 1 ≤ S.length → chk w [] (S.drop (i + 1))) := by
              by_cases hB : i < S.length
              · obtain ⟨c, hci⟩ : ∃ c, S[i]? = some c := ⟨_, List.getElem?_eq_getElem hB⟩
                have he : c = 10 := by
                  have h1 : ¬ (bt ⟨S.toArray⟩ (i : Int) != 10) = true := fun h => hA ⟨by omega, h⟩
                  rw [bt_at hci] at h1
                  have h2 : (c.toNat : Int) = 10 := by simpa using h1
                  exact UInt8.toNat_inj.mp (by rw [show (10 : UInt8).toNat = 10 from rfl]; omega)
                rw [drop_at hci, chk, if_pos he] at hc
                exact ⟨hc.1, fun _ => hc.2⟩
              · have hd0 : S.drop i = [] := List.drop_eq_nil_of_le (by omega)
                rw [hd0] at hc
                exact ⟨hc, fun h => by omega⟩
            refine wpc_loop (fun k : Nat => ⟨106, [], [(1, vInt .i64 w), (10, vStr ⟨S.toArray⟩), (11, vInt .i64 f), (12, vInt .i64 i), (13, vBool (((S.take k).drop f).contains 32)), (14, vInt .i64 k)], []⟩) (fun k => f ≤ k ∧ k ≤ i) (fun k => i - k) f ⟨Nat.le_refl _, hf⟩ ?_ ?_
            · refine Le.of id [] ?_
              simp only [Mt_tup, Mt_agg, Mt_fn, forall_eq, forall_eq_or_imp, ne_eq, List.all_cons, List.all_nil, pr, Nat.reduceLeDiff, slR_nil, slR_cons, hpR_nil, hpR_cells, hpR_row, idsR_nil, idsR_cons, mtE_v, mtE_sl, mtE_nil, mtE_refl, mtE_row, mtE_born, mtE_ptr, mtE_rp, mtE_agg, mtE_tup, mtE_fn, mtE_ep, MtL_nil, MtL_cons, Mt_v, Mt_sl, Mt_nil, Mt_refl, Mt_row, Mt_born, Mt_ptr, MtO_cells, MtO_row, liveIds, distinct, Dat.v.injEq, Dat.sl.injEq, Value.int.injEq, Value.bool.injEq, Value.string.injEq, lk_cons, lk_nil, subL_nil, subL_cons, upIds, AV.ids, AV.ids.idsL, AObj.ids, Hp.get_cons, get_nil, allCell, AV.cell, vInt, vBool, vStr, id, true_and, and_true, and_self, List.append_nil, List.nil_append, List.not_mem_nil, List.mem_cons, or_false, false_or, or_self, not_true_eq_false, not_false_eq_true, false_imp_iff, false_implies, List.map_nil, not_false_eq_true, List.contains_cons, List.contains_nil, Bool.or_false, Bool.false_or, Bool.true_or, Bool.or_true, Bool.and_true, Bool.true_and, implies_true, if_true, if_false, reduceCtorEq, Nat.reduceEqDiff, Nat.reduceBEq, Nat.reduceAdd, reduceIte, ↓reduceIte]
              rw [List.drop_eq_nil_of_le (by rw [List.length_take]; omega)]
              first | rfl | exact ⟨rfl, rfl⟩
            · rintro k ⟨hk1, hk2⟩
              by_cases hk3 : (k : Int) < i
              · obtain ⟨c, hck⟩ : ∃ c, S[k]? = some c := ⟨_, List.getElem?_eq_getElem (by omega)⟩
                simp only [ba_size, goTG_val, goTG_new, goTG_up, goTG_none, goG_none, goG_new, goG_up, ne_eq, evK, evH, retHF, DRun_mk, runT_nil, runT_none, runT_guard, goT_val, goT_new, goT_store, goTH_true, goTH_false, evO, keys, Option.toList_some, Option.toList_none, nzL_nil, nzL_cons, nz_k, nz_sl, nz_nil, nz_agg, startL, evC, evV, goE_val, goE_new, goE_store, goH_true, goH_false, goG_val, lk_cons, lk_nil, lk_func, lk_int, lk_bool, lk_string, lk_slice, lk_agg, look_mk, St.effOf, eff, effCall, effBin, effUn, effConv, effPick, effNil, effFold, fold1, effLoad, effStore, effFieldAddr, effField, fieldOf, sliceOf, effIndexAddr, effIndex, effLen, effExtract, effSlice, bnd, effBuild, placesOf, effBuildSlice, effMakeSlice, effAppend, srcOf, fillA, chunk, seg, toD, toDs, put, eqAV, fieldsEq, leafEq, strip, unw, allB, selP_or, selP_and, tis, TyD.agg, AV.cells, AV.cell, allCell, vInt, vBool, vStr, subL_nil, subL_cons, upIds, AV.ids, AV.ids.idsL, AObj.ids, drops, Hp.get_cons, get_nil, retF, resL, one, fz, fz.fzL, List.map_cons, List.map_nil, List.nil_append, List.append_nil, List.cons_append, List.all_cons, List.all_nil, List.length_cons, List.length_nil, List.getElem?_cons_zero, List.getElem?_cons_succ, List.getD_cons_zero, List.getD_cons_succ, List.take_succ_cons, List.take_zero, List.drop_succ_cons, List.drop_zero, List.take_nil, List.drop_nil, List.contains_cons, List.contains_nil, Option.getD_some, Option.getD_none, Option.map_some, Option.map_none, if_true, if_false, true_and, and_true, and_self, or_self, or_false, false_or, false_and, and_false, reduceCtorEq, sel_and, sel_or, decide_eq_true_eq, Bool.and_eq_true, Bool.or_eq_true, Bool.and_true, Bool.true_and, Bool.or_false, Bool.false_or, Bool.true_or, Bool.or_true, Bool.not_true, Bool.not_false, Bool.false_eq_true, implies_true, not_false_eq_true, Nat.reduceLT, Nat.reduceEqDiff, Nat.reduceAdd, Nat.reduceMul, Nat.reduceMod, Nat.reduceLeDiff, Nat.reduceBEq, Nat.zero_add, Nat.add_zero, reduceIte, ↓reduceIte, List.not_mem_nil]
                rw [if_pos hk3]
                refine ⟨fun _ => by omega, k + 1, by omega, ⟨by omega, by omega⟩, Le.of id [] ?_⟩
                have e1 : (S.take (k + 1)).drop f = (S.take k).drop f ++ [c] := by
                  rw [take_at hck, List.drop_append_of_le_length (by rw [List.length_take]; omega)]
                rw [e1, bt_at hck]
                simp only [Mt_tup, Mt_agg, Mt_fn, forall_eq, forall_eq_or_imp, ne_eq, List.all_cons, List.all_nil, pr, Nat.reduceLeDiff, slR_nil, slR_cons, hpR_nil, hpR_cells, hpR_row, idsR_nil, idsR_cons, mtE_v, mtE_sl, mtE_nil, mtE_refl, mtE_row, mtE_born, mtE_ptr, mtE_rp, mtE_agg, mtE_tup, mtE_fn, mtE_ep, MtL_nil, MtL_cons, Mt_v, Mt_sl, Mt_nil, Mt_refl, Mt_row, Mt_born, Mt_ptr, MtO_cells, MtO_row, liveIds, distinct, Dat.v.injEq, Dat.sl.injEq, Value.int.injEq, Value.bool.injEq, Value.string.injEq, lk_cons, lk_nil, subL_nil, subL_cons, upIds, AV.ids, AV.ids.idsL, AObj.ids, Hp.get_cons, get_nil, allCell, AV.cell, vInt, vBool, vStr, id, true_and, and_true, and_self, List.append_nil, List.nil_append, List.not_mem_nil, List.mem_cons, or_false, false_or, or_self, not_true_eq_false, not_false_eq_true, false_imp_iff, false_implies, List.map_nil, not_false_eq_true, List.contains_cons, List.contains_nil, Bool.or_false, Bool.false_or, Bool.true_or, Bool.or_true, Bool.and_true, Bool.true_and, implies_true, if_true, if_false, reduceCtorEq, Nat.reduceEqDiff, Nat.reduceBEq, Nat.reduceAdd, reduceIte, ↓reduceIte]
                refine ⟨?_, w64 (by omega) (by omega)⟩
                have e2 : ((S.take k).drop f ++ [c]).contains 32 = (((S.take k).drop f).contains 32 || (c.toNat : Int) == 32) := by
                  rw [List.contains_eq_any_beq, List.contains_eq_any_beq, List.any_append]
                  congr 1
                  rw [Bool.eq_iff_iff]
                  simp only [List.any_cons, List.any_nil, Bool.or_false, beq_iff_eq]
                  exact ⟨fun h => by rw [← h]; rfl, fun h => UInt8.toNat_inj.mp (by rw [show (32 : UInt8).toNat = 32 from rfl]; omega)⟩
                rw [e2]
              · simp only [ba_size, goTG_val, goTG_new, goTG_up, goTG_none, goG_none, goG_new, goG_up, ne_eq, evK, evH, retHF, DRun_mk, runT_nil, runT_none, runT_guard, goT_val, goT_new, goT_store, goTH_true, goTH_false, evO, keys, Option.toList_some, Option.toList_none, nzL_nil, nzL_cons, nz_k, nz_sl, nz_nil, nz_agg, startL, evC, evV, goE_val, goE_new, goE_store, goH_true, goH_false, goG_val, lk_cons, lk_nil, lk_func, lk_int, lk_bool, lk_string, lk_slice, lk_agg, look_mk, St.effOf, eff, effCall, effBin, effUn, effConv, effPick, effNil, effFold, fold1, effLoad, effStore, effFieldAddr, effField, fieldOf, sliceOf, effIndexAddr, effIndex, effLen, effExtract, effSlice, bnd, effBuild, placesOf, effBuildSlice, effMakeSlice, effAppend, srcOf, fillA, chunk, seg, toD, toDs, put, eqAV, fieldsEq, leafEq, strip, unw, allB, selP_or, selP_and, tis, TyD.agg, AV.cells, AV.cell, allCell, vInt, vBool, vStr, subL_nil, subL_cons, upIds, AV.ids, AV.ids.idsL, AObj.ids, drops, Hp.get_cons, get_nil, retF, resL, one, fz, fz.fzL, List.map_cons, List.map_nil, List.nil_append, List.append_nil, List.cons_append, List.all_cons, List.all_nil, List.length_cons, List.length_nil, List.getElem?_cons_zero, List.getElem?_cons_succ, List.getD_cons_zero, List.getD_cons_succ, List.take_succ_cons, List.take_zero, List.drop_succ_cons, List.drop_zero, List.take_nil, List.drop_nil, List.contains_cons, List.contains_nil, Option.getD_some, Option.getD_none, Option.map_some, Option.map_none, if_true, if_false, true_and, and_true, and_self, or_self, or_false, false_or, false_and, and_false, reduceCtorEq, sel_and, sel_or, decide_eq_true_eq, Bool.and_eq_true, Bool.or_eq_true, Bool.and_true, Bool.true_and, Bool.or_false, Bool.false_or, Bool.true_or, Bool.or_true, Bool.not_true, Bool.not_false, Bool.false_eq_true, implies_true, not_false_eq_true, Nat.reduceLT, Nat.reduceEqDiff, Nat.reduceAdd, Nat.reduceMul, Nat.reduceMod, Nat.reduceLeDiff, Nat.reduceBEq, Nat.zero_add, Nat.add_zero, reduceIte, ↓reduceIte, List.not_mem_nil]
                rw [if_neg hk3]
                obtain rfl : k = i := by omega
                have hfk : ((S.take k).drop f).length = k - f := by rw [List.length_drop, List.length_take]; omega
                rw [w64 (n := (k : Int) - f) (by omega) (by omega)]
                rw [if_neg (fun h => by
                  have h1 := hgood.1 (List.contains_iff_mem.mp h.2)
                  rw [hfk] at h1
                  have h2 := h.1
                  omega)]
                refine ⟨(k + 1, k + 1), by simp only []; omega, ⟨Nat.le_refl _, by simp only []; omega, fun h => ?_⟩, Le.of id [] ?_⟩
                · simp only [] at h ⊢
                  rw [List.drop_eq_nil_of_le (by rw [List.length_take]; omega)]
                  exact hgood.2 h
                · simp only [Mt_tup, Mt_agg, Mt_fn, forall_eq, forall_eq_or_imp, ne_eq, List.all_cons, List.all_nil, pr, Nat.reduceLeDiff, slR_nil, slR_cons, hpR_nil, hpR_cells, hpR_row, idsR_nil, idsR_cons, mtE_v, mtE_sl, mtE_nil, mtE_refl, mtE_row, mtE_born, mtE_ptr, mtE_rp, mtE_agg, mtE_tup, mtE_fn, mtE_ep, MtL_nil, MtL_cons, Mt_v, Mt_sl, Mt_nil, Mt_refl, Mt_row, Mt_born, Mt_ptr, MtO_cells, MtO_row, liveIds, distinct, Dat.v.injEq, Dat.sl.injEq, Value.int.injEq, Value.bool.injEq, Value.string.injEq, lk_cons, lk_nil, subL_nil, subL_cons, upIds, AV.ids, AV.ids.idsL, AObj.ids, Hp.get_cons, get_nil, allCell, AV.cell, vInt, vBool, vStr, id, true_and, and_true, and_self, List.append_nil, List.nil_append, List.not_mem_nil, List.mem_cons, or_false, false_or, or_self, not_true_eq_false, not_false_eq_true, false_imp_iff, false_implies, List.map_nil, not_false_eq_true, List.contains_cons, List.contains_nil, Bool.or_false, Bool.false_or, Bool.true_or, Bool.or_true, Bool.and_true, Bool.true_and, implies_true, if_true, if_false, reduceCtorEq, Nat.reduceEqDiff, Nat.reduceBEq, Nat.reduceAdd, reduceIte, ↓reduceIte]
                  first | exact w64 (by omega) (by omega) | exact ⟨w64 (by omega) (by omega), w64 (by omega) (by omega)⟩
        · rw [if_neg hi2]
          try exact Sub.refl _
end Go.Proofs.Ythcgkfgkknofnaa.Eng
