/- Segments further down, on the small machine. -/
import Derived.Test.YtgbialeahdoelaaSMw
namespace Go.Proofs.Ytgbialeahdoelaa.Eng
open Go Go.Proofs.Ytgbialeahdoelaa.Base
set_option maxRecDepth 100000
set_option linter.unusedSimpArgs false
set_option linter.unusedVariables false
/-- A text's bytes behind its first segment. -/
def skipS : List UInt8 → List UInt8
  | [] => []
  | c :: l => if c = 59 then skipS l else c :: l
def skipW : List UInt8 → List UInt8
  | [] => []
  | c :: l => if c = 59 ∨ c = 44 then c :: l else skipW l
def tailB (l : List UInt8) : List UInt8 := skipW (skipS l)
theorem skipS_rep (n : Nat) (l : List UInt8) : skipS (List.replicate n 59 ++ l) = skipS l := by
  induction n with
  | zero => rfl
  | succ n ih => rw [List.replicate_succ, List.cons_append, skipS, if_pos rfl, ih]
theorem skipW_in : ∀ {a : List UInt8} (_ : ∀ c ∈ a, ¬ (c = 59 ∨ c = 44)) (l : List UInt8), skipW (a ++ l) = skipW l
  | [], _, l => rfl
  | c :: a, h, l => by
    rw [List.cons_append, skipW, if_neg (h c List.mem_cons_self), skipW_in (fun x hx => h x (List.mem_cons_of_mem _ hx))]
theorem skipW_stop {l : List UInt8} (h : l = [] ∨ ∃ c t, l = c :: t ∧ (c = 59 ∨ c = 44)) : skipW l = l := by
  rcases h with rfl | ⟨c, t, rfl, h⟩
  · rfl
  · rw [skipW, if_pos h]
/-- Digits are no marks. -/
theorem dig_in {n : Nat} (h : n < 64) : ∀ c ∈ (dig n).data.toList, ¬ (c = 59 ∨ c = 44) := by
  have key : ∀ k : Fin 64, ∀ c ∈ (dig k.val).data.toList, ¬ (c = 59 ∨ c = 44) := by decide +kernel
  exact key ⟨n, h⟩
theorem vd_in (k : Nat) : ∀ x : Nat, x < 32 ^ (k + 1) → ∀ c ∈ (vd x).data.toList, ¬ (c = 59 ∨ c = 44) := by
  induction k with
  | zero => intro x h; rw [vd_lo (by simpa using h)]; exact dig_in (by simp at h; omega)
  | succ k ih =>
    intro x h
    by_cases h1 : x < 32
    · rw [vd_lo h1]; exact dig_in (by omega)
    · rw [vd_hi h1]
      intro c hc
      rw [ByteArray.data_append, Array.toList_append, List.mem_append] at hc
      rcases hc with hc | hc
      · exact dig_in (by omega) c hc
      · exact ih (x / 32) (by rw [Nat.pow_succ] at h; exact Nat.div_lt_of_lt_mul (by rw [Nat.mul_comm]; exact h)) c hc
theorem vq_in (n : Int) : ∀ c ∈ (vq n).data.toList, ¬ (c = 59 ∨ c = 44) := by
  unfold vq
  split
  · intro c hc; simp at hc
  · rename_i h; exact vd_in 8 _ (vx_lt h)
theorem nums_in (l : List Int) : ∀ c ∈ l.flatMap (fun n => (vq n).data.toList), ¬ (c = 59 ∨ c = 44) := fun c hc => by
  obtain ⟨n, _, h⟩ := List.mem_flatMap.mp hc
  exact vq_in n c h
theorem vd_ne (k : Nat) (x : Nat) (h : x < 32 ^ (k + 1)) : (vd x).data.toList ≠ [] := fun e => by
  have := (vd_size k x h).1
  rw [← size_toList, e] at this
  simp at this
theorem skipS_in {a : List UInt8} (h : ∀ c ∈ a, ¬ (c = 59 ∨ c = 44)) (hne : a ≠ []) (l : List UInt8) : skipS (a ++ l) = a ++ l := by
  cases a with
  | nil => exact absurd rfl hne
  | cons c a => rw [List.cons_append, skipS, if_neg fun e => h c List.mem_cons_self (.inl e)]
/-- What is written behind the first segment. -/
def restB (l : List Sg) : Nat → List UInt8
  | 0 => []
  | 1 => []
  | j + 2 => restB l (j + 1) ++ match l[j + 1]? with | some s => segB (j + 1) (lastS (l.take (j + 1))) s | none => []
theorem mapB_rest {l : List Sg} {s : Sg} (h0 : l[0]? = some s) : ∀ j, 1 ≤ j → mapB l j = segB 0 ⟨0, 0, 0, 0⟩ s ++ restB l j
  | 0, h => absurd h (by omega)
  | 1, _ => by simp [mapB, h0, restB, lastS]
  | j + 2, _ => by rw [mapB, mapB_rest h0 (j + 1) (by omega), restB, List.append_assoc]; cases l[j + 1]? <;> rfl
theorem restB_head {l : List Sg} : ∀ j, okS l j → restB l j = [] ∨ ∃ c t, restB l j = c :: t ∧ (c = 59 ∨ c = 44)
  | 0, _ => .inl rfl
  | 1, _ => .inl rfl
  | j + 2, h => by
    rcases restB_head (j + 1) (okS_mono h (by omega)) with e | ⟨c, t, e, hc⟩
    · rw [restB, e, List.nil_append]
      cases hs : l[j + 1]? with
      | none => exact .inl rfl
      | some s =>
        right
        simp only [segB, aheadB]
        by_cases q : s.a > (lastS (l.take (j + 1))).a
        · obtain ⟨n, hn⟩ : ∃ n, (s.a - (lastS (l.take (j + 1))).a).toNat = n + 1 := ⟨(s.a - (lastS (l.take (j + 1))).a).toNat - 1, by omega⟩
          rw [if_pos q, hn, List.replicate_succ]
          exact ⟨59, _, rfl, .inl rfl⟩
        · rw [if_neg q, if_pos (by omega)]
          exact ⟨44, _, rfl, .inr rfl⟩
    · rw [restB, e]; exact .inr ⟨c, _, rfl, hc⟩
theorem tail_map {l : List Sg} {s : Sg} (h0 : l[0]? = some s) {j : Nat} (hj : 1 ≤ j) (hok : okS l j) : tailB (mapB l j) = restB l j := by
  have hh := restB_head j hok
  obtain ⟨⟨⟨k1, k2⟩, ⟨k3, k4⟩, _⟩, _⟩ := hok 0 (by omega) s h0
  rw [mapB_rest h0 j hj, segB]
  unfold tailB
  have ha : ∃ n, aheadB 0 ⟨0, 0, 0, 0⟩ s = List.replicate n 59 := by
    unfold aheadB
    by_cases q : s.a > (⟨0, 0, 0, 0⟩ : Sg).a
    · exact ⟨_, if_pos q⟩
    · exact ⟨0, by rw [if_neg q, if_neg (by omega)]; rfl⟩
  obtain ⟨n, ha⟩ := ha
  have hne : (numsB ⟨0, 0, 0, 0⟩ s).flatMap (fun n => (vq n).data.toList) ≠ [] := by
    unfold numsB
    rw [List.flatMap_cons]
    intro e
    have := List.append_eq_nil_iff.mp e
    have hq : s.b - (if s.a > (⟨0, 0, 0, 0⟩ : Sg).a then 0 else (⟨0, 0, 0, 0⟩ : Sg).b) = s.b := by split <;> simp
    rw [hq] at this
    have h2 := this.1
    unfold vq at h2
    rw [if_neg (by omega)] at h2
    exact vd_ne 8 _ (vx_lt (by omega)) h2
  rw [ha, List.append_assoc, skipS_rep, skipS_in (nums_in _) hne, skipW_in (nums_in _), skipW_stop hh]
/-- Further down, in the output, and in the source. -/
def downS (n : Int) (s : Sg) : Sg := ⟨s.a + n, s.b, s.c, s.d⟩
def srcS (n : Int) (s : Sg) : Sg := ⟨s.a, s.b, s.c + n, s.d⟩
theorem last_map (f : Sg → Sg) {l : List Sg} {j : Nat} (hj : 1 ≤ j) (hl : j ≤ l.length) : lastS ((l.map f).take j) = f (lastS (l.take j)) := by
  obtain ⟨p, hp⟩ : ∃ p, l[j - 1]? = some p := ⟨_, List.getElem?_eq_getElem (by omega)⟩
  rw [last_at (by omega) hp, last_at (p := f p) (by omega) (by rw [List.getElem?_map, hp]; rfl)]
theorem ok_down {l : List Sg} {n : Int} (h0 : 0 ≤ n) (h1 : n ≤ 50) (hf : ∀ s ∈ l, ¬ farL s) (h : okS l l.length) : okS (l.map (downS n)) (l.map (downS n)).length := by
  intro i hi t ht
  rw [List.length_map] at hi
  rw [List.getElem?_map] at ht
  obtain ⟨s, hs⟩ : ∃ s, l[i]? = some s := ⟨_, List.getElem?_eq_getElem hi⟩
  rw [hs] at ht
  cases ht
  obtain ⟨⟨k1, k2⟩, k3⟩ := h i hi s hs
  have hn := hf s (List.mem_of_getElem? hs)
  unfold farL at hn
  refine ⟨⟨?_, k2⟩, fun q h0 hq => ?_⟩
  · show 0 ≤ s.a + n ∧ s.a + n ≤ 100000; omega
  · rw [List.getElem?_map] at hq
    obtain ⟨p, hp⟩ : ∃ p, l[i - 1]? = some p := ⟨_, List.getElem?_eq_getElem (by omega)⟩
    rw [hp] at hq
    cases hq
    have := k3 p h0 hp
    unfold upS at this ⊢
    show p.a + n < s.a + n ∨ p.a + n = s.a + n ∧ p.b < s.b
    omega
theorem ok_src {l : List Sg} {n : Int} (h0 : 0 ≤ n) (h1 : n ≤ 1000) (hf : ∀ s ∈ l, s.c ≤ 1073740824) (h : okS l l.length) : okS (l.map (srcS n)) (l.map (srcS n)).length := by
  intro i hi t ht
  rw [List.length_map] at hi
  rw [List.getElem?_map] at ht
  obtain ⟨s, hs⟩ : ∃ s, l[i]? = some s := ⟨_, List.getElem?_eq_getElem hi⟩
  rw [hs] at ht
  cases ht
  obtain ⟨⟨k1, k2, k4, k5⟩, k3⟩ := h i hi s hs
  have hn := hf s (List.mem_of_getElem? hs)
  refine ⟨⟨k1, k2, ?_, k5⟩, fun q h0 hq => ?_⟩
  · show 0 ≤ s.c + n ∧ s.c + n ≤ 1073741824; omega
  · rw [List.getElem?_map] at hq
    obtain ⟨p, hp⟩ : ∃ p, l[i - 1]? = some p := ⟨_, List.getElem?_eq_getElem (by omega)⟩
    rw [hp] at hq
    cases hq
    exact k3 p h0 hp
theorem seg_down {i : Nat} {p s : Sg} (n : Int) : segB i (downS n p) (downS n s) = segB i p s := by
  have e1 : ((downS n s).a > (downS n p).a) = (s.a > p.a) := by show (s.a + n > p.a + n) = _; rw [eq_iff_iff]; omega
  have e2 : (downS n s).a - (downS n p).a = s.a - p.a := by show s.a + n - (p.a + n) = _; omega
  unfold segB aheadB numsB
  simp only [e1, e2]
  rfl
theorem seg_src {i : Nat} {p s : Sg} (n : Int) : segB i (srcS n p) (srcS n s) = segB i p s := by
  have e2 : (srcS n s).c - (srcS n p).c = s.c - p.c := by show s.c + n - (p.c + n) = _; omega
  unfold segB aheadB numsB
  simp only [e2]
  rfl
theorem rest_down {l : List Sg} (n : Int) : ∀ j, j ≤ l.length → restB (l.map (downS n)) j = restB l j
  | 0, _ => rfl
  | 1, _ => rfl
  | j + 2, h => by
    rw [restB, restB, rest_down n (j + 1) (by omega)]
    obtain ⟨s, hs⟩ : ∃ s, l[j + 1]? = some s := ⟨_, List.getElem?_eq_getElem (by omega)⟩
    rw [List.getElem?_map, hs, last_map (downS n) (by omega) (by omega)]
    simp only [Option.map_some]
    rw [seg_down]
theorem rest_src {l : List Sg} (n : Int) : ∀ j, j ≤ l.length → restB (l.map (srcS n)) j = restB l j
  | 0, _ => rfl
  | 1, _ => rfl
  | j + 2, h => by
    rw [restB, restB, rest_src n (j + 1) (by omega)]
    obtain ⟨s, hs⟩ : ∃ s, l[j + 1]? = some s := ⟨_, List.getElem?_eq_getElem (by omega)⟩
    rw [List.getElem?_map, hs, last_map (srcS n) (by omega) (by omega)]
    simp only [Option.map_some]
    rw [seg_src]
theorem map_down {l : List Sg} {d : Nat} (hl : 1 ≤ l.length) (hok : okS l l.length) : mapB (l.map (downS d)) l.length = List.replicate d 59 ++ mapB l l.length := by
  obtain ⟨s, hs⟩ : ∃ s, l[0]? = some s := ⟨_, List.getElem?_eq_getElem (by omega)⟩
  have hs2 : (l.map (downS d))[0]? = some (downS d s) := by rw [List.getElem?_map, hs]; rfl
  obtain ⟨⟨⟨k1, k2⟩, _⟩, _⟩ := hok 0 (by omega) s hs
  rw [mapB_rest hs _ hl, mapB_rest hs2 _ hl, rest_down _ _ (Nat.le_refl _), ← List.append_assoc]
  congr 1
  unfold segB
  rw [← List.append_assoc]
  have hz : (⟨0, 0, 0, 0⟩ : Sg).a = 0 := rfl
  have hz2 : (⟨0, 0, 0, 0⟩ : Sg).b = 0 := rfl
  have hda : (downS d s).a = s.a + d := rfl
  congr 1
  · unfold aheadB
    rw [hz, hda]
    by_cases q : s.a > 0
    · rw [if_pos (by omega), if_pos q, List.replicate_append_replicate]
      congr 1; omega
    · rw [if_neg q, if_neg (Nat.lt_irrefl 0), List.append_nil]
      by_cases q2 : s.a + (d : Int) > 0
      · rw [if_pos q2]; congr 1; omega
      · rw [if_neg q2, show d = 0 by omega]; rfl
  · unfold numsB
    rw [hz2]
    simp only [ite_self]
    rfl
theorem ext_drop (s : ByteArray) (i : Nat) : s.extract i s.size = ⟨(s.data.toList.drop i).toArray⟩ := by
  apply ByteArray.ext
  apply Array.ext'
  simp [ByteArray.data_extract]
  exact List.take_of_length_le (by rw [List.length_drop, size_toList]; exact Nat.le_refl _)
theorem lt_or_geI (a b : Int) : a < b ∨ b ≤ a := by omega
theorem tail24_body (s : ByteArray) (hs : s.size ≤ 9000000000000000000) : Body Try.prog Gam.none (DRun Try.prog Gam.none) 17 [.d (.v (.string s))] (vStr ⟨(tailB s.data.toList).toArray⟩) := by
  refine Body.of Try.func17 Try.ntmps17 (by kernel_rfl) rfl rfl rfl ?_
  simp only [goTG_val, goTG_new, goTG_up, goTG_none, goG_none, goG_new, goG_up, ne_eq, evK, evH, retHF, DRun_mk, runT_nil, runT_none, runT_guard, goT_val, goT_new, goT_store, goTH_true, goTH_false, evO, keys, Option.toList_some, Option.toList_none, nzL_nil, nzL_cons, nz_k, nz_sl, nz_nil, nz_agg, startL, evC, evV, goE_val, goE_new, goE_store, goH_true, goH_false, goG_val, lk_cons, lk_nil, lk_func, lk_int, lk_bool, lk_string, lk_slice, lk_agg, look_mk, St.effOf, eff, effCall, effBin, effUn, effConv, effPick, effNil, effFold, fold1, effLoad, effStore, effFieldAddr, effField, fieldOf, sliceOf, effIndexAddr, effIndex, effLen, effExtract, effSlice, bnd, effBuild, placesOf, effBuildSlice, effMakeSlice, effAppend, srcOf, fillA, chunk, seg, toD, toDs, put, eqAV, fieldsEq, leafEq, strip, unw, allB, selP_or, selP_and, tis, TyD.agg, AV.cells, AV.cell, allCell, vInt, vBool, vStr, subL_nil, subL_cons, upIds, AV.ids, AV.ids.idsL, AObj.ids, drops, Hp.get_cons, get_nil, retF, resL, one, fz, fz.fzL, List.map_cons, List.map_nil, List.nil_append, List.append_nil, List.cons_append, List.all_cons, List.all_nil, List.length_cons, List.length_nil, List.getElem?_cons_zero, List.getElem?_cons_succ, List.getD_cons_zero, List.getD_cons_succ, List.take_succ_cons, List.take_zero, List.drop_succ_cons, List.drop_zero, List.take_nil, List.drop_nil, List.contains_cons, List.contains_nil, Option.getD_some, Option.getD_none, Option.map_some, Option.map_none, if_true, if_false, true_and, and_true, and_self, or_self, or_false, false_or, false_and, and_false, reduceCtorEq, sel_and, sel_or, decide_eq_true_eq, Bool.and_eq_true, Bool.or_eq_true, Bool.and_true, Bool.true_and, Bool.or_false, Bool.false_or, Bool.true_or, Bool.or_true, Bool.not_true, Bool.not_false, Bool.false_eq_true, implies_true, not_false_eq_true, Nat.reduceLT, Nat.reduceEqDiff, Nat.reduceAdd, Nat.reduceMul, Nat.reduceMod, Nat.reduceLeDiff, Nat.reduceBEq, Nat.zero_add, Nat.add_zero, reduceIte, ↓reduceIte, List.not_mem_nil]
  refine wpc_loop (fun j : Nat => ⟨37, [], [(0, .d (.v (.string s))), (3, vInt .i64 j)], []⟩) (fun j => j ≤ s.size ∧ skipS (s.data.toList.drop j) = skipS s.data.toList) (fun j => s.size - j) 0 ⟨Nat.zero_le _, rfl⟩ ?_ ?_
  · refine Le.of id [] ?_
    simp only [Mt_tup, Mt_agg, Mt_fn, forall_eq, forall_eq_or_imp, ne_eq, List.all_cons, List.all_nil, pr, Nat.reduceLeDiff, slR_nil, slR_cons, hpR_nil, hpR_cells, hpR_row, idsR_nil, idsR_cons, mtE_v, mtE_sl, mtE_nil, mtE_refl, mtE_row, mtE_born, mtE_ptr, mtE_rp, mtE_agg, mtE_tup, mtE_fn, mtE_ep, MtL_nil, MtL_cons, Mt_v, Mt_sl, Mt_nil, Mt_refl, Mt_row, Mt_born, Mt_ptr, MtO_cells, MtO_row, liveIds, distinct, Dat.v.injEq, Dat.sl.injEq, Value.int.injEq, Value.bool.injEq, Value.string.injEq, lk_cons, lk_nil, subL_nil, subL_cons, upIds, AV.ids, AV.ids.idsL, AObj.ids, Hp.get_cons, get_nil, allCell, AV.cell, vInt, vBool, vStr, id, true_and, and_true, and_self, List.append_nil, List.nil_append, List.not_mem_nil, List.mem_cons, or_false, false_or, or_self, not_true_eq_false, not_false_eq_true, false_imp_iff, false_implies, List.map_nil, not_false_eq_true, List.contains_cons, List.contains_nil, Bool.or_false, Bool.false_or, Bool.true_or, Bool.or_true, Bool.and_true, Bool.true_and, implies_true, if_true, if_false, reduceCtorEq, Nat.reduceEqDiff, Nat.reduceBEq, Nat.reduceAdd, reduceIte, ↓reduceIte]
    rfl
  · rintro j ⟨hj, he⟩
    have hlen : s.data.toList.length = s.size := size_toList s
    by_cases hj2 : (j : Int) < s.size
    · obtain ⟨c, hc⟩ : ∃ c, s.data.toList[j]? = some c := ⟨_, List.getElem?_eq_getElem (by omega)⟩
      have hbt : bt s (j : Int) = (c.toNat : Int) := by unfold bt; rw [Int.toNat_natCast, List.getD_eq_getElem?_getD, hc]; rfl
      have hdr : s.data.toList.drop j = c :: s.data.toList.drop (j + 1) := drop_at hc
      simp only [hbt, goTG_val, goTG_new, goTG_up, goTG_none, goG_none, goG_new, goG_up, ne_eq, evK, evH, retHF, DRun_mk, runT_nil, runT_none, runT_guard, goT_val, goT_new, goT_store, goTH_true, goTH_false, evO, keys, Option.toList_some, Option.toList_none, nzL_nil, nzL_cons, nz_k, nz_sl, nz_nil, nz_agg, startL, evC, evV, goE_val, goE_new, goE_store, goH_true, goH_false, goG_val, lk_cons, lk_nil, lk_func, lk_int, lk_bool, lk_string, lk_slice, lk_agg, look_mk, St.effOf, eff, effCall, effBin, effUn, effConv, effPick, effNil, effFold, fold1, effLoad, effStore, effFieldAddr, effField, fieldOf, sliceOf, effIndexAddr, effIndex, effLen, effExtract, effSlice, bnd, effBuild, placesOf, effBuildSlice, effMakeSlice, effAppend, srcOf, fillA, chunk, seg, toD, toDs, put, eqAV, fieldsEq, leafEq, strip, unw, allB, selP_or, selP_and, tis, TyD.agg, AV.cells, AV.cell, allCell, vInt, vBool, vStr, subL_nil, subL_cons, upIds, AV.ids, AV.ids.idsL, AObj.ids, drops, Hp.get_cons, get_nil, retF, resL, one, fz, fz.fzL, List.map_cons, List.map_nil, List.nil_append, List.append_nil, List.cons_append, List.all_cons, List.all_nil, List.length_cons, List.length_nil, List.getElem?_cons_zero, List.getElem?_cons_succ, List.getD_cons_zero, List.getD_cons_succ, List.take_succ_cons, List.take_zero, List.drop_succ_cons, List.drop_zero, List.take_nil, List.drop_nil, List.contains_cons, List.contains_nil, Option.getD_some, Option.getD_none, Option.map_some, Option.map_none, if_true, if_false, true_and, and_true, and_self, or_self, or_false, false_or, false_and, and_false, reduceCtorEq, sel_and, sel_or, decide_eq_true_eq, Bool.and_eq_true, Bool.or_eq_true, Bool.and_true, Bool.true_and, Bool.or_false, Bool.false_or, Bool.true_or, Bool.or_true, Bool.not_true, Bool.not_false, Bool.false_eq_true, implies_true, not_false_eq_true, Nat.reduceLT, Nat.reduceEqDiff, Nat.reduceAdd, Nat.reduceMul, Nat.reduceMod, Nat.reduceLeDiff, Nat.reduceBEq, Nat.zero_add, Nat.add_zero, reduceIte, ↓reduceIte, List.not_mem_nil]
      refine ⟨fun _ => by omega, ?_⟩
      have e59 : ((c.toNat : Int) == 59) = decide (c = 59) := by
        by_cases q : c = 59
        · subst q; rfl
        · rw [decide_eq_false q, beq_eq_false_iff_ne]
          intro h
          exact q (by apply UInt8.toNat.inj; show c.toNat = 59; omega)
      by_cases q : c = 59
      · rw [if_pos ⟨hj2, by rw [e59]; exact decide_eq_true q⟩]
        refine ⟨j + 1, by omega, ⟨by omega, ?_⟩, Le.of id [] ?_⟩
        · rw [hdr, skipS, if_pos q] at he; exact he
        · simp only [Mt_tup, Mt_agg, Mt_fn, forall_eq, forall_eq_or_imp, ne_eq, List.all_cons, List.all_nil, pr, Nat.reduceLeDiff, slR_nil, slR_cons, hpR_nil, hpR_cells, hpR_row, idsR_nil, idsR_cons, mtE_v, mtE_sl, mtE_nil, mtE_refl, mtE_row, mtE_born, mtE_ptr, mtE_rp, mtE_agg, mtE_tup, mtE_fn, mtE_ep, MtL_nil, MtL_cons, Mt_v, Mt_sl, Mt_nil, Mt_refl, Mt_row, Mt_born, Mt_ptr, MtO_cells, MtO_row, liveIds, distinct, Dat.v.injEq, Dat.sl.injEq, Value.int.injEq, Value.bool.injEq, Value.string.injEq, lk_cons, lk_nil, subL_nil, subL_cons, upIds, AV.ids, AV.ids.idsL, AObj.ids, Hp.get_cons, get_nil, allCell, AV.cell, vInt, vBool, vStr, id, true_and, and_true, and_self, List.append_nil, List.nil_append, List.not_mem_nil, List.mem_cons, or_false, false_or, or_self, not_true_eq_false, not_false_eq_true, false_imp_iff, false_implies, List.map_nil, not_false_eq_true, List.contains_cons, List.contains_nil, Bool.or_false, Bool.false_or, Bool.true_or, Bool.or_true, Bool.and_true, Bool.true_and, implies_true, if_true, if_false, reduceCtorEq, Nat.reduceEqDiff, Nat.reduceBEq, Nat.reduceAdd, reduceIte, ↓reduceIte]
          exact w64 (by omega) (by omega)
      · rw [if_neg (fun h => q (of_decide_eq_true (by rw [← e59]; exact h.2)))]
        rw [hdr, skipS, if_neg q, ← hdr] at he
        refine wpc_loop (fun j : Nat => ⟨37, [], [(0, .d (.v (.string s))), (3, vInt .i64 j)], []⟩) (fun j => j ≤ s.size ∧ skipW (s.data.toList.drop j) = skipW (skipS s.data.toList)) (fun j => s.size - j) j ⟨by omega, by rw [he]⟩ ?_ ?_
        · refine Le.of id [] ?_
          simp only [Mt_tup, Mt_agg, Mt_fn, forall_eq, forall_eq_or_imp, ne_eq, List.all_cons, List.all_nil, pr, Nat.reduceLeDiff, slR_nil, slR_cons, hpR_nil, hpR_cells, hpR_row, idsR_nil, idsR_cons, mtE_v, mtE_sl, mtE_nil, mtE_refl, mtE_row, mtE_born, mtE_ptr, mtE_rp, mtE_agg, mtE_tup, mtE_fn, mtE_ep, MtL_nil, MtL_cons, Mt_v, Mt_sl, Mt_nil, Mt_refl, Mt_row, Mt_born, Mt_ptr, MtO_cells, MtO_row, liveIds, distinct, Dat.v.injEq, Dat.sl.injEq, Value.int.injEq, Value.bool.injEq, Value.string.injEq, lk_cons, lk_nil, subL_nil, subL_cons, upIds, AV.ids, AV.ids.idsL, AObj.ids, Hp.get_cons, get_nil, allCell, AV.cell, vInt, vBool, vStr, id, true_and, and_true, and_self, List.append_nil, List.nil_append, List.not_mem_nil, List.mem_cons, or_false, false_or, or_self, not_true_eq_false, not_false_eq_true, false_imp_iff, false_implies, List.map_nil, not_false_eq_true, List.contains_cons, List.contains_nil, Bool.or_false, Bool.false_or, Bool.true_or, Bool.or_true, Bool.and_true, Bool.true_and, implies_true, if_true, if_false, reduceCtorEq, Nat.reduceEqDiff, Nat.reduceBEq, Nat.reduceAdd, reduceIte, ↓reduceIte]
        · rintro i ⟨hi, he2⟩
          by_cases hi2 : (i : Int) < s.size
          · obtain ⟨c2, hc2⟩ : ∃ c, s.data.toList[i]? = some c := ⟨_, List.getElem?_eq_getElem (by omega)⟩
            have hbt2 : bt s (i : Int) = (c2.toNat : Int) := by unfold bt; rw [Int.toNat_natCast, List.getD_eq_getElem?_getD, hc2]; rfl
            have hdr2 : s.data.toList.drop i = c2 :: s.data.toList.drop (i + 1) := drop_at hc2
            simp only [hbt2, goTG_val, goTG_new, goTG_up, goTG_none, goG_none, goG_new, goG_up, ne_eq, evK, evH, retHF, DRun_mk, runT_nil, runT_none, runT_guard, goT_val, goT_new, goT_store, goTH_true, goTH_false, evO, keys, Option.toList_some, Option.toList_none, nzL_nil, nzL_cons, nz_k, nz_sl, nz_nil, nz_agg, startL, evC, evV, goE_val, goE_new, goE_store, goH_true, goH_false, goG_val, lk_cons, lk_nil, lk_func, lk_int, lk_bool, lk_string, lk_slice, lk_agg, look_mk, St.effOf, eff, effCall, effBin, effUn, effConv, effPick, effNil, effFold, fold1, effLoad, effStore, effFieldAddr, effField, fieldOf, sliceOf, effIndexAddr, effIndex, effLen, effExtract, effSlice, bnd, effBuild, placesOf, effBuildSlice, effMakeSlice, effAppend, srcOf, fillA, chunk, seg, toD, toDs, put, eqAV, fieldsEq, leafEq, strip, unw, allB, selP_or, selP_and, tis, TyD.agg, AV.cells, AV.cell, allCell, vInt, vBool, vStr, subL_nil, subL_cons, upIds, AV.ids, AV.ids.idsL, AObj.ids, drops, Hp.get_cons, get_nil, retF, resL, one, fz, fz.fzL, List.map_cons, List.map_nil, List.nil_append, List.append_nil, List.cons_append, List.all_cons, List.all_nil, List.length_cons, List.length_nil, List.getElem?_cons_zero, List.getElem?_cons_succ, List.getD_cons_zero, List.getD_cons_succ, List.take_succ_cons, List.take_zero, List.drop_succ_cons, List.drop_zero, List.take_nil, List.drop_nil, List.contains_cons, List.contains_nil, Option.getD_some, Option.getD_none, Option.map_some, Option.map_none, if_true, if_false, true_and, and_true, and_self, or_self, or_false, false_or, false_and, and_false, reduceCtorEq, sel_and, sel_or, decide_eq_true_eq, Bool.and_eq_true, Bool.or_eq_true, Bool.and_true, Bool.true_and, Bool.or_false, Bool.false_or, Bool.true_or, Bool.or_true, Bool.not_true, Bool.not_false, Bool.false_eq_true, implies_true, not_false_eq_true, Nat.reduceLT, Nat.reduceEqDiff, Nat.reduceAdd, Nat.reduceMul, Nat.reduceMod, Nat.reduceLeDiff, Nat.reduceBEq, Nat.zero_add, Nat.add_zero, reduceIte, ↓reduceIte, List.not_mem_nil]
            refine ⟨fun _ => by omega, fun _ => by omega, ?_⟩
            rw [hdr2, skipW] at he2
            by_cases q : c2 = 59 ∨ c2 = 44
            · rw [if_neg (fun h => by
                rcases q with q | q
                · have := h.1.2; rw [q] at this; exact absurd this (by decide)
                · have := h.2; rw [q] at this; exact absurd this (by decide))]
              rw [if_pos q, ← hdr2] at he2
              refine ⟨⟨by omega, by omega, by omega⟩, ?_⟩
              rw [tailB, ← he2, Int.toNat_natCast, Int.toNat_natCast, ext_drop]
            · rw [if_pos ⟨⟨hi2, by
                rw [bne_iff_ne]; intro h; exact q (.inl (by apply UInt8.toNat.inj; show c2.toNat = 59; omega))⟩, by
                rw [bne_iff_ne]; intro h; exact q (.inr (by apply UInt8.toNat.inj; show c2.toNat = 44; omega))⟩]
              rw [if_neg q] at he2
              refine ⟨i + 1, by omega, ⟨by omega, he2⟩, Le.of id [] ?_⟩
              simp only [Mt_tup, Mt_agg, Mt_fn, forall_eq, forall_eq_or_imp, ne_eq, List.all_cons, List.all_nil, pr, Nat.reduceLeDiff, slR_nil, slR_cons, hpR_nil, hpR_cells, hpR_row, idsR_nil, idsR_cons, mtE_v, mtE_sl, mtE_nil, mtE_refl, mtE_row, mtE_born, mtE_ptr, mtE_rp, mtE_agg, mtE_tup, mtE_fn, mtE_ep, MtL_nil, MtL_cons, Mt_v, Mt_sl, Mt_nil, Mt_refl, Mt_row, Mt_born, Mt_ptr, MtO_cells, MtO_row, liveIds, distinct, Dat.v.injEq, Dat.sl.injEq, Value.int.injEq, Value.bool.injEq, Value.string.injEq, lk_cons, lk_nil, subL_nil, subL_cons, upIds, AV.ids, AV.ids.idsL, AObj.ids, Hp.get_cons, get_nil, allCell, AV.cell, vInt, vBool, vStr, id, true_and, and_true, and_self, List.append_nil, List.nil_append, List.not_mem_nil, List.mem_cons, or_false, false_or, or_self, not_true_eq_false, not_false_eq_true, false_imp_iff, false_implies, List.map_nil, not_false_eq_true, List.contains_cons, List.contains_nil, Bool.or_false, Bool.false_or, Bool.true_or, Bool.or_true, Bool.and_true, Bool.true_and, implies_true, if_true, if_false, reduceCtorEq, Nat.reduceEqDiff, Nat.reduceBEq, Nat.reduceAdd, reduceIte, ↓reduceIte]
              exact w64 (by omega) (by omega)
          · simp only [goTG_val, goTG_new, goTG_up, goTG_none, goG_none, goG_new, goG_up, ne_eq, evK, evH, retHF, DRun_mk, runT_nil, runT_none, runT_guard, goT_val, goT_new, goT_store, goTH_true, goTH_false, evO, keys, Option.toList_some, Option.toList_none, nzL_nil, nzL_cons, nz_k, nz_sl, nz_nil, nz_agg, startL, evC, evV, goE_val, goE_new, goE_store, goH_true, goH_false, goG_val, lk_cons, lk_nil, lk_func, lk_int, lk_bool, lk_string, lk_slice, lk_agg, look_mk, St.effOf, eff, effCall, effBin, effUn, effConv, effPick, effNil, effFold, fold1, effLoad, effStore, effFieldAddr, effField, fieldOf, sliceOf, effIndexAddr, effIndex, effLen, effExtract, effSlice, bnd, effBuild, placesOf, effBuildSlice, effMakeSlice, effAppend, srcOf, fillA, chunk, seg, toD, toDs, put, eqAV, fieldsEq, leafEq, strip, unw, allB, selP_or, selP_and, tis, TyD.agg, AV.cells, AV.cell, allCell, vInt, vBool, vStr, subL_nil, subL_cons, upIds, AV.ids, AV.ids.idsL, AObj.ids, drops, Hp.get_cons, get_nil, retF, resL, one, fz, fz.fzL, List.map_cons, List.map_nil, List.nil_append, List.append_nil, List.cons_append, List.all_cons, List.all_nil, List.length_cons, List.length_nil, List.getElem?_cons_zero, List.getElem?_cons_succ, List.getD_cons_zero, List.getD_cons_succ, List.take_succ_cons, List.take_zero, List.drop_succ_cons, List.drop_zero, List.take_nil, List.drop_nil, List.contains_cons, List.contains_nil, Option.getD_some, Option.getD_none, Option.map_some, Option.map_none, if_true, if_false, true_and, and_true, and_self, or_self, or_false, false_or, false_and, and_false, reduceCtorEq, sel_and, sel_or, decide_eq_true_eq, Bool.and_eq_true, Bool.or_eq_true, Bool.and_true, Bool.true_and, Bool.or_false, Bool.false_or, Bool.true_or, Bool.or_true, Bool.not_true, Bool.not_false, Bool.false_eq_true, implies_true, not_false_eq_true, Nat.reduceLT, Nat.reduceEqDiff, Nat.reduceAdd, Nat.reduceMul, Nat.reduceMod, Nat.reduceLeDiff, Nat.reduceBEq, Nat.zero_add, Nat.add_zero, reduceIte, ↓reduceIte, List.not_mem_nil]
            refine ⟨fun h => absurd h hi2, fun h => absurd h.1 hi2, ?_⟩
            rw [if_neg (fun h => hi2 h.1.1)]
            rw [List.drop_eq_nil_of_le (by omega)] at he2
            refine ⟨⟨by omega, by omega, by omega⟩, ?_⟩
            rw [tailB, ← he2, Int.toNat_natCast, Int.toNat_natCast, ext_drop, List.drop_eq_nil_of_le (by omega)]
            exact Sub.refl _
    · simp only [goTG_val, goTG_new, goTG_up, goTG_none, goG_none, goG_new, goG_up, ne_eq, evK, evH, retHF, DRun_mk, runT_nil, runT_none, runT_guard, goT_val, goT_new, goT_store, goTH_true, goTH_false, evO, keys, Option.toList_some, Option.toList_none, nzL_nil, nzL_cons, nz_k, nz_sl, nz_nil, nz_agg, startL, evC, evV, goE_val, goE_new, goE_store, goH_true, goH_false, goG_val, lk_cons, lk_nil, lk_func, lk_int, lk_bool, lk_string, lk_slice, lk_agg, look_mk, St.effOf, eff, effCall, effBin, effUn, effConv, effPick, effNil, effFold, fold1, effLoad, effStore, effFieldAddr, effField, fieldOf, sliceOf, effIndexAddr, effIndex, effLen, effExtract, effSlice, bnd, effBuild, placesOf, effBuildSlice, effMakeSlice, effAppend, srcOf, fillA, chunk, seg, toD, toDs, put, eqAV, fieldsEq, leafEq, strip, unw, allB, selP_or, selP_and, tis, TyD.agg, AV.cells, AV.cell, allCell, vInt, vBool, vStr, subL_nil, subL_cons, upIds, AV.ids, AV.ids.idsL, AObj.ids, drops, Hp.get_cons, get_nil, retF, resL, one, fz, fz.fzL, List.map_cons, List.map_nil, List.nil_append, List.append_nil, List.cons_append, List.all_cons, List.all_nil, List.length_cons, List.length_nil, List.getElem?_cons_zero, List.getElem?_cons_succ, List.getD_cons_zero, List.getD_cons_succ, List.take_succ_cons, List.take_zero, List.drop_succ_cons, List.drop_zero, List.take_nil, List.drop_nil, List.contains_cons, List.contains_nil, Option.getD_some, Option.getD_none, Option.map_some, Option.map_none, if_true, if_false, true_and, and_true, and_self, or_self, or_false, false_or, false_and, and_false, reduceCtorEq, sel_and, sel_or, decide_eq_true_eq, Bool.and_eq_true, Bool.or_eq_true, Bool.and_true, Bool.true_and, Bool.or_false, Bool.false_or, Bool.true_or, Bool.or_true, Bool.not_true, Bool.not_false, Bool.false_eq_true, implies_true, not_false_eq_true, Nat.reduceLT, Nat.reduceEqDiff, Nat.reduceAdd, Nat.reduceMul, Nat.reduceMod, Nat.reduceLeDiff, Nat.reduceBEq, Nat.zero_add, Nat.add_zero, reduceIte, ↓reduceIte, List.not_mem_nil]
      refine ⟨fun h => absurd h hj2, ?_⟩
      rw [if_neg (fun h => hj2 h.1)]
      rw [List.drop_eq_nil_of_le (by omega)] at he
      have he : skipS s.data.toList = [] := he.symm
      refine wpc_loop (fun j : Nat => ⟨37, [], [(0, .d (.v (.string s))), (3, vInt .i64 j)], []⟩) (fun j => j ≤ s.size ∧ skipW (s.data.toList.drop j) = skipW (skipS s.data.toList)) (fun j => s.size - j) j ⟨by omega, by rw [he, List.drop_eq_nil_of_le (by omega)]⟩ ?_ ?_
      · refine Le.of id [] ?_
        simp only [Mt_tup, Mt_agg, Mt_fn, forall_eq, forall_eq_or_imp, ne_eq, List.all_cons, List.all_nil, pr, Nat.reduceLeDiff, slR_nil, slR_cons, hpR_nil, hpR_cells, hpR_row, idsR_nil, idsR_cons, mtE_v, mtE_sl, mtE_nil, mtE_refl, mtE_row, mtE_born, mtE_ptr, mtE_rp, mtE_agg, mtE_tup, mtE_fn, mtE_ep, MtL_nil, MtL_cons, Mt_v, Mt_sl, Mt_nil, Mt_refl, Mt_row, Mt_born, Mt_ptr, MtO_cells, MtO_row, liveIds, distinct, Dat.v.injEq, Dat.sl.injEq, Value.int.injEq, Value.bool.injEq, Value.string.injEq, lk_cons, lk_nil, subL_nil, subL_cons, upIds, AV.ids, AV.ids.idsL, AObj.ids, Hp.get_cons, get_nil, allCell, AV.cell, vInt, vBool, vStr, id, true_and, and_true, and_self, List.append_nil, List.nil_append, List.not_mem_nil, List.mem_cons, or_false, false_or, or_self, not_true_eq_false, not_false_eq_true, false_imp_iff, false_implies, List.map_nil, not_false_eq_true, List.contains_cons, List.contains_nil, Bool.or_false, Bool.false_or, Bool.true_or, Bool.or_true, Bool.and_true, Bool.true_and, implies_true, if_true, if_false, reduceCtorEq, Nat.reduceEqDiff, Nat.reduceBEq, Nat.reduceAdd, reduceIte, ↓reduceIte]
      · rintro i ⟨hi, he2⟩
        by_cases hi2 : (i : Int) < s.size
        · obtain ⟨c2, hc2⟩ : ∃ c, s.data.toList[i]? = some c := ⟨_, List.getElem?_eq_getElem (by omega)⟩
          have hbt2 : bt s (i : Int) = (c2.toNat : Int) := by unfold bt; rw [Int.toNat_natCast, List.getD_eq_getElem?_getD, hc2]; rfl
          have hdr2 : s.data.toList.drop i = c2 :: s.data.toList.drop (i + 1) := drop_at hc2
          simp only [hbt2, goTG_val, goTG_new, goTG_up, goTG_none, goG_none, goG_new, goG_up, ne_eq, evK, evH, retHF, DRun_mk, runT_nil, runT_none, runT_guard, goT_val, goT_new, goT_store, goTH_true, goTH_false, evO, keys, Option.toList_some, Option.toList_none, nzL_nil, nzL_cons, nz_k, nz_sl, nz_nil, nz_agg, startL, evC, evV, goE_val, goE_new, goE_store, goH_true, goH_false, goG_val, lk_cons, lk_nil, lk_func, lk_int, lk_bool, lk_string, lk_slice, lk_agg, look_mk, St.effOf, eff, effCall, effBin, effUn, effConv, effPick, effNil, effFold, fold1, effLoad, effStore, effFieldAddr, effField, fieldOf, sliceOf, effIndexAddr, effIndex, effLen, effExtract, effSlice, bnd, effBuild, placesOf, effBuildSlice, effMakeSlice, effAppend, srcOf, fillA, chunk, seg, toD, toDs, put, eqAV, fieldsEq, leafEq, strip, unw, allB, selP_or, selP_and, tis, TyD.agg, AV.cells, AV.cell, allCell, vInt, vBool, vStr, subL_nil, subL_cons, upIds, AV.ids, AV.ids.idsL, AObj.ids, drops, Hp.get_cons, get_nil, retF, resL, one, fz, fz.fzL, List.map_cons, List.map_nil, List.nil_append, List.append_nil, List.cons_append, List.all_cons, List.all_nil, List.length_cons, List.length_nil, List.getElem?_cons_zero, List.getElem?_cons_succ, List.getD_cons_zero, List.getD_cons_succ, List.take_succ_cons, List.take_zero, List.drop_succ_cons, List.drop_zero, List.take_nil, List.drop_nil, List.contains_cons, List.contains_nil, Option.getD_some, Option.getD_none, Option.map_some, Option.map_none, if_true, if_false, true_and, and_true, and_self, or_self, or_false, false_or, false_and, and_false, reduceCtorEq, sel_and, sel_or, decide_eq_true_eq, Bool.and_eq_true, Bool.or_eq_true, Bool.and_true, Bool.true_and, Bool.or_false, Bool.false_or, Bool.true_or, Bool.or_true, Bool.not_true, Bool.not_false, Bool.false_eq_true, implies_true, not_false_eq_true, Nat.reduceLT, Nat.reduceEqDiff, Nat.reduceAdd, Nat.reduceMul, Nat.reduceMod, Nat.reduceLeDiff, Nat.reduceBEq, Nat.zero_add, Nat.add_zero, reduceIte, ↓reduceIte, List.not_mem_nil]
          refine ⟨fun _ => by omega, fun _ => by omega, ?_⟩
          rw [hdr2, skipW] at he2
          by_cases q : c2 = 59 ∨ c2 = 44
          · rw [if_neg (fun h => by
              rcases q with q | q
              · have := h.1.2; rw [q] at this; exact absurd this (by decide)
              · have := h.2; rw [q] at this; exact absurd this (by decide))]
            rw [if_pos q, ← hdr2] at he2
            refine ⟨⟨by omega, by omega, by omega⟩, ?_⟩
            rw [tailB, ← he2, Int.toNat_natCast, Int.toNat_natCast, ext_drop]
          · rw [if_pos ⟨⟨hi2, by
              rw [bne_iff_ne]; intro h; exact q (.inl (by apply UInt8.toNat.inj; show c2.toNat = 59; omega))⟩, by
              rw [bne_iff_ne]; intro h; exact q (.inr (by apply UInt8.toNat.inj; show c2.toNat = 44; omega))⟩]
            rw [if_neg q] at he2
            refine ⟨i + 1, by omega, ⟨by omega, he2⟩, Le.of id [] ?_⟩
            simp only [Mt_tup, Mt_agg, Mt_fn, forall_eq, forall_eq_or_imp, ne_eq, List.all_cons, List.all_nil, pr, Nat.reduceLeDiff, slR_nil, slR_cons, hpR_nil, hpR_cells, hpR_row, idsR_nil, idsR_cons, mtE_v, mtE_sl, mtE_nil, mtE_refl, mtE_row, mtE_born, mtE_ptr, mtE_rp, mtE_agg, mtE_tup, mtE_fn, mtE_ep, MtL_nil, MtL_cons, Mt_v, Mt_sl, Mt_nil, Mt_refl, Mt_row, Mt_born, Mt_ptr, MtO_cells, MtO_row, liveIds, distinct, Dat.v.injEq, Dat.sl.injEq, Value.int.injEq, Value.bool.injEq, Value.string.injEq, lk_cons, lk_nil, subL_nil, subL_cons, upIds, AV.ids, AV.ids.idsL, AObj.ids, Hp.get_cons, get_nil, allCell, AV.cell, vInt, vBool, vStr, id, true_and, and_true, and_self, List.append_nil, List.nil_append, List.not_mem_nil, List.mem_cons, or_false, false_or, or_self, not_true_eq_false, not_false_eq_true, false_imp_iff, false_implies, List.map_nil, not_false_eq_true, List.contains_cons, List.contains_nil, Bool.or_false, Bool.false_or, Bool.true_or, Bool.or_true, Bool.and_true, Bool.true_and, implies_true, if_true, if_false, reduceCtorEq, Nat.reduceEqDiff, Nat.reduceBEq, Nat.reduceAdd, reduceIte, ↓reduceIte]
            exact w64 (by omega) (by omega)
        · simp only [goTG_val, goTG_new, goTG_up, goTG_none, goG_none, goG_new, goG_up, ne_eq, evK, evH, retHF, DRun_mk, runT_nil, runT_none, runT_guard, goT_val, goT_new, goT_store, goTH_true, goTH_false, evO, keys, Option.toList_some, Option.toList_none, nzL_nil, nzL_cons, nz_k, nz_sl, nz_nil, nz_agg, startL, evC, evV, goE_val, goE_new, goE_store, goH_true, goH_false, goG_val, lk_cons, lk_nil, lk_func, lk_int, lk_bool, lk_string, lk_slice, lk_agg, look_mk, St.effOf, eff, effCall, effBin, effUn, effConv, effPick, effNil, effFold, fold1, effLoad, effStore, effFieldAddr, effField, fieldOf, sliceOf, effIndexAddr, effIndex, effLen, effExtract, effSlice, bnd, effBuild, placesOf, effBuildSlice, effMakeSlice, effAppend, srcOf, fillA, chunk, seg, toD, toDs, put, eqAV, fieldsEq, leafEq, strip, unw, allB, selP_or, selP_and, tis, TyD.agg, AV.cells, AV.cell, allCell, vInt, vBool, vStr, subL_nil, subL_cons, upIds, AV.ids, AV.ids.idsL, AObj.ids, drops, Hp.get_cons, get_nil, retF, resL, one, fz, fz.fzL, List.map_cons, List.map_nil, List.nil_append, List.append_nil, List.cons_append, List.all_cons, List.all_nil, List.length_cons, List.length_nil, List.getElem?_cons_zero, List.getElem?_cons_succ, List.getD_cons_zero, List.getD_cons_succ, List.take_succ_cons, List.take_zero, List.drop_succ_cons, List.drop_zero, List.take_nil, List.drop_nil, List.contains_cons, List.contains_nil, Option.getD_some, Option.getD_none, Option.map_some, Option.map_none, if_true, if_false, true_and, and_true, and_self, or_self, or_false, false_or, false_and, and_false, reduceCtorEq, sel_and, sel_or, decide_eq_true_eq, Bool.and_eq_true, Bool.or_eq_true, Bool.and_true, Bool.true_and, Bool.or_false, Bool.false_or, Bool.true_or, Bool.or_true, Bool.not_true, Bool.not_false, Bool.false_eq_true, implies_true, not_false_eq_true, Nat.reduceLT, Nat.reduceEqDiff, Nat.reduceAdd, Nat.reduceMul, Nat.reduceMod, Nat.reduceLeDiff, Nat.reduceBEq, Nat.zero_add, Nat.add_zero, reduceIte, ↓reduceIte, List.not_mem_nil]
          refine ⟨fun h => absurd h hi2, fun h => absurd h.1 hi2, ?_⟩
          rw [if_neg (fun h => hi2 h.1.1)]
          rw [List.drop_eq_nil_of_le (by omega)] at he2
          refine ⟨⟨by omega, by omega, by omega⟩, ?_⟩
          rw [tailB, ← he2, Int.toNat_natCast, Int.toNat_natCast, ext_drop, List.drop_eq_nil_of_le (by omega)]
          exact Sub.refl _
def F_tail24 : List AV → Option (Prop × AV)
  | [.d (.v (.string s))] => some (s.size ≤ 9000000000000000000, vStr ⟨(tailB s.data.toList).toArray⟩)
  | _ => none
theorem tail24_calm : ∀ args sc res, F_tail24 args = some (sc, res) → sc → Calm Try.prog 17 args res := by
  intro args sc res h hs
  unfold F_tail24 at h
  split at h <;> cases h
  exact (Known.none _).calm mixed rfl rfl (tail24_body _ hs)
def spB : ByteArray := ⟨#[32, 32, 32, 32, 32, 32, 32, 32, 32, 32, 32, 32, 32, 32, 32, 32, 32, 32, 32, 32, 32, 32, 32, 32, 32, 32, 32, 32, 32, 32, 32, 32, 32, 32, 32, 32, 32, 32, 32, 32, 32, 32, 32, 32, 32, 32, 32, 32, 32, 32]⟩
noncomputable def G24s : Gam := G24.add 17 fun a => F_tail24 (NT.nz.nzL [] a)
theorem known24s : Known Try.prog G24s := known24.addC _ tail24_calm
theorem G24s_at : (∀ h d a, G24s 7 h d a = calmE (fun a => F_alive (NT.nz.nzL [] a)) h a) ∧ (∀ h d a, G24s 8 h d a = calmE (fun a => F_fewS (NT.nz.nzL [.s 4] a)) h a) ∧ (∀ h d a, G24s 9 h d a = calmE (fun a => F_map (NT.nz.nzL [.s 4] a)) h a) ∧ (∀ h d a, G24s 10 h d a = calmE (fun a => F_rmap (NT.nz.nzL [.s 4] a)) h a) ∧ (∀ h d a, G24s 17 h d a = calmE (fun a => F_tail24 (NT.nz.nzL [] a)) h a) := ⟨fun _ _ _ => rfl, fun _ _ _ => rfl, fun _ _ _ => rfl, fun _ _ _ => rfl, fun _ _ _ => rfl⟩
theorem SmapShift_body (l : List Sg) (down src : Int) (h1 : l.length ≤ maxLen ∧ ∀ x ∈ l, (((Lit.int .i64 x.a).wf = true ∧ (Lit.int .i64 x.b).wf = true) ∧ (Lit.int .i64 x.c).wf = true) ∧ (Lit.int .i64 x.d).wf = true) (h2 : (Lit.int .i64 down).wf = true) (h3 : (Lit.int .i64 src).wf = true) : Body Try.prog G24s (DRun Try.prog G24s) 6 [.d (sgsD l), .d (.v (.int .i64 down)), .d (.v (.int .i64 src))] (vBool true) := by
  refine Body.of Try.func6 Try.ntmps6 (by kernel_rfl) rfl rfl rfl ?_
  by_cases hok : okS l l.length
  rotate_left
  · have hm := mapS_no hok
    simp only [sgsD, sgOf_map, hm, G24s_at, calmE, F_alive, F_fewS, F_map, F_rmap, F_tail24, AV.flat, AV.flat.flatL, List.length_map, goTG_val, goTG_new, goTG_up, goTG_none, goG_none, goG_new, goG_up, ne_eq, evK, evH, retHF, DRun_mk, runT_nil, runT_none, runT_guard, goT_val, goT_new, goT_store, goTH_true, goTH_false, evO, keys, Option.toList_some, Option.toList_none, nzL_nil, nzL_cons, nz_k, nz_sl, nz_nil, nz_agg, startL, evC, evV, goE_val, goE_new, goE_store, goH_true, goH_false, goG_val, lk_cons, lk_nil, lk_func, lk_int, lk_bool, lk_string, lk_slice, lk_agg, look_mk, St.effOf, eff, effCall, effBin, effUn, effConv, effPick, effNil, effFold, fold1, effLoad, effStore, effFieldAddr, effField, fieldOf, sliceOf, effIndexAddr, effIndex, effLen, effExtract, effSlice, bnd, effBuild, placesOf, effBuildSlice, effMakeSlice, effAppend, srcOf, fillA, chunk, seg, toD, toDs, put, eqAV, fieldsEq, leafEq, strip, unw, allB, selP_or, selP_and, tis, TyD.agg, AV.cells, AV.cell, allCell, vInt, vBool, vStr, subL_nil, subL_cons, upIds, AV.ids, AV.ids.idsL, AObj.ids, drops, Hp.get_cons, get_nil, retF, resL, one, fz, fz.fzL, List.map_cons, List.map_nil, List.nil_append, List.append_nil, List.cons_append, List.all_cons, List.all_nil, List.length_cons, List.length_nil, List.getElem?_cons_zero, List.getElem?_cons_succ, List.getD_cons_zero, List.getD_cons_succ, List.take_succ_cons, List.take_zero, List.drop_succ_cons, List.drop_zero, List.take_nil, List.drop_nil, List.contains_cons, List.contains_nil, Option.getD_some, Option.getD_none, Option.map_some, Option.map_none, if_true, if_false, true_and, and_true, and_self, or_self, or_false, false_or, false_and, and_false, reduceCtorEq, sel_and, sel_or, decide_eq_true_eq, Bool.and_eq_true, Bool.or_eq_true, Bool.and_true, Bool.true_and, Bool.or_false, Bool.false_or, Bool.true_or, Bool.or_true, Bool.not_true, Bool.not_false, Bool.false_eq_true, implies_true, not_false_eq_true, Nat.reduceLT, Nat.reduceEqDiff, Nat.reduceAdd, Nat.reduceMul, Nat.reduceMod, Nat.reduceLeDiff, Nat.reduceBEq, Nat.zero_add, Nat.add_zero, reduceIte, ↓reduceIte, List.not_mem_nil]
    refine ⟨h1.1, fun _ => h1.1, ?_⟩
    rw [if_pos (.inl (.inl (.inl (.inl (.inr trivial)))))]
  have hm := mapS_yes hok
  simp only [sgsD, sgOf_map, hm, G24s_at, calmE, F_alive, F_fewS, F_map, F_rmap, F_tail24, AV.flat, AV.flat.flatL, List.length_map, goTG_val, goTG_new, goTG_up, goTG_none, goG_none, goG_new, goG_up, ne_eq, evK, evH, retHF, DRun_mk, runT_nil, runT_none, runT_guard, goT_val, goT_new, goT_store, goTH_true, goTH_false, evO, keys, Option.toList_some, Option.toList_none, nzL_nil, nzL_cons, nz_k, nz_sl, nz_nil, nz_agg, startL, evC, evV, goE_val, goE_new, goE_store, goH_true, goH_false, goG_val, lk_cons, lk_nil, lk_func, lk_int, lk_bool, lk_string, lk_slice, lk_agg, look_mk, St.effOf, eff, effCall, effBin, effUn, effConv, effPick, effNil, effFold, fold1, effLoad, effStore, effFieldAddr, effField, fieldOf, sliceOf, effIndexAddr, effIndex, effLen, effExtract, effSlice, bnd, effBuild, placesOf, effBuildSlice, effMakeSlice, effAppend, srcOf, fillA, chunk, seg, toD, toDs, put, eqAV, fieldsEq, leafEq, strip, unw, allB, selP_or, selP_and, tis, TyD.agg, AV.cells, AV.cell, allCell, vInt, vBool, vStr, subL_nil, subL_cons, upIds, AV.ids, AV.ids.idsL, AObj.ids, drops, Hp.get_cons, get_nil, retF, resL, one, fz, fz.fzL, List.map_cons, List.map_nil, List.nil_append, List.append_nil, List.cons_append, List.all_cons, List.all_nil, List.length_cons, List.length_nil, List.getElem?_cons_zero, List.getElem?_cons_succ, List.getD_cons_zero, List.getD_cons_succ, List.take_succ_cons, List.take_zero, List.drop_succ_cons, List.drop_zero, List.take_nil, List.drop_nil, List.contains_cons, List.contains_nil, Option.getD_some, Option.getD_none, Option.map_some, Option.map_none, if_true, if_false, true_and, and_true, and_self, or_self, or_false, false_or, false_and, and_false, reduceCtorEq, sel_and, sel_or, decide_eq_true_eq, Bool.and_eq_true, Bool.or_eq_true, Bool.and_true, Bool.true_and, Bool.or_false, Bool.false_or, Bool.true_or, Bool.or_true, Bool.not_true, Bool.not_false, Bool.false_eq_true, implies_true, not_false_eq_true, Nat.reduceLT, Nat.reduceEqDiff, Nat.reduceAdd, Nat.reduceMul, Nat.reduceMod, Nat.reduceLeDiff, Nat.reduceBEq, Nat.zero_add, Nat.add_zero, reduceIte, ↓reduceIte, List.not_mem_nil]
  refine ⟨h1.1, fun _ => h1.1, ?_⟩
  by_cases c : (((((!fewS l) = true ∨ ((l.length : Int) == 0) = true) ∨ down < 0) ∨ down > 50) ∨ src < 0) ∨ src > 1000
  · rw [if_pos c]
  rw [if_neg c]
  have hf : fewS l = true := by
    cases h : fewS l with
    | true => rfl
    | false => exact absurd (.inl (.inl (.inl (.inl (.inl (by rw [h]; rfl)))))) c
  have hfew := of_decide_eq_true hf
  have hl0 : 1 ≤ l.length := by
    rcases Nat.eq_zero_or_pos l.length with h | h
    · exact absurd (.inl (.inl (.inl (.inl (.inr (by rw [h]; rfl)))))) c
    · exact h
  have hd0 : 0 ≤ down := by rcases lt_or_geI down 0 with h | h; exact absurd (.inl (.inl (.inl (.inr h)))) c; exact h
  have hd1 : down ≤ 50 := by rcases lt_or_geI 50 down with h | h; exact absurd (.inl (.inl (.inr h))) c; exact h
  have hs0 : 0 ≤ src := by rcases lt_or_geI src 0 with h | h; exact absurd (.inl (.inr h)) c; exact h
  have hs1 : src ≤ 1000 := by rcases lt_or_geI 1000 src with h | h; exact absurd (.inr h) c; exact h
  clear c
  have hl60 := hfew.2
  refine wpc_loop (fun j : Nat => ⟨139, [100, 101], [(0, .d (sgsD l)), (1, vInt .i64 down), (2, vInt .i64 src), (8, vStr (mapT l)), (10, .row 100 ((l.take j).map (downS down)).length), (11, .row 101 ((l.take j).map (srcS src)).length), (12, vInt .i64 j)], [(100, some (.row 47 4 (((l.take j).map (downS down)).map sgD))), (101, some (.row 47 4 (((l.take j).map (srcS src)).map sgD)))]⟩) (fun j => j ≤ l.length ∧ ∀ k, k < j → ∀ s, l[k]? = some s → s.c ≤ 1073740824) (fun j => l.length - j) 0 ⟨Nat.zero_le _, fun k hk => absurd hk (Nat.not_lt_zero k)⟩ ?_ ?_
  · refine Le.of id [100, 101] ?_
    simp only [sgsD, List.take_zero, List.map_nil, List.length_nil, List.length_map, Mt_tup, Mt_agg, Mt_fn, forall_eq, forall_eq_or_imp, ne_eq, List.all_cons, List.all_nil, pr, Nat.reduceLeDiff, slR_nil, slR_cons, hpR_nil, hpR_cells, hpR_row, idsR_nil, idsR_cons, mtE_v, mtE_sl, mtE_nil, mtE_refl, mtE_row, mtE_born, mtE_ptr, mtE_rp, mtE_agg, mtE_tup, mtE_fn, mtE_ep, MtL_nil, MtL_cons, Mt_v, Mt_sl, Mt_nil, Mt_refl, Mt_row, Mt_born, Mt_ptr, MtO_cells, MtO_row, liveIds, distinct, Dat.v.injEq, Dat.sl.injEq, Value.int.injEq, Value.bool.injEq, Value.string.injEq, lk_cons, lk_nil, subL_nil, subL_cons, upIds, AV.ids, AV.ids.idsL, AObj.ids, Hp.get_cons, get_nil, allCell, AV.cell, vInt, vBool, vStr, id, true_and, and_true, and_self, List.append_nil, List.nil_append, List.not_mem_nil, List.mem_cons, or_false, false_or, or_self, not_true_eq_false, not_false_eq_true, false_imp_iff, false_implies, List.map_nil, not_false_eq_true, List.contains_cons, List.contains_nil, Bool.or_false, Bool.false_or, Bool.true_or, Bool.or_true, Bool.and_true, Bool.true_and, implies_true, if_true, if_false, reduceCtorEq, Nat.reduceEqDiff, Nat.reduceBEq, Nat.reduceAdd, reduceIte, ↓reduceIte]
    exact ⟨rfl, rfl⟩
  · rintro j ⟨hj, hk⟩
    have hlt : (l.take j).length = j := by rw [List.length_take]; omega
    by_cases hj2 : (j : Int) < l.length
    · obtain ⟨s, hs⟩ : ∃ s, l[j]? = some s := ⟨_, List.getElem?_eq_getElem (by omega)⟩
      have hg : ∀ z, (l.map sgD).getD (j : Int).toNat z = sgD s := getD_map hs
      obtain ⟨⟨i1, i2, i3, i4⟩, _⟩ := hok j (by omega) s hs
      simp only [sgsD, hg, sgD, sgOf_map, hm, G24s_at, calmE, F_alive, F_fewS, F_map, F_rmap, F_tail24, AV.flat, AV.flat.flatL, List.length_map, goTG_val, goTG_new, goTG_up, goTG_none, goG_none, goG_new, goG_up, ne_eq, evK, evH, retHF, DRun_mk, runT_nil, runT_none, runT_guard, goT_val, goT_new, goT_store, goTH_true, goTH_false, evO, keys, Option.toList_some, Option.toList_none, nzL_nil, nzL_cons, nz_k, nz_sl, nz_nil, nz_agg, startL, evC, evV, goE_val, goE_new, goE_store, goH_true, goH_false, goG_val, lk_cons, lk_nil, lk_func, lk_int, lk_bool, lk_string, lk_slice, lk_agg, look_mk, St.effOf, eff, effCall, effBin, effUn, effConv, effPick, effNil, effFold, fold1, effLoad, effStore, effFieldAddr, effField, fieldOf, sliceOf, effIndexAddr, effIndex, effLen, effExtract, effSlice, bnd, effBuild, placesOf, effBuildSlice, effMakeSlice, effAppend, srcOf, fillA, chunk, seg, toD, toDs, put, eqAV, fieldsEq, leafEq, strip, unw, allB, selP_or, selP_and, tis, TyD.agg, AV.cells, AV.cell, allCell, vInt, vBool, vStr, subL_nil, subL_cons, upIds, AV.ids, AV.ids.idsL, AObj.ids, drops, Hp.get_cons, get_nil, retF, resL, one, fz, fz.fzL, List.map_cons, List.map_nil, List.nil_append, List.append_nil, List.cons_append, List.all_cons, List.all_nil, List.length_cons, List.length_nil, List.getElem?_cons_zero, List.getElem?_cons_succ, List.getD_cons_zero, List.getD_cons_succ, List.take_succ_cons, List.take_zero, List.drop_succ_cons, List.drop_zero, List.take_nil, List.drop_nil, List.contains_cons, List.contains_nil, Option.getD_some, Option.getD_none, Option.map_some, Option.map_none, if_true, if_false, true_and, and_true, and_self, or_self, or_false, false_or, false_and, and_false, reduceCtorEq, sel_and, sel_or, decide_eq_true_eq, Bool.and_eq_true, Bool.or_eq_true, Bool.and_true, Bool.true_and, Bool.or_false, Bool.false_or, Bool.true_or, Bool.or_true, Bool.not_true, Bool.not_false, Bool.false_eq_true, implies_true, not_false_eq_true, Nat.reduceLT, Nat.reduceEqDiff, Nat.reduceAdd, Nat.reduceMul, Nat.reduceMod, Nat.reduceLeDiff, Nat.reduceBEq, Nat.zero_add, Nat.add_zero, reduceIte, ↓reduceIte, List.not_mem_nil]
      rw [if_pos hj2, w64 (n := s.a + down) (by omega) (by omega), w64 (n := s.c + src) (by omega) (by omega)]
      refine ⟨by omega, by omega, by omega, ?_⟩
      by_cases q : s.c > 1073740824
      · rw [if_pos q]
      rw [if_neg q]
      have t1 : (l.take (j + 1)).map (downS down) = (l.take j).map (downS down) ++ [downS down s] := by rw [take_at hs, List.map_append]; rfl
      have t2 : (l.take (j + 1)).map (srcS src) = (l.take j).map (srcS src) ++ [srcS src s] := by rw [take_at hs, List.map_append]; rfl
      refine ⟨by omega, j + 1, by omega, ⟨by omega, fun k hk2 d' hd' => ?_⟩, Le.of (fun o => if o = 100 then 79 else if o = 101 then 95 else o) [] ?_⟩
      · rcases Nat.lt_succ_iff_lt_or_eq.mp hk2 with h | rfl
        · exact hk k h d' hd'
        · rw [hs] at hd'; cases hd'; omega
      · simp only [t1, t2, sgsD, sgD, downS, srcS, List.map_append, List.map_cons, List.map_nil, List.length_append, List.length_map, List.length_cons, List.length_nil, Mt_tup, Mt_agg, Mt_fn, forall_eq, forall_eq_or_imp, ne_eq, List.all_cons, List.all_nil, pr, Nat.reduceLeDiff, slR_nil, slR_cons, hpR_nil, hpR_cells, hpR_row, idsR_nil, idsR_cons, mtE_v, mtE_sl, mtE_nil, mtE_refl, mtE_row, mtE_born, mtE_ptr, mtE_rp, mtE_agg, mtE_tup, mtE_fn, mtE_ep, MtL_nil, MtL_cons, Mt_v, Mt_sl, Mt_nil, Mt_refl, Mt_row, Mt_born, Mt_ptr, MtO_cells, MtO_row, liveIds, distinct, Dat.v.injEq, Dat.sl.injEq, Value.int.injEq, Value.bool.injEq, Value.string.injEq, lk_cons, lk_nil, subL_nil, subL_cons, upIds, AV.ids, AV.ids.idsL, AObj.ids, Hp.get_cons, get_nil, allCell, AV.cell, vInt, vBool, vStr, id, true_and, and_true, and_self, List.append_nil, List.nil_append, List.not_mem_nil, List.mem_cons, or_false, false_or, or_self, not_true_eq_false, not_false_eq_true, false_imp_iff, false_implies, List.map_nil, not_false_eq_true, List.contains_cons, List.contains_nil, Bool.or_false, Bool.false_or, Bool.true_or, Bool.or_true, Bool.and_true, Bool.true_and, implies_true, if_true, if_false, reduceCtorEq, Nat.reduceEqDiff, Nat.reduceBEq, Nat.reduceAdd, reduceIte, ↓reduceIte]
        exact ⟨⟨by rw [hlt, List.length_take]; omega, by rw [hlt, List.length_take]; omega, w64 (by omega) (by omega)⟩, rfl⟩
    · obtain rfl : j = l.length := by omega
      have hta : l.take l.length = l := List.take_of_length_le (Nat.le_refl _)
      have hcs : ∀ s ∈ l, s.c ≤ 1073740824 := fun s hs => by
        obtain ⟨k, hk2⟩ := List.getElem?_of_mem hs
        exact hk k (List.getElem?_eq_some_iff.mp hk2).1 s hk2
      have o1 := ok_down hd0 hd1 hfew.1 hok
      have o2 := ok_src hs0 hs1 hcs hok
      have m1 := mapS_yes o1
      have m2 := mapS_yes o2
      simp only [show (⟨#[32, 32, 32, 32, 32, 32, 32, 32, 32, 32, 32, 32, 32, 32, 32, 32, 32, 32, 32, 32, 32, 32, 32, 32, 32, 32, 32, 32, 32, 32, 32, 32, 32, 32, 32, 32, 32, 32, 32, 32, 32, 32, 32, 32, 32, 32, 32, 32, 32, 32]⟩ : ByteArray) = spB from rfl, hta, sgsD, sgOf_map, hm, m1, m2, G24s_at, calmE, F_alive, F_fewS, F_map, F_rmap, F_tail24, AV.flat, AV.flat.flatL, List.length_map, goTG_val, goTG_new, goTG_up, goTG_none, goG_none, goG_new, goG_up, ne_eq, evK, evH, retHF, DRun_mk, runT_nil, runT_none, runT_guard, goT_val, goT_new, goT_store, goTH_true, goTH_false, evO, keys, Option.toList_some, Option.toList_none, nzL_nil, nzL_cons, nz_k, nz_sl, nz_nil, nz_agg, startL, evC, evV, goE_val, goE_new, goE_store, goH_true, goH_false, goG_val, lk_cons, lk_nil, lk_func, lk_int, lk_bool, lk_string, lk_slice, lk_agg, look_mk, St.effOf, eff, effCall, effBin, effUn, effConv, effPick, effNil, effFold, fold1, effLoad, effStore, effFieldAddr, effField, fieldOf, sliceOf, effIndexAddr, effIndex, effLen, effExtract, effSlice, bnd, effBuild, placesOf, effBuildSlice, effMakeSlice, effAppend, srcOf, fillA, chunk, seg, toD, toDs, put, eqAV, fieldsEq, leafEq, strip, unw, allB, selP_or, selP_and, tis, TyD.agg, AV.cells, AV.cell, allCell, vInt, vBool, vStr, subL_nil, subL_cons, upIds, AV.ids, AV.ids.idsL, AObj.ids, drops, Hp.get_cons, get_nil, retF, resL, one, fz, fz.fzL, List.map_cons, List.map_nil, List.nil_append, List.append_nil, List.cons_append, List.all_cons, List.all_nil, List.length_cons, List.length_nil, List.getElem?_cons_zero, List.getElem?_cons_succ, List.getD_cons_zero, List.getD_cons_succ, List.take_succ_cons, List.take_zero, List.drop_succ_cons, List.drop_zero, List.take_nil, List.drop_nil, List.contains_cons, List.contains_nil, Option.getD_some, Option.getD_none, Option.map_some, Option.map_none, if_true, if_false, true_and, and_true, and_self, or_self, or_false, false_or, false_and, and_false, reduceCtorEq, sel_and, sel_or, decide_eq_true_eq, Bool.and_eq_true, Bool.or_eq_true, Bool.and_true, Bool.true_and, Bool.or_false, Bool.false_or, Bool.true_or, Bool.or_true, Bool.not_true, Bool.not_false, Bool.false_eq_true, implies_true, not_false_eq_true, Nat.reduceLT, Nat.reduceEqDiff, Nat.reduceAdd, Nat.reduceMul, Nat.reduceMod, Nat.reduceLeDiff, Nat.reduceBEq, Nat.zero_add, Nat.add_zero, reduceIte, ↓reduceIte, List.not_mem_nil]
      rw [if_neg hj2]
      obtain ⟨dn, rfl⟩ := Int.eq_ofNat_of_zero_le hd0
      have hsz : (spB.extract (Int.toNat 0) (dn : Int).toNat).size = dn := by rw [ByteArray.size_extract]; show min _ 50 - 0 = _; omega
      have hml := mapB_len hok (Nat.le_refl _)
      have hmt : (mapT l).size = (mapB l l.length).length := ba_size _
      have hml2 := mapB_len o2 (Nat.le_refl _)
      have hmt2 : (mapT (l.map (srcS src))).size = (mapB (l.map (srcS src)) (l.map (srcS src)).length).length := ba_size _
      have e1 : mapT (l.map (downS dn)) = ⟨(List.replicate dn 59).toArray⟩ ++ mapT l := by
        rw [mapT, mapT, ba_app, List.length_map, map_down hl0 hok]
      obtain ⟨s, hs⟩ : ∃ s, l[0]? = some s := ⟨_, List.getElem?_eq_getElem (by omega)⟩
      have e2 : tailB (mapT (l.map (srcS src))).data.toList = tailB (mapT l).data.toList := by
        show tailB (mapB (l.map (srcS src)) (l.map (srcS src)).length).toArray.toList = tailB (mapB l l.length).toArray.toList
        rw [List.toList_toArray, List.toList_toArray, tail_map hs hl0 hok, tail_map (s := srcS src s) (by rw [List.getElem?_map, hs]; rfl) (by rw [List.length_map]; exact hl0) o2, List.length_map, rest_src _ _ (Nat.le_refl _)]
      have hl2 : (l.map (srcS src)).length = l.length := List.length_map ..
      rw [hl2] at hml2 hmt2
      generalize spB.extract (Int.toNat 0) (dn : Int).toNat = semis at hsz ⊢
      refine ⟨by omega, by omega, ⟨by omega, by omega, by show (dn : Int) ≤ 50; omega⟩, ?_⟩
      refine wpc_loop (fun i : Nat => ⟨139, [], [(0, .d (sgsD l)), (8, vStr (mapT l)), (15, vStr (mapT (l.map (downS dn)))), (16, vBool true), (17, vStr (mapT (l.map (srcS src)))), (18, vBool true), (19, vStr semis), (20, vStr ⟨(List.replicate i 59).toArray⟩), (21, vInt .i64 i)], []⟩) (fun i => i ≤ dn) (fun i => dn - i) 0 (Nat.zero_le _) ?_ ?_
      · refine Le.of id [] ?_
        simp only [sgsD, List.replicate_zero, Mt_tup, Mt_agg, Mt_fn, forall_eq, forall_eq_or_imp, ne_eq, List.all_cons, List.all_nil, pr, Nat.reduceLeDiff, slR_nil, slR_cons, hpR_nil, hpR_cells, hpR_row, idsR_nil, idsR_cons, mtE_v, mtE_sl, mtE_nil, mtE_refl, mtE_row, mtE_born, mtE_ptr, mtE_rp, mtE_agg, mtE_tup, mtE_fn, mtE_ep, MtL_nil, MtL_cons, Mt_v, Mt_sl, Mt_nil, Mt_refl, Mt_row, Mt_born, Mt_ptr, MtO_cells, MtO_row, liveIds, distinct, Dat.v.injEq, Dat.sl.injEq, Value.int.injEq, Value.bool.injEq, Value.string.injEq, lk_cons, lk_nil, subL_nil, subL_cons, upIds, AV.ids, AV.ids.idsL, AObj.ids, Hp.get_cons, get_nil, allCell, AV.cell, vInt, vBool, vStr, id, true_and, and_true, and_self, List.append_nil, List.nil_append, List.not_mem_nil, List.mem_cons, or_false, false_or, or_self, not_true_eq_false, not_false_eq_true, false_imp_iff, false_implies, List.map_nil, not_false_eq_true, List.contains_cons, List.contains_nil, Bool.or_false, Bool.false_or, Bool.true_or, Bool.or_true, Bool.and_true, Bool.true_and, implies_true, if_true, if_false, reduceCtorEq, Nat.reduceEqDiff, Nat.reduceBEq, Nat.reduceAdd, reduceIte, ↓reduceIte]
        rfl
      · intro i hi
        by_cases hi2 : (i : Int) < semis.size
        · simp only [sgsD, G24s_at, calmE, F_tail24, AV.flat, AV.flat.flatL, List.length_map, goTG_val, goTG_new, goTG_up, goTG_none, goG_none, goG_new, goG_up, ne_eq, evK, evH, retHF, DRun_mk, runT_nil, runT_none, runT_guard, goT_val, goT_new, goT_store, goTH_true, goTH_false, evO, keys, Option.toList_some, Option.toList_none, nzL_nil, nzL_cons, nz_k, nz_sl, nz_nil, nz_agg, startL, evC, evV, goE_val, goE_new, goE_store, goH_true, goH_false, goG_val, lk_cons, lk_nil, lk_func, lk_int, lk_bool, lk_string, lk_slice, lk_agg, look_mk, St.effOf, eff, effCall, effBin, effUn, effConv, effPick, effNil, effFold, fold1, effLoad, effStore, effFieldAddr, effField, fieldOf, sliceOf, effIndexAddr, effIndex, effLen, effExtract, effSlice, bnd, effBuild, placesOf, effBuildSlice, effMakeSlice, effAppend, srcOf, fillA, chunk, seg, toD, toDs, put, eqAV, fieldsEq, leafEq, strip, unw, allB, selP_or, selP_and, tis, TyD.agg, AV.cells, AV.cell, allCell, vInt, vBool, vStr, subL_nil, subL_cons, upIds, AV.ids, AV.ids.idsL, AObj.ids, drops, Hp.get_cons, get_nil, retF, resL, one, fz, fz.fzL, List.map_cons, List.map_nil, List.nil_append, List.append_nil, List.cons_append, List.all_cons, List.all_nil, List.length_cons, List.length_nil, List.getElem?_cons_zero, List.getElem?_cons_succ, List.getD_cons_zero, List.getD_cons_succ, List.take_succ_cons, List.take_zero, List.drop_succ_cons, List.drop_zero, List.take_nil, List.drop_nil, List.contains_cons, List.contains_nil, Option.getD_some, Option.getD_none, Option.map_some, Option.map_none, if_true, if_false, true_and, and_true, and_self, or_self, or_false, false_or, false_and, and_false, reduceCtorEq, sel_and, sel_or, decide_eq_true_eq, Bool.and_eq_true, Bool.or_eq_true, Bool.and_true, Bool.true_and, Bool.or_false, Bool.false_or, Bool.true_or, Bool.or_true, Bool.not_true, Bool.not_false, Bool.false_eq_true, implies_true, not_false_eq_true, Nat.reduceLT, Nat.reduceEqDiff, Nat.reduceAdd, Nat.reduceMul, Nat.reduceMod, Nat.reduceLeDiff, Nat.reduceBEq, Nat.zero_add, Nat.add_zero, reduceIte, ↓reduceIte, List.not_mem_nil]
          rw [if_pos hi2]
          have e59 : (⟨(List.replicate i 59).toArray⟩ : ByteArray) ++ ⟨#[59]⟩ = ⟨(List.replicate (i + 1) 59).toArray⟩ := by
            have := semi_app [] i
            simpa using this
          refine ⟨by rw [ba_size, List.length_replicate]; show ((i + 1 : Nat) : Int) ≤ _; omega, i + 1, by omega, by omega, Le.of id [] ?_⟩
          rw [e59]
          simp only [sgsD, Mt_tup, Mt_agg, Mt_fn, forall_eq, forall_eq_or_imp, ne_eq, List.all_cons, List.all_nil, pr, Nat.reduceLeDiff, slR_nil, slR_cons, hpR_nil, hpR_cells, hpR_row, idsR_nil, idsR_cons, mtE_v, mtE_sl, mtE_nil, mtE_refl, mtE_row, mtE_born, mtE_ptr, mtE_rp, mtE_agg, mtE_tup, mtE_fn, mtE_ep, MtL_nil, MtL_cons, Mt_v, Mt_sl, Mt_nil, Mt_refl, Mt_row, Mt_born, Mt_ptr, MtO_cells, MtO_row, liveIds, distinct, Dat.v.injEq, Dat.sl.injEq, Value.int.injEq, Value.bool.injEq, Value.string.injEq, lk_cons, lk_nil, subL_nil, subL_cons, upIds, AV.ids, AV.ids.idsL, AObj.ids, Hp.get_cons, get_nil, allCell, AV.cell, vInt, vBool, vStr, id, true_and, and_true, and_self, List.append_nil, List.nil_append, List.not_mem_nil, List.mem_cons, or_false, false_or, or_self, not_true_eq_false, not_false_eq_true, false_imp_iff, false_implies, List.map_nil, not_false_eq_true, List.contains_cons, List.contains_nil, Bool.or_false, Bool.false_or, Bool.true_or, Bool.or_true, Bool.and_true, Bool.true_and, implies_true, if_true, if_false, reduceCtorEq, Nat.reduceEqDiff, Nat.reduceBEq, Nat.reduceAdd, reduceIte, ↓reduceIte]
          exact w64 (by omega) (by omega)
        · obtain rfl : i = dn := by omega
          simp only [e1, e2, sgsD, G24s_at, calmE, F_tail24, AV.flat, AV.flat.flatL, List.length_map, goTG_val, goTG_new, goTG_up, goTG_none, goG_none, goG_new, goG_up, ne_eq, evK, evH, retHF, DRun_mk, runT_nil, runT_none, runT_guard, goT_val, goT_new, goT_store, goTH_true, goTH_false, evO, keys, Option.toList_some, Option.toList_none, nzL_nil, nzL_cons, nz_k, nz_sl, nz_nil, nz_agg, startL, evC, evV, goE_val, goE_new, goE_store, goH_true, goH_false, goG_val, lk_cons, lk_nil, lk_func, lk_int, lk_bool, lk_string, lk_slice, lk_agg, look_mk, St.effOf, eff, effCall, effBin, effUn, effConv, effPick, effNil, effFold, fold1, effLoad, effStore, effFieldAddr, effField, fieldOf, sliceOf, effIndexAddr, effIndex, effLen, effExtract, effSlice, bnd, effBuild, placesOf, effBuildSlice, effMakeSlice, effAppend, srcOf, fillA, chunk, seg, toD, toDs, put, eqAV, fieldsEq, leafEq, strip, unw, allB, selP_or, selP_and, tis, TyD.agg, AV.cells, AV.cell, allCell, vInt, vBool, vStr, subL_nil, subL_cons, upIds, AV.ids, AV.ids.idsL, AObj.ids, drops, Hp.get_cons, get_nil, retF, resL, one, fz, fz.fzL, List.map_cons, List.map_nil, List.nil_append, List.append_nil, List.cons_append, List.all_cons, List.all_nil, List.length_cons, List.length_nil, List.getElem?_cons_zero, List.getElem?_cons_succ, List.getD_cons_zero, List.getD_cons_succ, List.take_succ_cons, List.take_zero, List.drop_succ_cons, List.drop_zero, List.take_nil, List.drop_nil, List.contains_cons, List.contains_nil, Option.getD_some, Option.getD_none, Option.map_some, Option.map_none, if_true, if_false, true_and, and_true, and_self, or_self, or_false, false_or, false_and, and_false, reduceCtorEq, sel_and, sel_or, decide_eq_true_eq, Bool.and_eq_true, Bool.or_eq_true, Bool.and_true, Bool.true_and, Bool.or_false, Bool.false_or, Bool.true_or, Bool.or_true, Bool.not_true, Bool.not_false, Bool.false_eq_true, implies_true, not_false_eq_true, Nat.reduceLT, Nat.reduceEqDiff, Nat.reduceAdd, Nat.reduceMul, Nat.reduceMod, Nat.reduceLeDiff, Nat.reduceBEq, Nat.zero_add, Nat.add_zero, reduceIte, ↓reduceIte, List.not_mem_nil]
          rw [if_neg hi2]
          refine ⟨fun _ => by rw [ba_size, List.length_replicate]; omega, ?_⟩
          rw [if_neg (by simp)]
          refine ⟨fun _ => by omega, fun _ => by omega, ?_⟩
          rw [beq_self_eq_true, Bool.or_true]
end Go.Proofs.Ytgbialeahdoelaa.Eng
