/- Lines and columns, on the small machine. -/
import Derived.Test.YtngjpmeenoohmaaSRef2
import Derived.Test.YtngjpmeenoohmaaLines
namespace Go.Proofs.Ytngjpmeenoohmaa.Eng
open Go Go.Proofs.Ytngjpmeenoohmaa.Base Go.Proofs.Ytngjpmeenoohmaa.Lines
set_option maxRecDepth 100000
set_option linter.unusedSimpArgs false
set_option linter.unusedVariables false
/-- The place of a byte. -/
def plc (l : List Int) (j : Nat) : Int × Int := at_ l.length l j (0, 0)
theorem plc_step {l : List Int} {i : Nat} {p : Int × Int} (hb : Bytes l) (hi : i < l.length) (H : ∀ j, i + j ≤ l.length → plc l (i + j) = at_ (l.length - i) (l.drop i) j p) :
    ∃ r k ok, Utf.nx l i = (r, ((k : Nat) : Int), ok) ∧ 1 ≤ k ∧ i + k ≤ l.length ∧ plc l i = p ∧ (∀ j, i < j → j < i + k → plc l j = (p.1, p.2 + units r)) ∧
      (∀ j, i + k + j ≤ l.length → plc l (i + k + j) = at_ (l.length - (i + k)) (l.drop (i + k)) j (stp p r (l.drop (i + k)))) := by
  have hne : l.drop i ≠ [] := fun h => by
    have := List.drop_eq_nil_iff.mp h
    omega
  have hbd : Bytes (l.drop i) := fun x hx => hb x (List.mem_of_mem_drop hx)
  have hd := Utf.dec_len hbd hne
  rw [List.length_drop] at hd
  have hnx : Utf.nx l i = Utf.dec (l.drop i) := by rw [Utf.nx, if_neg (by omega), Int.toNat_natCast]
  obtain ⟨m, hm⟩ : ∃ m, l.length - i = m + 1 := ⟨l.length - i - 1, by omega⟩
  rw [hm] at H
  have hin := fun j p h0 h => at_in (n := m) (l := l.drop i) (off := j) p h0 hne h
  have hout := fun j p h0 h => at_out (n := m) (l := l.drop i) (off := j) p h0 hne h
  rw [hnx]
  generalize Utf.dec (l.drop i) = q at hd hin hout ⊢
  obtain ⟨r, n, ok⟩ := q
  simp only [] at hd hin hout
  obtain ⟨k, rfl⟩ := Int.eq_ofNat_of_zero_le (show 0 ≤ n by omega)
  simp only [Int.toNat_natCast, List.drop_drop] at hin hout
  refine ⟨r, k, ok, rfl, by omega, by omega, ?_, fun j h1 h2 => ?_, fun j hj => ?_⟩
  · have := H 0 (by omega)
    rwa [at_zero] at this
  · have := H (j - i) (by omega)
    rw [show i + (j - i) = j by omega] at this
    rw [this, hin _ _ (by omega) (by omega)]
  · have := H (k + j) (by omega)
    rw [← Nat.add_assoc] at this
    rw [this, hout _ _ (by omega) (by omega), Nat.add_sub_cancel_left]
    exact at_fuel _ _ _ _ _ (fun x hx => hb x (List.mem_of_mem_drop hx)) (by rw [List.length_drop]; exact Nat.le_refl _) (by omega)
section
open Utf
theorem dec_multi {c : Int} {t : List Int} (hb : Bytes (c :: t)) {m : Nat} (hm : (dec (c :: t)).2.1 = (m : Int)) (h1 : 1 < m) : ∀ x ∈ (c :: t).take m, 128 ≤ x := by
  rcases hd : dec (c :: t) with ⟨r, n, ok⟩
  rw [hd] at hm
  simp only at hm
  cases ok with
  | false =>
    have := dec_false (by simp) (show (dec (c :: t)).2.2 = false by rw [hd])
    rw [hd] at this
    simp only [bad, Prod.mk.injEq] at this
    omega
  | true =>
    obtain ⟨hr, hn, t', ht⟩ := enc_dec hb hd
    have hl := @enc_size r
    rw [ht, show m = (enc r).length by omega, List.take_left]
    have hsz : size r ≠ 1 := by omega
    unfold isCp at hr
    unfold size at hsz
    intro x hx
    unfold enc at hx
    (repeat' split at hx) <;> simp only [List.mem_cons, List.not_mem_nil, or_false] at hx
    · rw [if_pos (by assumption)] at hsz
      omega
    · rcases hx with rfl | rfl <;> omega
    · rcases hx with rfl | rfl | rfl <;> omega
    · rcases hx with rfl | rfl | rfl | rfl <;> omega
/-- A code point of one byte ends a line just if the byte does. -/
theorem dec_single {c : Int} {t : List Int} (hb : Bytes (c :: t)) : brk (dec (c :: t)).1 t ↔ brk c t := by
  have hc := hb.head
  by_cases h : c < 128
  · have : dec (c :: t) = (c, 1, true) := by simp only [dec, if_pos h]
    rw [this]
  · have h1 : ¬ brk c t := by unfold brk; omega
    refine iff_of_false (fun hk => ?_) h1
    have hr : (dec (c :: t)).1 < 128 := by unfold brk at hk; omega
    rcases hd : dec (c :: t) with ⟨r, n, ok⟩
    rw [hd] at hr
    simp only at hr
    cases ok with
    | false =>
      have := dec_false (by simp) (show (dec (c :: t)).2.2 = false by rw [hd])
      rw [hd] at this
      simp only [bad, Prod.mk.injEq] at this
      omega
    | true =>
      obtain ⟨_, _, t', ht⟩ := enc_dec hb hd
      unfold enc at ht
      rw [if_pos hr] at ht
      simp only [List.cons_append, List.nil_append, List.cons.injEq] at ht
      omega
end
/-- Up to a byte where a line ends. -/
theorem at_walk : ∀ (n i : Nat) (t : List Int) (off : Nat) (p : Int × Int), t.length ≤ n → Bytes t → (hi : i < t.length) → (∀ (j : Nat) (c : Int) (u : List Int), j < i → t.drop j = c :: u → ¬ brk c u) → (∀ c u, t.drop i = c :: u → brk c u) → i < off →
    at_ n t off p = at_ (t.length - (i + 1)) (t.drop (i + 1)) (off - (i + 1)) (p.1 + 1, 0)
  | 0, i, t, off, p, hn, _, hi, _, _, _ => by omega
  | n + 1, i, c :: t, off, p, hn, hb, hi, h1, h2, ho => by
    have hne : c :: t ≠ [] := by simp
    have hd := Utf.dec_len hb hne
    have hs := dec_single hb
    have hm := fun m hm => dec_multi (m := m) hb hm
    have hout := fun h => at_out (n := n) (l := c :: t) (off := off) p (by omega) hne h
    simp only [List.length_cons] at hd hn hi
    have hdd : Utf.dec (c :: t) = ((Utf.dec (c :: t)).1, (Utf.dec (c :: t)).2.1, (Utf.dec (c :: t)).2.2) := rfl
    by_cases h3 : (Utf.dec (c :: t)).2.1 = 1
    · rw [h3] at hout
      simp only [show (1 : Int).toNat = 1 from rfl, List.drop_succ_cons, List.drop_zero] at hout
      rw [hout (by omega)]
      by_cases h0 : i = 0
      · subst h0
        have := h2 c t rfl
        rw [stp, if_pos (hs.mpr this)]
        simp only [List.length_cons, Nat.zero_add, Nat.add_sub_cancel, List.drop_succ_cons, List.drop_zero]
        exact at_fuel _ _ _ _ _ (fun x hx => hb x (List.mem_cons_of_mem _ hx)) (Nat.le_refl _) (by omega)
      · have hnb := h1 0 c t (by omega) rfl
        rw [stp, if_neg (fun q => hnb (hs.mp q))]
        obtain ⟨i, rfl⟩ : ∃ k, i = k + 1 := ⟨i - 1, by omega⟩
        rw [at_walk n i t (off - 1) _ (by omega) (fun x hx => hb x (List.mem_cons_of_mem _ hx)) (by omega) (fun j c' u hj e => h1 (j + 1) c' u (by omega) e) (fun c' u e => h2 c' u e) (by omega)]
        simp only [List.length_cons, List.drop_succ_cons]
        rw [show t.length + 1 - (i + 1 + 1) = t.length - (i + 1) by omega, show off - 1 - (i + 1) = off - (i + 1 + 1) by omega]
    · obtain ⟨m, hmm⟩ := Int.eq_ofNat_of_zero_le (show 0 ≤ (Utf.dec (c :: t)).2.1 by omega)
      have hbig := hm m hmm (by omega)
      have hbyte : ∀ j, j < m → ∀ c' u, (c :: t).drop j = c' :: u → ¬ brk c' u := fun j hj c' u e hk => by
        have : c' ∈ (c :: t).take m := by
          have e2 : (c :: t)[j]? = some c' := by
            rw [← Nat.add_zero j, ← List.getElem?_drop, e]; rfl
          exact List.mem_of_getElem? (i := j) (by rw [List.getElem?_take, if_pos hj]; exact e2)
        have := hbig c' this
        unfold brk at hk
        omega
      have him : m ≤ i := by
        rcases Nat.lt_or_ge i m with h | h
        · exfalso
          have e := List.drop_eq_getElem_cons (show i < (c :: t).length by simp only [List.length_cons]; omega)
          exact hbyte i h _ _ e (h2 _ _ e)
        · exact h
      rw [hmm] at hout hd
      simp only [show ((m : Nat) : Int).toNat = m from Int.toNat_natCast m] at hout
      have hdl : ((c :: t).drop m).length = t.length + 1 - m := by rw [List.length_drop, List.length_cons]
      have hbm : Bytes ((c :: t).drop m) := fun x hx => hb x (List.mem_of_mem_drop hx)
      rw [hout (by omega)]
      have hnb : ¬ brk (Utf.dec (c :: t)).1 ((c :: t).drop m) := fun q => by
        have := brk_one hb hne q
        omega
      rw [stp, if_neg hnb, at_walk n (i - m) ((c :: t).drop m) (off - m) _ (by omega) hbm (by omega) (fun j c' u hj e => h1 (m + j) c' u (by omega) (by rw [← List.drop_drop]; exact e))
        (fun c' u e => h2 c' u (by rw [List.drop_drop, show m + (i - m) = i by omega] at e; exact e)) (by omega)]
      rw [hdl, List.drop_drop, show m + (i - m + 1) = i + 1 by omega, show t.length + 1 - m - (i - m + 1) = (c :: t).length - (i + 1) by simp only [List.length_cons]; omega, show off - m - (i - m + 1) = off - (i + 1) by omega]
def F_units : List AV → Option (Prop × AV)
  | [.d (.v (.int .i64 r))] => some (True, vInt .i64 (units r))
  | _ => none
theorem units_body {Γ : Gam} (r : Int) : Body Try.prog Γ (DRun Try.prog Γ) 24 [.d (.v (.int .i64 r))] (vInt .i64 (units r)) := by
  refine Body.of Try.func24 Try.ntmps24 (by kernel_rfl) rfl rfl rfl ?_
  simp only [goTG_val, goTG_new, goTG_up, goTG_none, goG_none, goG_new, goG_up, ne_eq, evK, evH, retHF, DRun_mk, runT_nil, runT_none, runT_guard, goT_val, goT_new, goT_store, goTH_true, goTH_false, evO, keys, Option.toList_some, Option.toList_none, nzL_nil, nzL_cons, nz_k, nz_sl, nz_nil, nz_agg, startL, evC, evV, goE_val, goE_new, goE_store, goH_true, goH_false, goG_val, lk_cons, lk_nil, lk_func, lk_int, lk_bool, lk_string, lk_slice, lk_agg, look_mk, St.effOf, eff, effCall, effBin, effUn, effConv, effPick, effNil, effFold, fold1, effLoad, effStore, effFieldAddr, effField, fieldOf, sliceOf, effIndexAddr, effIndex, effLen, effExtract, effSlice, bnd, effBuild, placesOf, effBuildSlice, effMakeSlice, effAppend, srcOf, fillA, chunk, seg, toD, toDs, put, eqAV, fieldsEq, leafEq, strip, unw, allB, selP_or, selP_and, tis, TyD.agg, AV.cells, AV.cell, allCell, vInt, vBool, vStr, subL_nil, subL_cons, upIds, AV.ids, AV.ids.idsL, AObj.ids, drops, Hp.get_cons, get_nil, retF, resL, one, fz, fz.fzL, List.map_cons, List.map_nil, List.nil_append, List.append_nil, List.cons_append, List.all_cons, List.all_nil, List.length_cons, List.length_nil, List.getElem?_cons_zero, List.getElem?_cons_succ, List.getD_cons_zero, List.getD_cons_succ, List.take_succ_cons, List.take_zero, List.drop_succ_cons, List.drop_zero, List.take_nil, List.drop_nil, List.contains_cons, List.contains_nil, Option.getD_some, Option.getD_none, Option.map_some, Option.map_none, if_true, if_false, true_and, and_true, and_self, or_self, or_false, false_or, false_and, and_false, reduceCtorEq, sel_and, sel_or, decide_eq_true_eq, Bool.and_eq_true, Bool.or_eq_true, Bool.and_true, Bool.true_and, Bool.or_false, Bool.false_or, Bool.true_or, Bool.or_true, Bool.not_true, Bool.not_false, Bool.false_eq_true, implies_true, not_false_eq_true, Nat.reduceLT, Nat.reduceEqDiff, Nat.reduceAdd, Nat.reduceMul, Nat.reduceMod, Nat.reduceLeDiff, Nat.reduceBEq, Nat.zero_add, Nat.add_zero, reduceIte, ↓reduceIte, List.not_mem_nil]
  unfold units
  split <;> exact Sub.refl _
theorem units_calm : ∀ args sc res, F_units args = some (sc, res) → sc → Calm Try.prog 24 args res := by
  intro args sc res h _
  unfold F_units at h
  split at h <;> cases h
  exact (Known.none _).calm mixed rfl rfl (units_body _)
theorem runits_body {Γ : Gam} (r : Int) : Body Try.prog Γ (DRun Try.prog Γ) 22 [.d (.v (.int .i64 r))] (vInt .i64 (units r)) := by
  refine Body.of Try.func22 Try.ntmps22 (by kernel_rfl) rfl rfl rfl ?_
  simp only [goTG_val, goTG_new, goTG_up, goTG_none, goG_none, goG_new, goG_up, ne_eq, evK, evH, retHF, DRun_mk, runT_nil, runT_none, runT_guard, goT_val, goT_new, goT_store, goTH_true, goTH_false, evO, keys, Option.toList_some, Option.toList_none, nzL_nil, nzL_cons, nz_k, nz_sl, nz_nil, nz_agg, startL, evC, evV, goE_val, goE_new, goE_store, goH_true, goH_false, goG_val, lk_cons, lk_nil, lk_func, lk_int, lk_bool, lk_string, lk_slice, lk_agg, look_mk, St.effOf, eff, effCall, effBin, effUn, effConv, effPick, effNil, effFold, fold1, effLoad, effStore, effFieldAddr, effField, fieldOf, sliceOf, effIndexAddr, effIndex, effLen, effExtract, effSlice, bnd, effBuild, placesOf, effBuildSlice, effMakeSlice, effAppend, srcOf, fillA, chunk, seg, toD, toDs, put, eqAV, fieldsEq, leafEq, strip, unw, allB, selP_or, selP_and, tis, TyD.agg, AV.cells, AV.cell, allCell, vInt, vBool, vStr, subL_nil, subL_cons, upIds, AV.ids, AV.ids.idsL, AObj.ids, drops, Hp.get_cons, get_nil, retF, resL, one, fz, fz.fzL, List.map_cons, List.map_nil, List.nil_append, List.append_nil, List.cons_append, List.all_cons, List.all_nil, List.length_cons, List.length_nil, List.getElem?_cons_zero, List.getElem?_cons_succ, List.getD_cons_zero, List.getD_cons_succ, List.take_succ_cons, List.take_zero, List.drop_succ_cons, List.drop_zero, List.take_nil, List.drop_nil, List.contains_cons, List.contains_nil, Option.getD_some, Option.getD_none, Option.map_some, Option.map_none, if_true, if_false, true_and, and_true, and_self, or_self, or_false, false_or, false_and, and_false, reduceCtorEq, sel_and, sel_or, decide_eq_true_eq, Bool.and_eq_true, Bool.or_eq_true, Bool.and_true, Bool.true_and, Bool.or_false, Bool.false_or, Bool.true_or, Bool.or_true, Bool.not_true, Bool.not_false, Bool.false_eq_true, implies_true, not_false_eq_true, Nat.reduceLT, Nat.reduceEqDiff, Nat.reduceAdd, Nat.reduceMul, Nat.reduceMod, Nat.reduceLeDiff, Nat.reduceBEq, Nat.zero_add, Nat.add_zero, reduceIte, ↓reduceIte, List.not_mem_nil]
  unfold units
  split <;> exact Sub.refl _
theorem runits_calm : ∀ args sc res, F_units args = some (sc, res) → sc → Calm Try.prog 22 args res := by
  intro args sc res h _
  unfold F_units at h
  split at h <;> cases h
  exact (Known.none _).calm mixed rfl rfl (runits_body _)
/-- Places as data. -/
def pD (p : Int × Int) : List Dat := [.v (.int .i64 p.1), .v (.int .i64 p.2)]
def plcs (l : List Int) : List (Int × Int) := (List.range (l.length + 1)).map (plc l)
noncomputable def G_lin : Gam := (Gam.none.add 23 fun a => F_Next (NT.nz.nzL [.s 1, .k] a)).add 24 F_units
theorem G_lin_at : (∀ h d a, G_lin 23 h d a = calmE (fun a => F_Next (NT.nz.nzL [.s 1, .k] a)) h a) ∧ (∀ h d a, G_lin 24 h d a = calmE F_units h a) := ⟨fun _ _ _ => rfl, fun _ _ _ => rfl⟩
theorem all_body (l : List Int) (hb : Bytes l) (hl : l.length ≤ 1000000000) : Body Try.prog G_lin (DRun Try.prog G_lin) 16 [.d (bytesD l)] (.d (.sl 2 ((plcs l).map pD))) := by
  refine Body.of Try.func16 Try.ntmps16 (by kernel_rfl) rfl rfl rfl ?_
  simp only [bytesD, G_lin_at, calmE, F_Next, F_units, AV.flat, AV.flat.flatL, getD_iD, iD, num_iD, List.length_map, goTG_val, goTG_new, goTG_up, goTG_none, goG_none, goG_new, goG_up, ne_eq, evK, evH, retHF, DRun_mk, runT_nil, runT_none, runT_guard, goT_val, goT_new, goT_store, goTH_true, goTH_false, evO, keys, Option.toList_some, Option.toList_none, nzL_nil, nzL_cons, nz_k, nz_sl, nz_nil, nz_agg, startL, evC, evV, goE_val, goE_new, goE_store, goH_true, goH_false, goG_val, lk_cons, lk_nil, lk_func, lk_int, lk_bool, lk_string, lk_slice, lk_agg, look_mk, St.effOf, eff, effCall, effBin, effUn, effConv, effPick, effNil, effFold, fold1, effLoad, effStore, effFieldAddr, effField, fieldOf, sliceOf, effIndexAddr, effIndex, effLen, effExtract, effSlice, bnd, effBuild, placesOf, effBuildSlice, effMakeSlice, effAppend, srcOf, fillA, chunk, seg, toD, toDs, put, eqAV, fieldsEq, leafEq, strip, unw, allB, selP_or, selP_and, tis, TyD.agg, AV.cells, AV.cell, allCell, vInt, vBool, vStr, subL_nil, subL_cons, upIds, AV.ids, AV.ids.idsL, AObj.ids, drops, Hp.get_cons, get_nil, retF, resL, one, fz, fz.fzL, List.map_cons, List.map_nil, List.nil_append, List.append_nil, List.cons_append, List.all_cons, List.all_nil, List.length_cons, List.length_nil, List.getElem?_cons_zero, List.getElem?_cons_succ, List.getD_cons_zero, List.getD_cons_succ, List.take_succ_cons, List.take_zero, List.drop_succ_cons, List.drop_zero, List.take_nil, List.drop_nil, List.contains_cons, List.contains_nil, Option.getD_some, Option.getD_none, Option.map_some, Option.map_none, if_true, if_false, true_and, and_true, and_self, or_self, or_false, false_or, false_and, and_false, reduceCtorEq, sel_and, sel_or, decide_eq_true_eq, Bool.and_eq_true, Bool.or_eq_true, Bool.and_true, Bool.true_and, Bool.or_false, Bool.false_or, Bool.true_or, Bool.or_true, Bool.not_true, Bool.not_false, Bool.false_eq_true, implies_true, not_false_eq_true, Nat.reduceLT, Nat.reduceEqDiff, Nat.reduceAdd, Nat.reduceMul, Nat.reduceMod, Nat.reduceLeDiff, Nat.reduceBEq, Nat.zero_add, Nat.add_zero, reduceIte, ↓reduceIte, List.not_mem_nil]
  rw [w64 (n := (l.length : Int) + 1) (by omega) (by omega)]
  refine ⟨by omega, ?_⟩
  refine wpc_loop (fun q : List (Int × Int) × (Int × Int) × Nat => ⟨80, [103, 104], [(0, .d (bytesD l)), (3, .row 103 (l.length + 1)), (4, .ptr 104 0), (5, vInt .i64 q.2.2)], [(103, some (.row 48 2 (q.1.map pD))), (104, some (.cells 48 ((pD q.2.1).map .d)))]⟩)
    (fun q => q.2.2 ≤ l.length ∧ q.1.length = l.length + 1 ∧ (∀ j, j < q.2.2 → q.1[j]? = some (plc l j)) ∧ (∀ j, q.2.2 + j ≤ l.length → plc l (q.2.2 + j) = at_ (l.length - q.2.2) (l.drop q.2.2) j q.2.1) ∧ 0 ≤ q.2.1.1 ∧ q.2.1.1 ≤ q.2.2 ∧ 0 ≤ q.2.1.2 ∧ q.2.1.2 ≤ 2 * q.2.2) (fun q => l.length - q.2.2) (List.replicate (l.length + 1) (0, 0), (0, 0), 0)
    ⟨Nat.zero_le _, List.length_replicate, fun j hj => absurd hj (Nat.not_lt_zero j), fun j hj => by simp only [Nat.zero_add, Nat.sub_zero, List.drop_zero]; rfl, Int.le_refl _, Int.le_refl _, Int.le_refl _, Int.le_refl _⟩ ?_ ?_
  · refine Le.of (fun o => if o = 103 then 13 else 4) [] ?_
    simp only [bytesD, pD, List.map_cons, List.map_nil, Mt_tup, Mt_agg, Mt_fn, forall_eq, forall_eq_or_imp, ne_eq, List.all_cons, List.all_nil, pr, Nat.reduceLeDiff, slR_nil, slR_cons, hpR_nil, hpR_cells, hpR_row, idsR_nil, idsR_cons, mtE_v, mtE_sl, mtE_nil, mtE_refl, mtE_row, mtE_born, mtE_ptr, mtE_rp, mtE_agg, mtE_tup, mtE_fn, mtE_ep, MtL_nil, MtL_cons, Mt_v, Mt_sl, Mt_nil, Mt_refl, Mt_row, Mt_born, Mt_ptr, MtO_cells, MtO_row, liveIds, distinct, Dat.v.injEq, Dat.sl.injEq, Value.int.injEq, Value.bool.injEq, Value.string.injEq, lk_cons, lk_nil, subL_nil, subL_cons, upIds, AV.ids, AV.ids.idsL, AObj.ids, Hp.get_cons, get_nil, allCell, AV.cell, vInt, vBool, vStr, id, true_and, and_true, and_self, List.append_nil, List.nil_append, List.not_mem_nil, List.mem_cons, or_false, false_or, or_self, not_true_eq_false, not_false_eq_true, false_imp_iff, false_implies, List.map_nil, not_false_eq_true, List.contains_cons, List.contains_nil, Bool.or_false, Bool.false_or, Bool.true_or, Bool.or_true, Bool.and_true, Bool.true_and, implies_true, if_true, if_false, reduceCtorEq, Nat.reduceEqDiff, Nat.reduceBEq, Nat.reduceAdd, reduceIte, ↓reduceIte]
    exact ⟨⟨by omega, rfl⟩, by rw [show ((l.length : Int) + 1).toNat = l.length + 1 by omega, List.map_replicate]; rfl, rfl⟩
  · rintro ⟨T, p, i⟩ ⟨hi, hT, hpre, H, g0, g1, g2, g3⟩
    simp only [] at hi hT hpre H g0 g1 g2 g3
    simp only [bytesD, pD, List.map_cons, List.map_nil, G_lin_at, calmE, F_Next, F_units, AV.flat, AV.flat.flatL, getD_iD, iD, num_iD, List.length_map, goTG_val, goTG_new, goTG_up, goTG_none, goG_none, goG_new, goG_up, ne_eq, evK, evH, retHF, DRun_mk, runT_nil, runT_none, runT_guard, goT_val, goT_new, goT_store, goTH_true, goTH_false, evO, keys, Option.toList_some, Option.toList_none, nzL_nil, nzL_cons, nz_k, nz_sl, nz_nil, nz_agg, startL, evC, evV, goE_val, goE_new, goE_store, goH_true, goH_false, goG_val, lk_cons, lk_nil, lk_func, lk_int, lk_bool, lk_string, lk_slice, lk_agg, look_mk, St.effOf, eff, effCall, effBin, effUn, effConv, effPick, effNil, effFold, fold1, effLoad, effStore, effFieldAddr, effField, fieldOf, sliceOf, effIndexAddr, effIndex, effLen, effExtract, effSlice, bnd, effBuild, placesOf, effBuildSlice, effMakeSlice, effAppend, srcOf, fillA, chunk, seg, toD, toDs, put, eqAV, fieldsEq, leafEq, strip, unw, allB, selP_or, selP_and, tis, TyD.agg, AV.cells, AV.cell, allCell, vInt, vBool, vStr, subL_nil, subL_cons, upIds, AV.ids, AV.ids.idsL, AObj.ids, drops, Hp.get_cons, get_nil, retF, resL, one, fz, fz.fzL, List.map_cons, List.map_nil, List.nil_append, List.append_nil, List.cons_append, List.all_cons, List.all_nil, List.length_cons, List.length_nil, List.getElem?_cons_zero, List.getElem?_cons_succ, List.getD_cons_zero, List.getD_cons_succ, List.take_succ_cons, List.take_zero, List.drop_succ_cons, List.drop_zero, List.take_nil, List.drop_nil, List.contains_cons, List.contains_nil, Option.getD_some, Option.getD_none, Option.map_some, Option.map_none, if_true, if_false, true_and, and_true, and_self, or_self, or_false, false_or, false_and, and_false, reduceCtorEq, sel_and, sel_or, decide_eq_true_eq, Bool.and_eq_true, Bool.or_eq_true, Bool.and_true, Bool.true_and, Bool.or_false, Bool.false_or, Bool.true_or, Bool.or_true, Bool.not_true, Bool.not_false, Bool.false_eq_true, implies_true, not_false_eq_true, Nat.reduceLT, Nat.reduceEqDiff, Nat.reduceAdd, Nat.reduceMul, Nat.reduceMod, Nat.reduceLeDiff, Nat.reduceBEq, Nat.zero_add, Nat.add_zero, reduceIte, ↓reduceIte, List.not_mem_nil]
    by_cases h1 : (i : Int) < l.length
    · rw [if_pos h1]
      refine ⟨⟨hb, by omega⟩, ?_⟩
      obtain ⟨r, k, ok, e, k1, k2, k3, k4, k5⟩ := plc_step hb (by omega) H
      have hu := units_range r
      simp only [e]
      refine ⟨by omega, by omega, by kernel_rfl, ?_⟩
      rw [w64 (n := (i : Int) + 1) (by omega) (by omega), w64 (n := p.2 + units r) (by omega) (by omega)]
      refine wpc_loop (fun q : List (Int × Int) × Nat => ⟨80, [103, 104], [(0, .d (bytesD l)), (3, .row 103 (l.length + 1)), (4, .ptr 104 0), (5, vInt .i64 i), (6, vInt .i64 r), (7, vInt .i64 k), (9, vInt .i64 q.2)], [(103, some (.row 48 2 (q.1.map pD))), (104, some (.cells 48 ((pD (p.1, p.2 + units r)).map .d)))]⟩)
        (fun q => i + 1 ≤ q.2 ∧ q.2 ≤ i + k ∧ q.1.length = l.length + 1 ∧ (∀ j, j < i → q.1[j]? = some (plc l j)) ∧ q.1[i]? = some p ∧ ∀ j, i < j → j < q.2 → q.1[j]? = some (p.1, p.2 + units r)) (fun q => i + k - q.2) (T.set i p, i + 1)
        ⟨Nat.le_refl _, by simp only []; omega, by simp only [List.length_set]; exact hT, fun j hj => by simp only [List.getElem?_set]; rw [if_neg (by omega)]; exact hpre j hj, by simp only [List.getElem?_set]; rw [if_pos trivial, if_pos (by omega)], fun j h1 h2 => by simp only [] at h2; omega⟩ ?_ ?_
      · refine Le.of id [] ?_
        simp only [bytesD, pD, List.map_cons, List.map_nil, Mt_tup, Mt_agg, Mt_fn, forall_eq, forall_eq_or_imp, ne_eq, List.all_cons, List.all_nil, pr, Nat.reduceLeDiff, slR_nil, slR_cons, hpR_nil, hpR_cells, hpR_row, idsR_nil, idsR_cons, mtE_v, mtE_sl, mtE_nil, mtE_refl, mtE_row, mtE_born, mtE_ptr, mtE_rp, mtE_agg, mtE_tup, mtE_fn, mtE_ep, MtL_nil, MtL_cons, Mt_v, Mt_sl, Mt_nil, Mt_refl, Mt_row, Mt_born, Mt_ptr, MtO_cells, MtO_row, liveIds, distinct, Dat.v.injEq, Dat.sl.injEq, Value.int.injEq, Value.bool.injEq, Value.string.injEq, lk_cons, lk_nil, subL_nil, subL_cons, upIds, AV.ids, AV.ids.idsL, AObj.ids, Hp.get_cons, get_nil, allCell, AV.cell, vInt, vBool, vStr, id, true_and, and_true, and_self, List.append_nil, List.nil_append, List.not_mem_nil, List.mem_cons, or_false, false_or, or_self, not_true_eq_false, not_false_eq_true, false_imp_iff, false_implies, List.map_nil, not_false_eq_true, List.contains_cons, List.contains_nil, Bool.or_false, Bool.false_or, Bool.true_or, Bool.or_true, Bool.and_true, Bool.true_and, implies_true, if_true, if_false, reduceCtorEq, Nat.reduceEqDiff, Nat.reduceBEq, Nat.reduceAdd, reduceIte, ↓reduceIte]
        exact ⟨by omega, by rw [List.map_set, Int.toNat_natCast]; rfl, rfl⟩
      · rintro ⟨T', i'⟩ ⟨u1, u2, u3, u4, u5, u6⟩
        simp only [] at u1 u2 u3 u4 u5 u6
        simp only [bytesD, pD, List.map_cons, List.map_nil, G_lin_at, calmE, F_Next, F_units, AV.flat, AV.flat.flatL, getD_iD, iD, num_iD, List.length_map, goTG_val, goTG_new, goTG_up, goTG_none, goG_none, goG_new, goG_up, ne_eq, evK, evH, retHF, DRun_mk, runT_nil, runT_none, runT_guard, goT_val, goT_new, goT_store, goTH_true, goTH_false, evO, keys, Option.toList_some, Option.toList_none, nzL_nil, nzL_cons, nz_k, nz_sl, nz_nil, nz_agg, startL, evC, evV, goE_val, goE_new, goE_store, goH_true, goH_false, goG_val, lk_cons, lk_nil, lk_func, lk_int, lk_bool, lk_string, lk_slice, lk_agg, look_mk, St.effOf, eff, effCall, effBin, effUn, effConv, effPick, effNil, effFold, fold1, effLoad, effStore, effFieldAddr, effField, fieldOf, sliceOf, effIndexAddr, effIndex, effLen, effExtract, effSlice, bnd, effBuild, placesOf, effBuildSlice, effMakeSlice, effAppend, srcOf, fillA, chunk, seg, toD, toDs, put, eqAV, fieldsEq, leafEq, strip, unw, allB, selP_or, selP_and, tis, TyD.agg, AV.cells, AV.cell, allCell, vInt, vBool, vStr, subL_nil, subL_cons, upIds, AV.ids, AV.ids.idsL, AObj.ids, drops, Hp.get_cons, get_nil, retF, resL, one, fz, fz.fzL, List.map_cons, List.map_nil, List.nil_append, List.append_nil, List.cons_append, List.all_cons, List.all_nil, List.length_cons, List.length_nil, List.getElem?_cons_zero, List.getElem?_cons_succ, List.getD_cons_zero, List.getD_cons_succ, List.take_succ_cons, List.take_zero, List.drop_succ_cons, List.drop_zero, List.take_nil, List.drop_nil, List.contains_cons, List.contains_nil, Option.getD_some, Option.getD_none, Option.map_some, Option.map_none, if_true, if_false, true_and, and_true, and_self, or_self, or_false, false_or, false_and, and_false, reduceCtorEq, sel_and, sel_or, decide_eq_true_eq, Bool.and_eq_true, Bool.or_eq_true, Bool.and_true, Bool.true_and, Bool.or_false, Bool.false_or, Bool.true_or, Bool.or_true, Bool.not_true, Bool.not_false, Bool.false_eq_true, implies_true, not_false_eq_true, Nat.reduceLT, Nat.reduceEqDiff, Nat.reduceAdd, Nat.reduceMul, Nat.reduceMod, Nat.reduceLeDiff, Nat.reduceBEq, Nat.zero_add, Nat.add_zero, reduceIte, ↓reduceIte, List.not_mem_nil]
        rw [w64 (n := (i : Int) + k) (by omega) (by omega)]
        by_cases h2 : (i' : Int) < (i : Int) + k
        · rw [if_pos h2]
          refine ⟨by omega, by omega, (T'.set i' (p.1, p.2 + units r), i' + 1), by simp only []; omega, ⟨by simp only []; omega, by simp only []; omega, by simp only [List.length_set]; exact u3, fun j hj => ?_, ?_, fun j hj hj2 => ?_⟩, Le.of id [] ?_⟩
          · simp only [List.getElem?_set]; rw [if_neg (by omega)]; exact u4 j hj
          · simp only [List.getElem?_set]; rw [if_neg (by omega)]; exact u5
          · simp only [List.getElem?_set]
            by_cases hji : i' = j
            · rw [if_pos hji, if_pos (by omega)]
            · rw [if_neg hji]; exact u6 j hj (by simp only [] at hj2; omega)
          · simp only [bytesD, pD, List.map_cons, List.map_nil, Mt_tup, Mt_agg, Mt_fn, forall_eq, forall_eq_or_imp, ne_eq, List.all_cons, List.all_nil, pr, Nat.reduceLeDiff, slR_nil, slR_cons, hpR_nil, hpR_cells, hpR_row, idsR_nil, idsR_cons, mtE_v, mtE_sl, mtE_nil, mtE_refl, mtE_row, mtE_born, mtE_ptr, mtE_rp, mtE_agg, mtE_tup, mtE_fn, mtE_ep, MtL_nil, MtL_cons, Mt_v, Mt_sl, Mt_nil, Mt_refl, Mt_row, Mt_born, Mt_ptr, MtO_cells, MtO_row, liveIds, distinct, Dat.v.injEq, Dat.sl.injEq, Value.int.injEq, Value.bool.injEq, Value.string.injEq, lk_cons, lk_nil, subL_nil, subL_cons, upIds, AV.ids, AV.ids.idsL, AObj.ids, Hp.get_cons, get_nil, allCell, AV.cell, vInt, vBool, vStr, id, true_and, and_true, and_self, List.append_nil, List.nil_append, List.not_mem_nil, List.mem_cons, or_false, false_or, or_self, not_true_eq_false, not_false_eq_true, false_imp_iff, false_implies, List.map_nil, not_false_eq_true, List.contains_cons, List.contains_nil, Bool.or_false, Bool.false_or, Bool.true_or, Bool.or_true, Bool.and_true, Bool.true_and, implies_true, if_true, if_false, reduceCtorEq, Nat.reduceEqDiff, Nat.reduceBEq, Nat.reduceAdd, reduceIte, ↓reduceIte]
            exact ⟨w64 (by omega) (by omega), by rw [List.map_set, Int.toNat_natCast]; rfl, rfl⟩
        · rw [if_neg h2]
          obtain rfl : i' = i + k := by omega
          have hall : ∀ j, j < i + k → T'[j]? = some (plc l j) := fun j hj => by
            rcases Nat.lt_trichotomy j i with h | rfl | h
            · exact u4 j h
            · rw [u5, k3]
            · rw [u6 j h hj, k4 j h hj]
          have hg : l.getD ((i : Int) + k).toNat 0 = ((l.drop (i + k)).head?).getD 0 := by
            rw [show ((i : Int) + k).toNat = i + k by omega, List.getD_eq_getElem?_getD, List.head?_drop]
          have hbr : ((r == 10) = true ∨ (r == 13) = true ∧ (((i : Int) + k == (l.length : Int)) = true ∨ (l.getD ((i : Int) + k).toNat 0 != 10) = true)) ↔ brk r (l.drop (i + k)) := by
            rw [hg, List.head?_drop]
            unfold brk
            rw [List.head?_drop]
            simp only [beq_iff_eq, bne_iff_ne, ne_eq]
            by_cases hend : i + k = l.length
            · rw [List.getElem?_eq_none (by omega)]
              simp only [show ((i : Int) + k = (l.length : Int)) by omega, true_or, and_true]
              simp
            · rw [List.getElem?_eq_getElem (by omega)]
              simp only [show ¬ ((i : Int) + k = (l.length : Int)) by omega, false_or]
              simp
          have hst := @stp_range p r (l.drop (i + k)) i ⟨g0, g1, g2, g3⟩
          have fin : ∀ q, stp p r (l.drop (i + k)) = q → (l.length - (i + k) < l.length - i) ∧ (i + k ≤ l.length ∧ T'.length = l.length + 1 ∧ (∀ j, j < i + k → T'[j]? = some (plc l j)) ∧ (∀ j, i + k + j ≤ l.length → plc l (i + k + j) = at_ (l.length - (i + k)) (l.drop (i + k)) j q) ∧ 0 ≤ q.1 ∧ q.1 ≤ ((i + k : Nat) : Int) ∧ 0 ≤ q.2 ∧ q.2 ≤ 2 * ((i + k : Nat) : Int)) := fun q hq => by
            subst hq
            exact ⟨by omega, k2, u3, hall, k5, by omega, by omega, by omega, by omega⟩
          refine ⟨fun h => ⟨by omega, by have := h.2.2; simp at this; omega⟩, ?_⟩
          by_cases hbk : brk r (l.drop (i + k))
          · rw [if_pos (hbr.mpr hbk)]
            have := fin (p.1 + 1, 0) (if_pos hbk)
            refine ⟨(T', (p.1 + 1, 0), i + k), this.1, this.2, Le.of id [] ?_⟩
            simp only [bytesD, pD, List.map_cons, List.map_nil, Mt_tup, Mt_agg, Mt_fn, forall_eq, forall_eq_or_imp, ne_eq, List.all_cons, List.all_nil, pr, Nat.reduceLeDiff, slR_nil, slR_cons, hpR_nil, hpR_cells, hpR_row, idsR_nil, idsR_cons, mtE_v, mtE_sl, mtE_nil, mtE_refl, mtE_row, mtE_born, mtE_ptr, mtE_rp, mtE_agg, mtE_tup, mtE_fn, mtE_ep, MtL_nil, MtL_cons, Mt_v, Mt_sl, Mt_nil, Mt_refl, Mt_row, Mt_born, Mt_ptr, MtO_cells, MtO_row, liveIds, distinct, Dat.v.injEq, Dat.sl.injEq, Value.int.injEq, Value.bool.injEq, Value.string.injEq, lk_cons, lk_nil, subL_nil, subL_cons, upIds, AV.ids, AV.ids.idsL, AObj.ids, Hp.get_cons, get_nil, allCell, AV.cell, vInt, vBool, vStr, id, true_and, and_true, and_self, List.append_nil, List.nil_append, List.not_mem_nil, List.mem_cons, or_false, false_or, or_self, not_true_eq_false, not_false_eq_true, false_imp_iff, false_implies, List.map_nil, not_false_eq_true, List.contains_cons, List.contains_nil, Bool.or_false, Bool.false_or, Bool.true_or, Bool.or_true, Bool.and_true, Bool.true_and, implies_true, if_true, if_false, reduceCtorEq, Nat.reduceEqDiff, Nat.reduceBEq, Nat.reduceAdd, reduceIte, ↓reduceIte]
            exact ⟨by omega, w64 (by omega) (by omega), rfl⟩
          · rw [if_neg (fun q => hbk (hbr.mp q))]
            have := fin (p.1, p.2 + units r) (if_neg hbk)
            refine ⟨(T', (p.1, p.2 + units r), i + k), this.1, this.2, Le.of id [] ?_⟩
            simp only [bytesD, pD, List.map_cons, List.map_nil, Mt_tup, Mt_agg, Mt_fn, forall_eq, forall_eq_or_imp, ne_eq, List.all_cons, List.all_nil, pr, Nat.reduceLeDiff, slR_nil, slR_cons, hpR_nil, hpR_cells, hpR_row, idsR_nil, idsR_cons, mtE_v, mtE_sl, mtE_nil, mtE_refl, mtE_row, mtE_born, mtE_ptr, mtE_rp, mtE_agg, mtE_tup, mtE_fn, mtE_ep, MtL_nil, MtL_cons, Mt_v, Mt_sl, Mt_nil, Mt_refl, Mt_row, Mt_born, Mt_ptr, MtO_cells, MtO_row, liveIds, distinct, Dat.v.injEq, Dat.sl.injEq, Value.int.injEq, Value.bool.injEq, Value.string.injEq, lk_cons, lk_nil, subL_nil, subL_cons, upIds, AV.ids, AV.ids.idsL, AObj.ids, Hp.get_cons, get_nil, allCell, AV.cell, vInt, vBool, vStr, id, true_and, and_true, and_self, List.append_nil, List.nil_append, List.not_mem_nil, List.mem_cons, or_false, false_or, or_self, not_true_eq_false, not_false_eq_true, false_imp_iff, false_implies, List.map_nil, not_false_eq_true, List.contains_cons, List.contains_nil, Bool.or_false, Bool.false_or, Bool.true_or, Bool.or_true, Bool.and_true, Bool.true_and, implies_true, if_true, if_false, reduceCtorEq, Nat.reduceEqDiff, Nat.reduceBEq, Nat.reduceAdd, reduceIte, ↓reduceIte]
            exact ⟨by omega, rfl⟩
    · rw [if_neg h1]
      have hi2 : i = l.length := by omega
      refine ⟨by omega, by omega, Sub.eq ?_⟩
      have e0 := H 0 (by omega)
      rw [at_zero, Nat.add_zero] at e0
      congr 2
      rw [Int.toNat_natCast, show [Dat.v (Value.int IntKind.i64 p.1), Dat.v (Value.int IntKind.i64 p.2)] = pD p from rfl, ← List.map_set]
      congr 1
      apply List.ext_getElem?
      intro j
      rw [List.getElem?_set, plcs, List.getElem?_map]
      by_cases hj : j < l.length
      · rw [if_neg (by omega), hpre j (by omega), List.getElem?_range (by omega)]; rfl
      · by_cases hj2 : j = l.length
        · rw [if_pos hj2.symm, if_pos (by omega), List.getElem?_range (by omega), hj2, ← e0, hi2]; rfl
        · rw [if_neg (fun q => hj2 q.symm), List.getElem?_eq_none (by omega), List.getElem?_eq_none (by rw [List.length_range]; omega)]; rfl
def F_lall : List AV → Option (Prop × AV)
  | [.d (.sl 1 xs)] => some (xs = (xs.map numOf).map (iD .u8) ∧ Bytes (xs.map numOf) ∧ xs.length ≤ 1000000000, .d (.sl 2 ((plcs (xs.map numOf)).map pD)))
  | _ => none
theorem known_lin : Known Try.prog G_lin := by
  refine ((Known.none _).addC _ Next_calm).add mixed ?_
  intro args sc res h hs _
  unfold F_units at h
  split at h <;> cases h
  exact ⟨rfl, units_body _⟩
theorem lall_calm : ∀ args sc res, F_lall args = some (sc, res) → sc → Calm Try.prog 16 args res := by
  intro args sc res h hs
  unfold F_lall at h
  split at h <;> cases h
  rename_i xs
  obtain ⟨h1, h2, h3⟩ := hs
  have hb := all_body (xs.map numOf) h2 (by simpa using h3)
  rw [bytesD, ← h1] at hb
  exact known_lin.calm mixed rfl rfl hb
/-- Within a text. -/
def clip (l : List Int) (o : Int) : Nat := (mx 0 (mn o (l.length : Int))).toNat
theorem mxn (l : List Int) (o : Int) : 0 ≤ mx 0 (mn o (l.length : Int)) ∧ mx 0 (mn o (l.length : Int)) ≤ l.length ∧ (0 ≤ o → o ≤ l.length → mx 0 (mn o (l.length : Int)) = o) := by
  unfold mx mn
  (repeat' split) <;> omega
theorem clip_le (l : List Int) (o : Int) : clip l o ≤ l.length := by have := mxn l o; unfold clip; omega
theorem clip_of {l : List Int} {o : Int} (h0 : 0 ≤ o) (h1 : o ≤ l.length) : clip l o = o.toNat := by rw [clip, (mxn l o).2.2 h0 h1]
theorem getD_plc (l : List Int) (j : Nat) (h : j ≤ l.length) (z : List Dat) : ((plcs l).map pD).getD j z = pD (plc l j) := by
  rw [List.getD_eq_getElem?_getD, List.getElem?_map, plcs, List.getElem?_map, List.getElem?_range (by omega)]; rfl
def F_LAll : List AV → Option (Prop × AV)
  | [.d (.sl 1 xs), .d (.sl 1 os)] => some ((xs = (xs.map numOf).map (iD .u8) ∧ Bytes (xs.map numOf) ∧ xs.length ≤ 1000000000) ∧ os = (os.map numOf).map (iD .i64) ∧ os.length ≤ 1000000000, .d (.sl 2 ((os.map numOf).map fun o => pD (plc (xs.map numOf) (clip (xs.map numOf) o)))))
  | _ => none
noncomputable def G_LAll : Gam := Gam.none.add 16 fun a => F_lall (NT.nz.nzL [.s 1] a)
theorem G_LAll_at (h : Nat → Option AObj) (d : Nat) (a : List AV) : G_LAll 16 h d a = calmE (fun a => F_lall (NT.nz.nzL [.s 1] a)) h a := rfl
theorem LAll_body (l os : List Int) (hb : Bytes l) (hl : l.length ≤ 1000000000) (ho : os.length ≤ 1000000000) : Body Try.prog G_LAll (DRun Try.prog G_LAll) 12 [.d (bytesD l), .d (intsD os)] (.d (.sl 2 (os.map fun o => pD (plc l (clip l o))))) := by
  refine Body.of Try.func12 Try.ntmps12 (by kernel_rfl) rfl rfl rfl ?_
  simp only [bytesD, intsD, G_LAll_at, calmE, F_lall, AV.flat, AV.flat.flatL, getD_iD, iD, num_iD, List.length_map, goTG_val, goTG_new, goTG_up, goTG_none, goG_none, goG_new, goG_up, ne_eq, evK, evH, retHF, DRun_mk, runT_nil, runT_none, runT_guard, goT_val, goT_new, goT_store, goTH_true, goTH_false, evO, keys, Option.toList_some, Option.toList_none, nzL_nil, nzL_cons, nz_k, nz_sl, nz_nil, nz_agg, startL, evC, evV, goE_val, goE_new, goE_store, goH_true, goH_false, goG_val, lk_cons, lk_nil, lk_func, lk_int, lk_bool, lk_string, lk_slice, lk_agg, look_mk, St.effOf, eff, effCall, effBin, effUn, effConv, effPick, effNil, effFold, fold1, effLoad, effStore, effFieldAddr, effField, fieldOf, sliceOf, effIndexAddr, effIndex, effLen, effExtract, effSlice, bnd, effBuild, placesOf, effBuildSlice, effMakeSlice, effAppend, srcOf, fillA, chunk, seg, toD, toDs, put, eqAV, fieldsEq, leafEq, strip, unw, allB, selP_or, selP_and, tis, TyD.agg, AV.cells, AV.cell, allCell, vInt, vBool, vStr, subL_nil, subL_cons, upIds, AV.ids, AV.ids.idsL, AObj.ids, drops, Hp.get_cons, get_nil, retF, resL, one, fz, fz.fzL, List.map_cons, List.map_nil, List.nil_append, List.append_nil, List.cons_append, List.all_cons, List.all_nil, List.length_cons, List.length_nil, List.getElem?_cons_zero, List.getElem?_cons_succ, List.getD_cons_zero, List.getD_cons_succ, List.take_succ_cons, List.take_zero, List.drop_succ_cons, List.drop_zero, List.take_nil, List.drop_nil, List.contains_cons, List.contains_nil, Option.getD_some, Option.getD_none, Option.map_some, Option.map_none, if_true, if_false, true_and, and_true, and_self, or_self, or_false, false_or, false_and, and_false, reduceCtorEq, sel_and, sel_or, decide_eq_true_eq, Bool.and_eq_true, Bool.or_eq_true, Bool.and_true, Bool.true_and, Bool.or_false, Bool.false_or, Bool.true_or, Bool.or_true, Bool.not_true, Bool.not_false, Bool.false_eq_true, implies_true, not_false_eq_true, Nat.reduceLT, Nat.reduceEqDiff, Nat.reduceAdd, Nat.reduceMul, Nat.reduceMod, Nat.reduceLeDiff, Nat.reduceBEq, Nat.zero_add, Nat.add_zero, reduceIte, ↓reduceIte, List.not_mem_nil]
  refine ⟨⟨hb, hl⟩, ?_⟩
  refine wpc_loop (fun j : Nat => ⟨36, [100], [(0, .d (bytesD l)), (5, .d (.sl 2 ((plcs l).map pD))), (6, .row 100 j), (12, .d (intsD os)), (13, vInt .i64 os.length), (14, vInt .i64 j)], [(100, some (.row 42 2 ((os.take j).map fun o => pD (plc l (clip l o)))))]⟩) (fun j => j ≤ os.length) (fun j => os.length - j) 0 (Nat.zero_le _) ?_ ?_
  · refine Le.of id [100] ?_
    simp only [bytesD, intsD, List.take_zero, List.map_nil, List.length_nil, List.length_map, Mt_tup, Mt_agg, Mt_fn, forall_eq, forall_eq_or_imp, ne_eq, List.all_cons, List.all_nil, pr, Nat.reduceLeDiff, slR_nil, slR_cons, hpR_nil, hpR_cells, hpR_row, idsR_nil, idsR_cons, mtE_v, mtE_sl, mtE_nil, mtE_refl, mtE_row, mtE_born, mtE_ptr, mtE_rp, mtE_agg, mtE_tup, mtE_fn, mtE_ep, MtL_nil, MtL_cons, Mt_v, Mt_sl, Mt_nil, Mt_refl, Mt_row, Mt_born, Mt_ptr, MtO_cells, MtO_row, liveIds, distinct, Dat.v.injEq, Dat.sl.injEq, Value.int.injEq, Value.bool.injEq, Value.string.injEq, lk_cons, lk_nil, subL_nil, subL_cons, upIds, AV.ids, AV.ids.idsL, AObj.ids, Hp.get_cons, get_nil, allCell, AV.cell, vInt, vBool, vStr, id, true_and, and_true, and_self, List.append_nil, List.nil_append, List.not_mem_nil, List.mem_cons, or_false, false_or, or_self, not_true_eq_false, not_false_eq_true, false_imp_iff, false_implies, List.map_nil, not_false_eq_true, List.contains_cons, List.contains_nil, Bool.or_false, Bool.false_or, Bool.true_or, Bool.or_true, Bool.and_true, Bool.true_and, implies_true, if_true, if_false, reduceCtorEq, Nat.reduceEqDiff, Nat.reduceBEq, Nat.reduceAdd, reduceIte, ↓reduceIte]
    rfl
  · intro j hj
    have hplen : (plcs l).length = l.length + 1 := by rw [plcs, List.length_map, List.length_range]
    by_cases hj2 : (j : Int) < os.length
    · obtain ⟨c, hc⟩ : ∃ c, os[j]? = some c := ⟨_, List.getElem?_eq_getElem (by omega)⟩
      have hgd : os.getD (j : Int).toNat 0 = c := getD_at hc
      have hmx := mxn l c
      have hg : ∀ z, ((plcs l).map pD).getD (mx 0 (mn c (l.length : Int))).toNat z = pD (plc l (clip l c)) := fun z => getD_plc l _ (clip_le l c) z
      simp only [bytesD, intsD, hgd, hg, pD, G_LAll_at, calmE, F_lall, AV.flat, AV.flat.flatL, getD_iD, iD, num_iD, List.length_map, goTG_val, goTG_new, goTG_up, goTG_none, goG_none, goG_new, goG_up, ne_eq, evK, evH, retHF, DRun_mk, runT_nil, runT_none, runT_guard, goT_val, goT_new, goT_store, goTH_true, goTH_false, evO, keys, Option.toList_some, Option.toList_none, nzL_nil, nzL_cons, nz_k, nz_sl, nz_nil, nz_agg, startL, evC, evV, goE_val, goE_new, goE_store, goH_true, goH_false, goG_val, lk_cons, lk_nil, lk_func, lk_int, lk_bool, lk_string, lk_slice, lk_agg, look_mk, St.effOf, eff, effCall, effBin, effUn, effConv, effPick, effNil, effFold, fold1, effLoad, effStore, effFieldAddr, effField, fieldOf, sliceOf, effIndexAddr, effIndex, effLen, effExtract, effSlice, bnd, effBuild, placesOf, effBuildSlice, effMakeSlice, effAppend, srcOf, fillA, chunk, seg, toD, toDs, put, eqAV, fieldsEq, leafEq, strip, unw, allB, selP_or, selP_and, tis, TyD.agg, AV.cells, AV.cell, allCell, vInt, vBool, vStr, subL_nil, subL_cons, upIds, AV.ids, AV.ids.idsL, AObj.ids, drops, Hp.get_cons, get_nil, retF, resL, one, fz, fz.fzL, List.map_cons, List.map_nil, List.nil_append, List.append_nil, List.cons_append, List.all_cons, List.all_nil, List.length_cons, List.length_nil, List.getElem?_cons_zero, List.getElem?_cons_succ, List.getD_cons_zero, List.getD_cons_succ, List.take_succ_cons, List.take_zero, List.drop_succ_cons, List.drop_zero, List.take_nil, List.drop_nil, List.contains_cons, List.contains_nil, Option.getD_some, Option.getD_none, Option.map_some, Option.map_none, if_true, if_false, true_and, and_true, and_self, or_self, or_false, false_or, false_and, and_false, reduceCtorEq, sel_and, sel_or, decide_eq_true_eq, Bool.and_eq_true, Bool.or_eq_true, Bool.and_true, Bool.true_and, Bool.or_false, Bool.false_or, Bool.true_or, Bool.or_true, Bool.not_true, Bool.not_false, Bool.false_eq_true, implies_true, not_false_eq_true, Nat.reduceLT, Nat.reduceEqDiff, Nat.reduceAdd, Nat.reduceMul, Nat.reduceMod, Nat.reduceLeDiff, Nat.reduceBEq, Nat.zero_add, Nat.add_zero, reduceIte, ↓reduceIte, List.not_mem_nil]
      rw [if_pos hj2]
      refine ⟨by omega, ⟨by omega, by omega⟩, by rw [List.length_take]; omega, j + 1, by omega, by omega, Le.of (fun _ => 33) [] ?_⟩
      simp only [List.take_add_one, hc, Option.toList_some, bytesD, intsD, pD, List.map_append, List.map_cons, List.map_nil, List.length_append, List.length_map, List.length_take, List.length_cons, List.length_nil, Mt_tup, Mt_agg, Mt_fn, forall_eq, forall_eq_or_imp, ne_eq, List.all_cons, List.all_nil, pr, Nat.reduceLeDiff, slR_nil, slR_cons, hpR_nil, hpR_cells, hpR_row, idsR_nil, idsR_cons, mtE_v, mtE_sl, mtE_nil, mtE_refl, mtE_row, mtE_born, mtE_ptr, mtE_rp, mtE_agg, mtE_tup, mtE_fn, mtE_ep, MtL_nil, MtL_cons, Mt_v, Mt_sl, Mt_nil, Mt_refl, Mt_row, Mt_born, Mt_ptr, MtO_cells, MtO_row, liveIds, distinct, Dat.v.injEq, Dat.sl.injEq, Value.int.injEq, Value.bool.injEq, Value.string.injEq, lk_cons, lk_nil, subL_nil, subL_cons, upIds, AV.ids, AV.ids.idsL, AObj.ids, Hp.get_cons, get_nil, allCell, AV.cell, vInt, vBool, vStr, id, true_and, and_true, and_self, List.append_nil, List.nil_append, List.not_mem_nil, List.mem_cons, or_false, false_or, or_self, not_true_eq_false, not_false_eq_true, false_imp_iff, false_implies, List.map_nil, not_false_eq_true, List.contains_cons, List.contains_nil, Bool.or_false, Bool.false_or, Bool.true_or, Bool.or_true, Bool.and_true, Bool.true_and, implies_true, if_true, if_false, reduceCtorEq, Nat.reduceEqDiff, Nat.reduceBEq, Nat.reduceAdd, reduceIte, ↓reduceIte]
      exact ⟨by omega, w64 (by omega) (by omega)⟩
    · simp only [bytesD, intsD, G_LAll_at, calmE, F_lall, AV.flat, AV.flat.flatL, getD_iD, iD, num_iD, List.length_map, goTG_val, goTG_new, goTG_up, goTG_none, goG_none, goG_new, goG_up, ne_eq, evK, evH, retHF, DRun_mk, runT_nil, runT_none, runT_guard, goT_val, goT_new, goT_store, goTH_true, goTH_false, evO, keys, Option.toList_some, Option.toList_none, nzL_nil, nzL_cons, nz_k, nz_sl, nz_nil, nz_agg, startL, evC, evV, goE_val, goE_new, goE_store, goH_true, goH_false, goG_val, lk_cons, lk_nil, lk_func, lk_int, lk_bool, lk_string, lk_slice, lk_agg, look_mk, St.effOf, eff, effCall, effBin, effUn, effConv, effPick, effNil, effFold, fold1, effLoad, effStore, effFieldAddr, effField, fieldOf, sliceOf, effIndexAddr, effIndex, effLen, effExtract, effSlice, bnd, effBuild, placesOf, effBuildSlice, effMakeSlice, effAppend, srcOf, fillA, chunk, seg, toD, toDs, put, eqAV, fieldsEq, leafEq, strip, unw, allB, selP_or, selP_and, tis, TyD.agg, AV.cells, AV.cell, allCell, vInt, vBool, vStr, subL_nil, subL_cons, upIds, AV.ids, AV.ids.idsL, AObj.ids, drops, Hp.get_cons, get_nil, retF, resL, one, fz, fz.fzL, List.map_cons, List.map_nil, List.nil_append, List.append_nil, List.cons_append, List.all_cons, List.all_nil, List.length_cons, List.length_nil, List.getElem?_cons_zero, List.getElem?_cons_succ, List.getD_cons_zero, List.getD_cons_succ, List.take_succ_cons, List.take_zero, List.drop_succ_cons, List.drop_zero, List.take_nil, List.drop_nil, List.contains_cons, List.contains_nil, Option.getD_some, Option.getD_none, Option.map_some, Option.map_none, if_true, if_false, true_and, and_true, and_self, or_self, or_false, false_or, false_and, and_false, reduceCtorEq, sel_and, sel_or, decide_eq_true_eq, Bool.and_eq_true, Bool.or_eq_true, Bool.and_true, Bool.true_and, Bool.or_false, Bool.false_or, Bool.true_or, Bool.or_true, Bool.not_true, Bool.not_false, Bool.false_eq_true, implies_true, not_false_eq_true, Nat.reduceLT, Nat.reduceEqDiff, Nat.reduceAdd, Nat.reduceMul, Nat.reduceMod, Nat.reduceLeDiff, Nat.reduceBEq, Nat.zero_add, Nat.add_zero, reduceIte, ↓reduceIte, List.not_mem_nil]
      rw [if_neg hj2, List.take_of_length_le (by omega)]
theorem LAll_calm : ∀ args sc res, F_LAll args = some (sc, res) → sc → Calm Try.prog 12 args res := by
  intro args sc res h hs
  unfold F_LAll at h
  split at h <;> cases h
  rename_i xs os
  obtain ⟨⟨h1, h2, h3⟩, h4, h5⟩ := hs
  have hb := LAll_body (xs.map numOf) (os.map numOf) h2 (by simpa using h3) (by simpa using h5)
  rw [bytesD, ← h1, intsD, ← h4] at hb
  exact ((Known.none _).addC _ lall_calm).calm mixed rfl rfl hb
theorem ends_body {Γ : Gam} (l : List Int) (i : Nat) (hi : i < l.length) (hl : l.length ≤ 1000000000) : Body Try.prog Γ (DRun Try.prog Γ) 20 [.d (bytesD l), vInt .i64 i] (vBool (decide (brk (l.getD i 0) (l.drop (i + 1))))) := by
  refine Body.of Try.func20 Try.ntmps20 (by kernel_rfl) rfl rfl rfl ?_
  simp only [bytesD, getD_iD, iD, num_iD, List.length_map, goTG_val, goTG_new, goTG_up, goTG_none, goG_none, goG_new, goG_up, ne_eq, evK, evH, retHF, DRun_mk, runT_nil, runT_none, runT_guard, goT_val, goT_new, goT_store, goTH_true, goTH_false, evO, keys, Option.toList_some, Option.toList_none, nzL_nil, nzL_cons, nz_k, nz_sl, nz_nil, nz_agg, startL, evC, evV, goE_val, goE_new, goE_store, goH_true, goH_false, goG_val, lk_cons, lk_nil, lk_func, lk_int, lk_bool, lk_string, lk_slice, lk_agg, look_mk, St.effOf, eff, effCall, effBin, effUn, effConv, effPick, effNil, effFold, fold1, effLoad, effStore, effFieldAddr, effField, fieldOf, sliceOf, effIndexAddr, effIndex, effLen, effExtract, effSlice, bnd, effBuild, placesOf, effBuildSlice, effMakeSlice, effAppend, srcOf, fillA, chunk, seg, toD, toDs, put, eqAV, fieldsEq, leafEq, strip, unw, allB, selP_or, selP_and, tis, TyD.agg, AV.cells, AV.cell, allCell, vInt, vBool, vStr, subL_nil, subL_cons, upIds, AV.ids, AV.ids.idsL, AObj.ids, drops, Hp.get_cons, get_nil, retF, resL, one, fz, fz.fzL, List.map_cons, List.map_nil, List.nil_append, List.append_nil, List.cons_append, List.all_cons, List.all_nil, List.length_cons, List.length_nil, List.getElem?_cons_zero, List.getElem?_cons_succ, List.getD_cons_zero, List.getD_cons_succ, List.take_succ_cons, List.take_zero, List.drop_succ_cons, List.drop_zero, List.take_nil, List.drop_nil, List.contains_cons, List.contains_nil, Option.getD_some, Option.getD_none, Option.map_some, Option.map_none, if_true, if_false, true_and, and_true, and_self, or_self, or_false, false_or, false_and, and_false, reduceCtorEq, sel_and, sel_or, decide_eq_true_eq, Bool.and_eq_true, Bool.or_eq_true, Bool.and_true, Bool.true_and, Bool.or_false, Bool.false_or, Bool.true_or, Bool.or_true, Bool.not_true, Bool.not_false, Bool.false_eq_true, implies_true, not_false_eq_true, Nat.reduceLT, Nat.reduceEqDiff, Nat.reduceAdd, Nat.reduceMul, Nat.reduceMod, Nat.reduceLeDiff, Nat.reduceBEq, Nat.zero_add, Nat.add_zero, reduceIte, ↓reduceIte, List.not_mem_nil]
  rw [w64 (n := (i : Int) + 1) (by omega) (by omega), Int.toNat_natCast, show ((i : Int) + 1).toNat = i + 1 by omega]
  refine ⟨by omega, fun _ => by omega, fun h => ⟨by omega, by have := h.2.2; simp at this; omega⟩, Sub.eq ?_⟩
  congr 3
  rw [Bool.eq_iff_iff, decide_eq_true_iff]
  unfold brk
  rw [List.head?_drop, List.getD_eq_getElem?_getD (i := i + 1)]
  simp only [Bool.or_eq_true, Bool.and_eq_true, beq_iff_eq, bne_iff_ne, ne_eq]
  by_cases hend : i + 1 = l.length
  · rw [List.getElem?_eq_none (by omega)]
    simp only [show ((i : Int) + 1 = (l.length : Int)) by omega, true_or, and_true]
    simp
  · rw [List.getElem?_eq_getElem (by omega)]
    simp only [show ¬ ((i : Int) + 1 = (l.length : Int)) by omega, false_or]
    simp
def F_ends : List AV → Option (Prop × AV)
  | [.d (.sl 1 xs), .d (.v (.int .i64 i))] => some (xs = (xs.map numOf).map (iD .u8) ∧ 0 ≤ i ∧ i < xs.length ∧ xs.length ≤ 1000000000, vBool (decide (brk ((xs.map numOf).getD i.toNat 0) ((xs.map numOf).drop (i.toNat + 1)))))
  | _ => none
theorem ends_calm : ∀ args sc res, F_ends args = some (sc, res) → sc → Calm Try.prog 20 args res := by
  intro args sc res h hs
  unfold F_ends at h
  split at h <;> cases h
  rename_i xs i
  obtain ⟨h1, h2, h3, h4⟩ := hs
  obtain ⟨i, rfl⟩ := Int.eq_ofNat_of_zero_le h2
  have hb := ends_body (Γ := Gam.none) (xs.map numOf) i (by rw [List.length_map]; omega) (by simpa using h4)
  rw [bytesD, ← h1] at hb
  exact (Known.none _).calm mixed rfl rfl hb
theorem cap_body {Γ : Gam} (n a b : Int) : Body Try.prog Γ (DRun Try.prog Γ) 19 [vInt .i64 n, vInt .i64 a, vInt .i64 b] (vInt .i64 (if n < a then a else if n > b then b else n)) := by
  refine Body.of Try.func19 Try.ntmps19 (by kernel_rfl) rfl rfl rfl ?_
  simp only [goTG_val, goTG_new, goTG_up, goTG_none, goG_none, goG_new, goG_up, ne_eq, evK, evH, retHF, DRun_mk, runT_nil, runT_none, runT_guard, goT_val, goT_new, goT_store, goTH_true, goTH_false, evO, keys, Option.toList_some, Option.toList_none, nzL_nil, nzL_cons, nz_k, nz_sl, nz_nil, nz_agg, startL, evC, evV, goE_val, goE_new, goE_store, goH_true, goH_false, goG_val, lk_cons, lk_nil, lk_func, lk_int, lk_bool, lk_string, lk_slice, lk_agg, look_mk, St.effOf, eff, effCall, effBin, effUn, effConv, effPick, effNil, effFold, fold1, effLoad, effStore, effFieldAddr, effField, fieldOf, sliceOf, effIndexAddr, effIndex, effLen, effExtract, effSlice, bnd, effBuild, placesOf, effBuildSlice, effMakeSlice, effAppend, srcOf, fillA, chunk, seg, toD, toDs, put, eqAV, fieldsEq, leafEq, strip, unw, allB, selP_or, selP_and, tis, TyD.agg, AV.cells, AV.cell, allCell, vInt, vBool, vStr, subL_nil, subL_cons, upIds, AV.ids, AV.ids.idsL, AObj.ids, drops, Hp.get_cons, get_nil, retF, resL, one, fz, fz.fzL, List.map_cons, List.map_nil, List.nil_append, List.append_nil, List.cons_append, List.all_cons, List.all_nil, List.length_cons, List.length_nil, List.getElem?_cons_zero, List.getElem?_cons_succ, List.getD_cons_zero, List.getD_cons_succ, List.take_succ_cons, List.take_zero, List.drop_succ_cons, List.drop_zero, List.take_nil, List.drop_nil, List.contains_cons, List.contains_nil, Option.getD_some, Option.getD_none, Option.map_some, Option.map_none, if_true, if_false, true_and, and_true, and_self, or_self, or_false, false_or, false_and, and_false, reduceCtorEq, sel_and, sel_or, decide_eq_true_eq, Bool.and_eq_true, Bool.or_eq_true, Bool.and_true, Bool.true_and, Bool.or_false, Bool.false_or, Bool.true_or, Bool.or_true, Bool.not_true, Bool.not_false, Bool.false_eq_true, implies_true, not_false_eq_true, Nat.reduceLT, Nat.reduceEqDiff, Nat.reduceAdd, Nat.reduceMul, Nat.reduceMod, Nat.reduceLeDiff, Nat.reduceBEq, Nat.zero_add, Nat.add_zero, reduceIte, ↓reduceIte, List.not_mem_nil]
  (repeat' split) <;> first | exact Sub.refl _ | omega
def F_cap : List AV → Option (Prop × AV)
  | [.d (.v (.int .i64 n)), .d (.v (.int .i64 a)), .d (.v (.int .i64 b))] => some (True, vInt .i64 (if n < a then a else if n > b then b else n))
  | _ => none
theorem cap_calm : ∀ args sc res, F_cap args = some (sc, res) → sc → Calm Try.prog 19 args res := by
  intro args sc res h _
  unfold F_cap at h
  split at h <;> cases h
  exact (Known.none _).calm mixed rfl rfl (cap_body _ _ _)
theorem cap_clip (l : List Int) (o : Int) : (if o < 0 then 0 else if o > (l.length : Int) then (l.length : Int) else o) = (clip l o : Int) := by
  unfold clip mx mn
  (repeat' split) <;> omega
def F_At : List AV → Option (Prop × AV)
  | [.d (.sl 1 xs), .d (.v (.int .i64 o))] => some (xs = (xs.map numOf).map (iD .u8) ∧ Bytes (xs.map numOf) ∧ xs.length ≤ 1000000000, .tup [vInt .i64 (plc (xs.map numOf) (clip (xs.map numOf) o)).1, vInt .i64 (plc (xs.map numOf) (clip (xs.map numOf) o)).2])
  | _ => none
noncomputable def G_At : Gam := (((Gam.none.add 21 fun a => F_Next (NT.nz.nzL [.s 1, .k] a)).add 22 fun a => F_units (NT.nz.nzL [] a)).add 20 fun a => F_ends (NT.nz.nzL [.s 1, .k] a)).add 19 fun a => F_cap (NT.nz.nzL [] a)
theorem known_At : Known Try.prog G_At := ((((Known.none _).addC _ RNext_calm).addC _ runits_calm).addC _ ends_calm).addC _ cap_calm
theorem G_At_at : (∀ h d a, G_At 21 h d a = calmE (fun a => F_Next (NT.nz.nzL [.s 1, .k] a)) h a) ∧ (∀ h d a, G_At 22 h d a = calmE (fun a => F_units (NT.nz.nzL [] a)) h a) ∧ (∀ h d a, G_At 20 h d a = calmE (fun a => F_ends (NT.nz.nzL [.s 1, .k] a)) h a) ∧ (∀ h d a, G_At 19 h d a = calmE (fun a => F_cap (NT.nz.nzL [] a)) h a) := ⟨fun _ _ _ => rfl, fun _ _ _ => rfl, fun _ _ _ => rfl, fun _ _ _ => rfl⟩
theorem drop_get {l : List Int} {j : Nat} {c : Int} {u : List Int} (e : l.drop j = c :: u) : l.getD j 0 = c ∧ l.drop (j + 1) = u := by
  constructor
  · rw [List.getD_eq_getElem?_getD, ← Nat.add_zero j, ← List.getElem?_drop, e]; rfl
  · rw [← List.drop_drop, e]; rfl
/-- A line ends at a byte: the next one begins behind it. -/
theorem plc_brk {l : List Int} (hb : Bytes l) {f i : Nat} {L : Int} (hf : f ≤ i) (hi : i < l.length) (H : ∀ o, f ≤ o → o ≤ l.length → plc l o = at_ (l.length - f) (l.drop f) (o - f) (L, 0)) (hn : ∀ j, f ≤ j → j < i → ¬ brk (l.getD j 0) (l.drop (j + 1))) (hk : brk (l.getD i 0) (l.drop (i + 1))) :
    ∀ o, i + 1 ≤ o → o ≤ l.length → plc l o = at_ (l.length - (i + 1)) (l.drop (i + 1)) (o - (i + 1)) (L + 1, 0) := fun o h1 h2 => by
  rw [H o (by omega) h2]
  have := at_walk (l.length - f) (i - f) (l.drop f) (o - f) (L, 0) (by rw [List.length_drop]; exact Nat.le_refl _) (fun x hx => hb x (List.mem_of_mem_drop hx)) (by rw [List.length_drop]; omega)
    (fun j c u hj e => by
      rw [List.drop_drop] at e
      obtain ⟨e1, e2⟩ := drop_get e
      have := hn (f + j) (by omega) (by omega)
      rwa [e1, e2] at this)
    (fun c u e => by
      rw [List.drop_drop, show f + (i - f) = i by omega] at e
      obtain ⟨e1, e2⟩ := drop_get e
      rwa [e1, e2] at hk) (by omega)
  rw [this, List.length_drop, List.drop_drop, show f + (i - f + 1) = i + 1 by omega, show l.length - f - (i - f + 1) = l.length - (i + 1) by omega, show o - f - (i - f + 1) = o - (i + 1) by omega]
/-- Along a line. -/
theorem plc_col {l : List Int} (hb : Bytes l) {i o : Nat} {L c : Int} (hi : i < o) (ho : o ≤ l.length) (H : plc l o = at_ (l.length - i) (l.drop i) (o - i) (L, c)) (hn : ¬ brk (l.getD i 0) (l.drop (i + 1))) :
    ∃ r k ok, Utf.nx l i = (r, ((k : Nat) : Int), ok) ∧ 1 ≤ k ∧ i + k ≤ l.length ∧ (i + k ≤ o → plc l o = at_ (l.length - (i + k)) (l.drop (i + k)) (o - (i + k)) (L, c + units r)) ∧ (o < i + k → plc l o = (L, c + units r)) := by
  have hne : l.drop i ≠ [] := fun h => by
    have := List.drop_eq_nil_iff.mp h
    omega
  have hbd : Bytes (l.drop i) := fun x hx => hb x (List.mem_of_mem_drop hx)
  obtain ⟨x, t, hxt⟩ : ∃ x t, l.drop i = x :: t := by
    cases h : l.drop i with
    | nil => exact absurd h hne
    | cons x t => exact ⟨x, t, rfl⟩
  obtain ⟨e1, e2⟩ := drop_get hxt
  have hs := dec_single (c := x) (t := t) (by rw [← hxt]; exact hbd)
  rw [← hxt] at hs
  rw [e1, e2] at hn
  have hone := fun t' => brk_one hbd hne (t := t')
  have hd := Utf.dec_len hbd hne
  rw [List.length_drop] at hd
  have hnx : Utf.nx l i = Utf.dec (l.drop i) := by rw [Utf.nx, if_neg (by omega), Int.toNat_natCast]
  obtain ⟨m, hm⟩ : ∃ m, l.length - i = m + 1 := ⟨l.length - i - 1, by omega⟩
  rw [hm] at H
  have hin := fun j p h0 h => at_in (n := m) (l := l.drop i) (off := j) p h0 hne h
  have hout := fun j p h0 h => at_out (n := m) (l := l.drop i) (off := j) p h0 hne h
  rw [hnx]
  generalize Utf.dec (l.drop i) = q at hd hin hout hs hone ⊢
  obtain ⟨r, n, ok⟩ := q
  simp only [] at hd hin hout hs hone
  obtain ⟨k, rfl⟩ := Int.eq_ofNat_of_zero_le (show 0 ≤ n by omega)
  simp only [Int.toNat_natCast, List.drop_drop] at hin hout
  have hnb : ¬ brk r (l.drop (i + k)) := fun q => by
    have hk1 := hone _ q
    have : k = 1 := by omega
    subst this
    rw [e2] at q
    exact hn (hs.mp q)
  refine ⟨r, k, ok, rfl, by omega, by omega, fun h => ?_, fun h => ?_⟩
  · rw [H, hout _ _ (by omega) (by omega), stp, if_neg hnb, show o - i - k = o - (i + k) by omega]
    exact at_fuel _ _ _ _ _ (fun x hx => hb x (List.mem_of_mem_drop hx)) (by rw [List.length_drop]; exact Nat.le_refl _) (by omega)
  · rw [H, hin _ _ (by omega) (by omega)]
theorem At_body (l : List Int) (hb : Bytes l) (hl : l.length ≤ 1000000000) (o : Int) : Body Try.prog G_At (DRun Try.prog G_At) 15 [.d (bytesD l), vInt .i64 o] (.tup [vInt .i64 (plc l (clip l o)).1, vInt .i64 (plc l (clip l o)).2]) := by
  refine Body.of Try.func15 Try.ntmps15 (by kernel_rfl) rfl rfl rfl ?_
  simp only [bytesD, cap_clip, G_At_at, calmE, F_Next, F_units, F_ends, F_cap, AV.flat, AV.flat.flatL, getD_iD, iD, num_iD, List.length_map, goTG_val, goTG_new, goTG_up, goTG_none, goG_none, goG_new, goG_up, ne_eq, evK, evH, retHF, DRun_mk, runT_nil, runT_none, runT_guard, goT_val, goT_new, goT_store, goTH_true, goTH_false, evO, keys, Option.toList_some, Option.toList_none, nzL_nil, nzL_cons, nz_k, nz_sl, nz_nil, nz_agg, startL, evC, evV, goE_val, goE_new, goE_store, goH_true, goH_false, goG_val, lk_cons, lk_nil, lk_func, lk_int, lk_bool, lk_string, lk_slice, lk_agg, look_mk, St.effOf, eff, effCall, effBin, effUn, effConv, effPick, effNil, effFold, fold1, effLoad, effStore, effFieldAddr, effField, fieldOf, sliceOf, effIndexAddr, effIndex, effLen, effExtract, effSlice, bnd, effBuild, placesOf, effBuildSlice, effMakeSlice, effAppend, srcOf, fillA, chunk, seg, toD, toDs, put, eqAV, fieldsEq, leafEq, strip, unw, allB, selP_or, selP_and, tis, TyD.agg, AV.cells, AV.cell, allCell, vInt, vBool, vStr, subL_nil, subL_cons, upIds, AV.ids, AV.ids.idsL, AObj.ids, drops, Hp.get_cons, get_nil, retF, resL, one, fz, fz.fzL, List.map_cons, List.map_nil, List.nil_append, List.append_nil, List.cons_append, List.all_cons, List.all_nil, List.length_cons, List.length_nil, List.getElem?_cons_zero, List.getElem?_cons_succ, List.getD_cons_zero, List.getD_cons_succ, List.take_succ_cons, List.take_zero, List.drop_succ_cons, List.drop_zero, List.take_nil, List.drop_nil, List.contains_cons, List.contains_nil, Option.getD_some, Option.getD_none, Option.map_some, Option.map_none, if_true, if_false, true_and, and_true, and_self, or_self, or_false, false_or, false_and, and_false, reduceCtorEq, sel_and, sel_or, decide_eq_true_eq, Bool.and_eq_true, Bool.or_eq_true, Bool.and_true, Bool.true_and, Bool.or_false, Bool.false_or, Bool.true_or, Bool.or_true, Bool.not_true, Bool.not_false, Bool.false_eq_true, implies_true, not_false_eq_true, Nat.reduceLT, Nat.reduceEqDiff, Nat.reduceAdd, Nat.reduceMul, Nat.reduceMod, Nat.reduceLeDiff, Nat.reduceBEq, Nat.zero_add, Nat.add_zero, reduceIte, ↓reduceIte, List.not_mem_nil]
  have hcl := clip_le l o
  generalize clip l o = m at hcl ⊢
  refine wpc_loop (fun q : Int × Nat × Nat => ⟨50, [], [(0, .d (bytesD l)), (1, vInt .i64 m), (6, vInt .i64 q.1), (7, vInt .i64 q.2.1), (8, vInt .i64 q.2.2)], []⟩)
    (fun q => q.2.1 ≤ q.2.2 ∧ q.2.2 ≤ m ∧ 0 ≤ q.1 ∧ q.1 ≤ q.2.2 ∧ (∀ o, q.2.1 ≤ o → o ≤ l.length → plc l o = at_ (l.length - q.2.1) (l.drop q.2.1) (o - q.2.1) (q.1, 0)) ∧ ∀ j, q.2.1 ≤ j → j < q.2.2 → ¬ brk (l.getD j 0) (l.drop (j + 1))) (fun q => m - q.2.2) (0, 0, 0)
    ⟨Nat.le_refl _, Nat.zero_le _, Int.le_refl _, Int.le_refl _, fun o _ _ => by simp only [Nat.sub_zero, List.drop_zero]; rfl, fun j _ hj => absurd hj (Nat.not_lt_zero j)⟩ ?_ ?_
  · refine Le.of id [] ?_
    simp only [bytesD, Mt_tup, Mt_agg, Mt_fn, forall_eq, forall_eq_or_imp, ne_eq, List.all_cons, List.all_nil, pr, Nat.reduceLeDiff, slR_nil, slR_cons, hpR_nil, hpR_cells, hpR_row, idsR_nil, idsR_cons, mtE_v, mtE_sl, mtE_nil, mtE_refl, mtE_row, mtE_born, mtE_ptr, mtE_rp, mtE_agg, mtE_tup, mtE_fn, mtE_ep, MtL_nil, MtL_cons, Mt_v, Mt_sl, Mt_nil, Mt_refl, Mt_row, Mt_born, Mt_ptr, MtO_cells, MtO_row, liveIds, distinct, Dat.v.injEq, Dat.sl.injEq, Value.int.injEq, Value.bool.injEq, Value.string.injEq, lk_cons, lk_nil, subL_nil, subL_cons, upIds, AV.ids, AV.ids.idsL, AObj.ids, Hp.get_cons, get_nil, allCell, AV.cell, vInt, vBool, vStr, id, true_and, and_true, and_self, List.append_nil, List.nil_append, List.not_mem_nil, List.mem_cons, or_false, false_or, or_self, not_true_eq_false, not_false_eq_true, false_imp_iff, false_implies, List.map_nil, not_false_eq_true, List.contains_cons, List.contains_nil, Bool.or_false, Bool.false_or, Bool.true_or, Bool.or_true, Bool.and_true, Bool.true_and, implies_true, if_true, if_false, reduceCtorEq, Nat.reduceEqDiff, Nat.reduceBEq, Nat.reduceAdd, reduceIte, ↓reduceIte]
    rfl
  · rintro ⟨L, f, i⟩ ⟨a1, a2, a3, a4, H, hn⟩
    simp only [] at a1 a2 a3 a4 H hn
    simp only [bytesD, G_At_at, calmE, F_Next, F_units, F_ends, F_cap, AV.flat, AV.flat.flatL, getD_iD, iD, num_iD, List.length_map, goTG_val, goTG_new, goTG_up, goTG_none, goG_none, goG_new, goG_up, ne_eq, evK, evH, retHF, DRun_mk, runT_nil, runT_none, runT_guard, goT_val, goT_new, goT_store, goTH_true, goTH_false, evO, keys, Option.toList_some, Option.toList_none, nzL_nil, nzL_cons, nz_k, nz_sl, nz_nil, nz_agg, startL, evC, evV, goE_val, goE_new, goE_store, goH_true, goH_false, goG_val, lk_cons, lk_nil, lk_func, lk_int, lk_bool, lk_string, lk_slice, lk_agg, look_mk, St.effOf, eff, effCall, effBin, effUn, effConv, effPick, effNil, effFold, fold1, effLoad, effStore, effFieldAddr, effField, fieldOf, sliceOf, effIndexAddr, effIndex, effLen, effExtract, effSlice, bnd, effBuild, placesOf, effBuildSlice, effMakeSlice, effAppend, srcOf, fillA, chunk, seg, toD, toDs, put, eqAV, fieldsEq, leafEq, strip, unw, allB, selP_or, selP_and, tis, TyD.agg, AV.cells, AV.cell, allCell, vInt, vBool, vStr, subL_nil, subL_cons, upIds, AV.ids, AV.ids.idsL, AObj.ids, drops, Hp.get_cons, get_nil, retF, resL, one, fz, fz.fzL, List.map_cons, List.map_nil, List.nil_append, List.append_nil, List.cons_append, List.all_cons, List.all_nil, List.length_cons, List.length_nil, List.getElem?_cons_zero, List.getElem?_cons_succ, List.getD_cons_zero, List.getD_cons_succ, List.take_succ_cons, List.take_zero, List.drop_succ_cons, List.drop_zero, List.take_nil, List.drop_nil, List.contains_cons, List.contains_nil, Option.getD_some, Option.getD_none, Option.map_some, Option.map_none, if_true, if_false, true_and, and_true, and_self, or_self, or_false, false_or, false_and, and_false, reduceCtorEq, sel_and, sel_or, decide_eq_true_eq, Bool.and_eq_true, Bool.or_eq_true, Bool.and_true, Bool.true_and, Bool.or_false, Bool.false_or, Bool.true_or, Bool.or_true, Bool.not_true, Bool.not_false, Bool.false_eq_true, implies_true, not_false_eq_true, Nat.reduceLT, Nat.reduceEqDiff, Nat.reduceAdd, Nat.reduceMul, Nat.reduceMod, Nat.reduceLeDiff, Nat.reduceBEq, Nat.zero_add, Nat.add_zero, reduceIte, ↓reduceIte, List.not_mem_nil]
    by_cases h1 : (i : Int) < m
    · rw [if_pos h1]
      refine ⟨⟨by omega, by omega, hl⟩, ?_⟩
      rw [Int.toNat_natCast, w64 (n := (i : Int) + 1) (by omega) (by omega), w64 (n := L + 1) (by omega) (by omega)]
      by_cases hk : brk (l.getD i 0) (l.drop (i + 1))
      · rw [if_pos hk]
        refine ⟨(L + 1, i + 1, i + 1), by simp only []; omega, ⟨Nat.le_refl _, by simp only []; omega, by simp only []; omega, by simp only []; omega, plc_brk hb a1 (by omega) H hn hk, fun j h2 h3 => by simp only [] at h2 h3; omega⟩, Le.of id [] ?_⟩
        simp only [bytesD, Mt_tup, Mt_agg, Mt_fn, forall_eq, forall_eq_or_imp, ne_eq, List.all_cons, List.all_nil, pr, Nat.reduceLeDiff, slR_nil, slR_cons, hpR_nil, hpR_cells, hpR_row, idsR_nil, idsR_cons, mtE_v, mtE_sl, mtE_nil, mtE_refl, mtE_row, mtE_born, mtE_ptr, mtE_rp, mtE_agg, mtE_tup, mtE_fn, mtE_ep, MtL_nil, MtL_cons, Mt_v, Mt_sl, Mt_nil, Mt_refl, Mt_row, Mt_born, Mt_ptr, MtO_cells, MtO_row, liveIds, distinct, Dat.v.injEq, Dat.sl.injEq, Value.int.injEq, Value.bool.injEq, Value.string.injEq, lk_cons, lk_nil, subL_nil, subL_cons, upIds, AV.ids, AV.ids.idsL, AObj.ids, Hp.get_cons, get_nil, allCell, AV.cell, vInt, vBool, vStr, id, true_and, and_true, and_self, List.append_nil, List.nil_append, List.not_mem_nil, List.mem_cons, or_false, false_or, or_self, not_true_eq_false, not_false_eq_true, false_imp_iff, false_implies, List.map_nil, not_false_eq_true, List.contains_cons, List.contains_nil, Bool.or_false, Bool.false_or, Bool.true_or, Bool.or_true, Bool.and_true, Bool.true_and, implies_true, if_true, if_false, reduceCtorEq, Nat.reduceEqDiff, Nat.reduceBEq, Nat.reduceAdd, reduceIte, ↓reduceIte]
        rfl
      · rw [if_neg hk]
        refine ⟨(L, f, i + 1), by simp only []; omega, ⟨by simp only []; omega, by simp only []; omega, a3, by simp only []; omega, H, fun j h2 h3 => ?_⟩, Le.of id [] ?_⟩
        · by_cases hji : j = i
          · subst hji; exact hk
          · exact hn j h2 (by simp only [] at h3; omega)
        · simp only [bytesD, Mt_tup, Mt_agg, Mt_fn, forall_eq, forall_eq_or_imp, ne_eq, List.all_cons, List.all_nil, pr, Nat.reduceLeDiff, slR_nil, slR_cons, hpR_nil, hpR_cells, hpR_row, idsR_nil, idsR_cons, mtE_v, mtE_sl, mtE_nil, mtE_refl, mtE_row, mtE_born, mtE_ptr, mtE_rp, mtE_agg, mtE_tup, mtE_fn, mtE_ep, MtL_nil, MtL_cons, Mt_v, Mt_sl, Mt_nil, Mt_refl, Mt_row, Mt_born, Mt_ptr, MtO_cells, MtO_row, liveIds, distinct, Dat.v.injEq, Dat.sl.injEq, Value.int.injEq, Value.bool.injEq, Value.string.injEq, lk_cons, lk_nil, subL_nil, subL_cons, upIds, AV.ids, AV.ids.idsL, AObj.ids, Hp.get_cons, get_nil, allCell, AV.cell, vInt, vBool, vStr, id, true_and, and_true, and_self, List.append_nil, List.nil_append, List.not_mem_nil, List.mem_cons, or_false, false_or, or_self, not_true_eq_false, not_false_eq_true, false_imp_iff, false_implies, List.map_nil, not_false_eq_true, List.contains_cons, List.contains_nil, Bool.or_false, Bool.false_or, Bool.true_or, Bool.or_true, Bool.and_true, Bool.true_and, implies_true, if_true, if_false, reduceCtorEq, Nat.reduceEqDiff, Nat.reduceBEq, Nat.reduceAdd, reduceIte, ↓reduceIte]
          rfl
    · rw [if_neg h1]
      obtain rfl : i = m := by omega
      refine wpc_loop (fun q : Int × Nat => ⟨50, [], [(0, .d (bytesD l)), (1, vInt .i64 i), (6, vInt .i64 L), (9, vInt .i64 q.1), (10, vInt .i64 q.2)], []⟩)
        (fun q => f ≤ q.2 ∧ q.2 ≤ l.length ∧ 0 ≤ q.1 ∧ q.1 ≤ 2 * q.2 ∧ (q.2 ≤ i → plc l i = at_ (l.length - q.2) (l.drop q.2) (i - q.2) (L, q.1)) ∧ (i < q.2 → plc l i = (L, q.1))) (fun q => l.length - q.2) (0, f)
        ⟨Nat.le_refl _, by simp only []; omega, Int.le_refl _, by simp only []; omega, fun h => H i h hcl, fun h => by simp only [] at h; omega⟩ ?_ ?_
      · refine Le.of id [] ?_
        simp only [bytesD, Mt_tup, Mt_agg, Mt_fn, forall_eq, forall_eq_or_imp, ne_eq, List.all_cons, List.all_nil, pr, Nat.reduceLeDiff, slR_nil, slR_cons, hpR_nil, hpR_cells, hpR_row, idsR_nil, idsR_cons, mtE_v, mtE_sl, mtE_nil, mtE_refl, mtE_row, mtE_born, mtE_ptr, mtE_rp, mtE_agg, mtE_tup, mtE_fn, mtE_ep, MtL_nil, MtL_cons, Mt_v, Mt_sl, Mt_nil, Mt_refl, Mt_row, Mt_born, Mt_ptr, MtO_cells, MtO_row, liveIds, distinct, Dat.v.injEq, Dat.sl.injEq, Value.int.injEq, Value.bool.injEq, Value.string.injEq, lk_cons, lk_nil, subL_nil, subL_cons, upIds, AV.ids, AV.ids.idsL, AObj.ids, Hp.get_cons, get_nil, allCell, AV.cell, vInt, vBool, vStr, id, true_and, and_true, and_self, List.append_nil, List.nil_append, List.not_mem_nil, List.mem_cons, or_false, false_or, or_self, not_true_eq_false, not_false_eq_true, false_imp_iff, false_implies, List.map_nil, not_false_eq_true, List.contains_cons, List.contains_nil, Bool.or_false, Bool.false_or, Bool.true_or, Bool.or_true, Bool.and_true, Bool.true_and, implies_true, if_true, if_false, reduceCtorEq, Nat.reduceEqDiff, Nat.reduceBEq, Nat.reduceAdd, reduceIte, ↓reduceIte]
      · rintro ⟨c, j⟩ ⟨b1, b2, b3, b4, b5, b6⟩
        simp only [] at b1 b2 b3 b4 b5 b6
        simp only [bytesD, G_At_at, calmE, F_Next, F_units, F_ends, F_cap, AV.flat, AV.flat.flatL, getD_iD, iD, num_iD, List.length_map, goTG_val, goTG_new, goTG_up, goTG_none, goG_none, goG_new, goG_up, ne_eq, evK, evH, retHF, DRun_mk, runT_nil, runT_none, runT_guard, goT_val, goT_new, goT_store, goTH_true, goTH_false, evO, keys, Option.toList_some, Option.toList_none, nzL_nil, nzL_cons, nz_k, nz_sl, nz_nil, nz_agg, startL, evC, evV, goE_val, goE_new, goE_store, goH_true, goH_false, goG_val, lk_cons, lk_nil, lk_func, lk_int, lk_bool, lk_string, lk_slice, lk_agg, look_mk, St.effOf, eff, effCall, effBin, effUn, effConv, effPick, effNil, effFold, fold1, effLoad, effStore, effFieldAddr, effField, fieldOf, sliceOf, effIndexAddr, effIndex, effLen, effExtract, effSlice, bnd, effBuild, placesOf, effBuildSlice, effMakeSlice, effAppend, srcOf, fillA, chunk, seg, toD, toDs, put, eqAV, fieldsEq, leafEq, strip, unw, allB, selP_or, selP_and, tis, TyD.agg, AV.cells, AV.cell, allCell, vInt, vBool, vStr, subL_nil, subL_cons, upIds, AV.ids, AV.ids.idsL, AObj.ids, drops, Hp.get_cons, get_nil, retF, resL, one, fz, fz.fzL, List.map_cons, List.map_nil, List.nil_append, List.append_nil, List.cons_append, List.all_cons, List.all_nil, List.length_cons, List.length_nil, List.getElem?_cons_zero, List.getElem?_cons_succ, List.getD_cons_zero, List.getD_cons_succ, List.take_succ_cons, List.take_zero, List.drop_succ_cons, List.drop_zero, List.take_nil, List.drop_nil, List.contains_cons, List.contains_nil, Option.getD_some, Option.getD_none, Option.map_some, Option.map_none, if_true, if_false, true_and, and_true, and_self, or_self, or_false, false_or, false_and, and_false, reduceCtorEq, sel_and, sel_or, decide_eq_true_eq, Bool.and_eq_true, Bool.or_eq_true, Bool.and_true, Bool.true_and, Bool.or_false, Bool.false_or, Bool.true_or, Bool.or_true, Bool.not_true, Bool.not_false, Bool.false_eq_true, implies_true, not_false_eq_true, Nat.reduceLT, Nat.reduceEqDiff, Nat.reduceAdd, Nat.reduceMul, Nat.reduceMod, Nat.reduceLeDiff, Nat.reduceBEq, Nat.zero_add, Nat.add_zero, reduceIte, ↓reduceIte, List.not_mem_nil]
        by_cases h2 : (j : Int) < i
        · rw [if_pos h2]
          obtain ⟨r, k, ok, e, k1, k2, k3, k4⟩ := plc_col hb (i := j) (o := i) (by omega) hcl (b5 (by omega)) (hn j b1 (by omega))
          have hu := units_range r
          simp only [e]
          refine ⟨⟨hb, by omega⟩, (c + units r, j + k), by simp only []; omega, ⟨by simp only []; omega, k2, by simp only []; omega, by simp only []; omega, k3, k4⟩, Le.of id [] ?_⟩
          simp only [bytesD, Mt_tup, Mt_agg, Mt_fn, forall_eq, forall_eq_or_imp, ne_eq, List.all_cons, List.all_nil, pr, Nat.reduceLeDiff, slR_nil, slR_cons, hpR_nil, hpR_cells, hpR_row, idsR_nil, idsR_cons, mtE_v, mtE_sl, mtE_nil, mtE_refl, mtE_row, mtE_born, mtE_ptr, mtE_rp, mtE_agg, mtE_tup, mtE_fn, mtE_ep, MtL_nil, MtL_cons, Mt_v, Mt_sl, Mt_nil, Mt_refl, Mt_row, Mt_born, Mt_ptr, MtO_cells, MtO_row, liveIds, distinct, Dat.v.injEq, Dat.sl.injEq, Value.int.injEq, Value.bool.injEq, Value.string.injEq, lk_cons, lk_nil, subL_nil, subL_cons, upIds, AV.ids, AV.ids.idsL, AObj.ids, Hp.get_cons, get_nil, allCell, AV.cell, vInt, vBool, vStr, id, true_and, and_true, and_self, List.append_nil, List.nil_append, List.not_mem_nil, List.mem_cons, or_false, false_or, or_self, not_true_eq_false, not_false_eq_true, false_imp_iff, false_implies, List.map_nil, not_false_eq_true, List.contains_cons, List.contains_nil, Bool.or_false, Bool.false_or, Bool.true_or, Bool.or_true, Bool.and_true, Bool.true_and, implies_true, if_true, if_false, reduceCtorEq, Nat.reduceEqDiff, Nat.reduceBEq, Nat.reduceAdd, reduceIte, ↓reduceIte]
          rw [w64 (by omega) (by omega), w64 (by omega) (by omega)]
          omega
        · rw [if_neg h2]
          have : plc l i = (L, c) := by
            by_cases hji : j = i
            · subst hji
              rw [b5 (Nat.le_refl _), Nat.sub_self, at_zero]
            · exact b6 (by omega)
          rw [this]
theorem At_calm : ∀ args sc res, F_At args = some (sc, res) → sc → Calm Try.prog 15 args res := by
  intro args sc res h hs
  unfold F_At at h
  split at h <;> cases h
  rename_i xs o
  obtain ⟨h1, h2, h3⟩ := hs
  have hb := At_body (xs.map numOf) h2 (by simpa using h3) o
  rw [bytesD, ← h1] at hb
  exact known_At.calm mixed rfl rfl hb
end Go.Proofs.Ytngjpmeenoohmaa.Eng
