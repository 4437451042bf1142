/- All tokens of JSON (jlex), on the small machine. -/
import Derived.Test.YtlhhibhcoefolaaSJx7
import Derived.Test.YtlhhibhcoefolaaSVal
import Derived.Test.YtlhhibhcoefolaaJlexJoin
namespace Go.Proofs.Ytlhhibhcoefolaa.Eng
open Go Go.Proofs.Ytlhhibhcoefolaa.Base
set_option maxRecDepth 100000
set_option linter.unusedSimpArgs false
set_option linter.unusedVariables false
theorem toksF_some : ∀ (n : Nat) (l : List Int) (i : Int), l.length < n → ∃ r, Jlex.toksF n l i = some r
  | 0, l, i, h => by omega
  | n + 1, l, i, h => by
    rw [Jlex.toksF]
    have hlen := (List.dropWhile_sublist (p := Jlex.blk) (l := l)).length_le
    rcases hd : l.dropWhile Jlex.blk with _ | ⟨c, t⟩
    · exact ⟨_, rfl⟩
    · rw [hd] at hlen
      rcases ht : Jlex.tok (c :: t) with ⟨k, _ | m⟩
      · simp only [ht]; exact ⟨_, rfl⟩
      · have hm := Jlex.tok_le ht
        simp only [ht]
        obtain ⟨r, hr⟩ := toksF_some n ((c :: t).drop m) (i + ((l.takeWhile Jlex.blk).length : Int) + (m : Int)) (by rw [List.length_drop]; omega)
        rw [hr]
        exact ⟨_, rfl⟩
theorem toksF_of {l : List Int} {ts : List (Int × Int × Int)} {e : Option Int} (h : Jlex.Toks l 0 ts e) : Jlex.toksF (l.length + 1) l 0 = some (ts, e) := by
  obtain ⟨⟨ts', e'⟩, h1⟩ := toksF_some (l.length + 1) l 0 (by omega)
  obtain ⟨rfl, rfl⟩ := Jlex.toks_bytes_unique h (Jlex.toksF_ok _ _ _ _ _ h1)
  exact h1
/-- The tokens, or what is wrong and where. -/
def splitF (l : List Int) : List (Int × Int × Int) × Int × Int :=
  if 20000 < l.length then ([], 5, 20000) else if (vals l.length l).2 = false then ([], 2, ((vals l.length l).1 : Nat)) else
  match Jlex.toksF (l.length + 1) l 0 with
  | some (ts, none) => (ts, 0, 0)
  | some (_, some p) => ([], 3, p)
  | none => ([], 0, 0)
theorem splitF_long {l : List Int} (h : 20000 < l.length) : splitF l = ([], 5, 20000) := if_pos h
theorem splitF_utf {l : List Int} (h : ¬ 20000 < l.length) (h2 : (vals l.length l).2 = false) : splitF l = ([], 2, (((vals l.length l).1 : Nat) : Int)) := by
  unfold splitF; rw [if_neg h, if_pos h2]
theorem splitF_ok {l : List Int} (h : ¬ 20000 < l.length) (h2 : (vals l.length l).2 = true) {ts : List (Int × Int × Int)} (ht : Jlex.Toks l 0 ts none) : splitF l = (ts, 0, 0) := by
  unfold splitF; rw [if_neg h, if_neg (by rw [h2]; decide), toksF_of ht]
theorem splitF_bad {l : List Int} (h : ¬ 20000 < l.length) (h2 : (vals l.length l).2 = true) {ts : List (Int × Int × Int)} {p : Int} (ht : Jlex.Toks l 0 ts (some p)) : splitF l = ([], 3, p) := by
  unfold splitF; rw [if_neg h, if_neg (by rw [h2]; decide), toksF_of ht]
def tkR (x : Int × Int × Int) : List Dat := [.v (.int .i64 x.1), .v (.int .i64 x.2.1), .v (.int .i64 x.2.2)]
def toksD (ts : List (Int × Int × Int)) : Dat := .sl 3 (ts.map tkR)
def faultD (e a : Int) : AV := .agg [vInt .i64 e, vInt .i64 a]
def splitD (r : List (Int × Int × Int) × Int × Int) : AV := .tup [.d (toksD r.1), faultD r.2.1 r.2.2]
theorem run_blanks (l : List Int) (a : Nat) (ha : a ≤ l.length) : (∀ c t, l.drop (runN blkB l a) = c :: t → Jlex.blk c = false) ∧ ∀ ts e, Jlex.Toks (l.drop (runN blkB l a)) (runN blkB l a : Nat) ts e → Jlex.Toks (l.drop a) a ts e := by
  have e1 : l.drop (runN blkB l a) = (l.drop a).dropWhile Jlex.blk := by
    have := List.takeWhile_append_dropWhile (p := Jlex.blk) (l := l.drop a)
    unfold runN
    rw [← List.drop_drop]
    conv => lhs; arg 2; rw [← this]
    exact List.drop_left
  constructor
  · intro c t h
    rw [e1] at h
    have := List.head?_dropWhile_not Jlex.blk (l.drop a)
    rw [h] at this
    simpa using this
  · intro ts e h
    have := Jlex.toks_absorb h ((l.drop a).takeWhile Jlex.blk) a (fun x hx => (List.all_eq_true.1 (List.all_takeWhile (p := Jlex.blk) (l := l.drop a))) x hx) (by
      show ((a + ((l.drop a).takeWhile blkB).length : Nat) : Int) = _
      rw [Int.natCast_add]; rfl)
    rw [e1, List.takeWhile_append_dropWhile] at this
    exact this
noncomputable def G_spj : Gam := (((Gam.none.add 11 fun a => F_val (NT.nz.nzL [.s 1] a)).add 12 fun a => F_runj (NT.nz.nzL [.s 1] a)).add 14 fun a => F_tkj (NT.nz.nzL [.s 1] a))
theorem known_G_spj : Known Try.prog G_spj := (((Known.none _).addC _ val_calm).addC _ runj_calm).addC _ tkj_calm
theorem G_spj_at : (∀ h d a, G_spj 11 h d a = calmE (fun a => F_val (NT.nz.nzL [.s 1] a)) h a) ∧ (∀ h d a, G_spj 12 h d a = calmE (fun a => F_runj (NT.nz.nzL [.s 1] a)) h a) ∧ (∀ h d a, G_spj 14 h d a = calmE (fun a => F_tkj (NT.nz.nzL [.s 1] a)) h a) := ⟨fun _ _ _ => rfl, fun _ _ _ => rfl, fun _ _ _ => rfl⟩
theorem spj_body (l : List Int) (hb : Bytes l) : Body Try.prog G_spj (DRun Try.prog G_spj) 9 [.d (bytesD l)] (splitD (splitF l)) := by
  refine Body.of Try.func9 Try.ntmps9 (by kernel_rfl) rfl rfl rfl ?_
  have nz1 : ∀ xs, (NT.s 1).nz (.d (.sl 1 xs)) = .d (.sl 1 xs) := fun xs => rfl
  have hb0 : isP 13 [] = some blkB := rfl
  simp only [bytesD, getD_iD, iD, num_iD, nz1, G_spj_at, calmE, F_val, F_runj, F_tkj, hb0, Int.toNat_natCast, AV.flat, AV.flat.flatL, List.length_map, Int.reduceLE, Int.reduceLT, Int.reduceGT, Int.reduceGE, Int.reduceBEq, Int.reduceBNe, Int.reduceEq, Int.reduceToNat, Int.reduceSub, Int.reduceAdd, Int.reduceMul, Int.reducePow, Int.reduceNeg, goTG_val, goTG_new, goTG_up, goTG_none, goG_none, goG_new, goG_up, ne_eq, evK, evH, retHF, DRun_mk, runT_nil, runT_none, runT_guard, goT_val, goT_new, goT_store, goTH_true, goTH_false, evO, keys, Option.toList_some, Option.toList_none, nzL_nil, nzL_cons, nz_k, nz_sl, nz_nil, nz_agg, startL, evC, evV, goE_val, goE_new, goE_store, goH_true, goH_false, goG_val, lk_cons, lk_nil, lk_func, lk_int, lk_bool, lk_string, lk_slice, lk_agg, look_mk, St.effOf, eff, effCall, effBinC, isConst, effBin, effUn, effConv, effPick, effNil, effFold, fold1, effLoad, effStore, effFieldAddr, effField, fieldOf, sliceOf, effIndexAddr, effIndex, effLen, effExtract, effSlice, dats, bnd, effBuild, placesOf, effBuildSlice, effMakeSlice, effAppend, srcOf, fillA, chunk, seg, toD, toDs, put, eqAV, fieldsEq, leafEq, strip, unw, allB, selP_or, selP_and, tis, TyD.agg, AV.cells, AV.cell, allCell, vInt, vBool, vStr, subL_nil, subL_cons, upIds, AV.ids, AV.ids.idsL, AObj.ids, drops, Hp.get_cons, get_nil, retF, resL, one, fz, fz.fzL, List.map_cons, List.map_nil, List.nil_append, List.append_nil, List.cons_append, List.all_cons, List.all_nil, List.length_cons, List.length_nil, List.getElem?_cons_zero, List.getElem?_cons_succ, List.getD_cons_zero, List.getD_cons_succ, List.take_succ_cons, List.take_zero, List.drop_succ_cons, List.drop_zero, List.take_nil, List.drop_nil, List.contains_cons, List.contains_nil, Option.getD_some, Option.getD_none, Option.map_some, Option.map_none, if_true, if_false, true_and, and_true, and_self, or_self, or_false, false_or, false_and, and_false, reduceCtorEq, sel_and, sel_or, decide_eq_true_eq, Bool.and_eq_true, Bool.or_eq_true, Bool.and_true, Bool.true_and, Bool.or_false, Bool.false_or, Bool.true_or, Bool.or_true, Bool.not_true, Bool.not_false, Bool.false_eq_true, implies_true, not_false_eq_true, Nat.reduceLT, Nat.reduceEqDiff, Nat.reduceAdd, Nat.reduceMul, Nat.reduceMod, Nat.reduceLeDiff, Nat.reduceBEq, Nat.zero_add, Nat.add_zero, reduceIte, ↓reduceIte, List.not_mem_nil]
  unfold splitF
  by_cases h20 : 20000 < l.length
  · rw [if_pos (by omega), if_pos h20]
    exact Sub.tup ⟨.inr ⟨rfl, 3, rfl⟩, ⟨.inl rfl, .inl rfl, trivial⟩, trivial⟩
  rw [if_neg (by omega), if_neg h20]
  refine ⟨⟨hb, by omega⟩, ?_⟩
  cases hv : (vals l.length l).2 with
  | false =>
    simp only [Bool.not_false, if_true]
    exact Sub.tup ⟨.inr ⟨rfl, 3, rfl⟩, ⟨.inl rfl, .inl rfl, trivial⟩, trivial⟩
  | true =>
  simp only [Bool.not_true, Bool.false_eq_true, if_false, Bool.true_eq_false]
  refine ⟨by omega, ?_⟩
  generalize hR : (match Jlex.toksF (l.length + 1) l 0 with
    | some (ts, none) => (ts, 0, 0)
    | some (_, some p) => ([], 3, p)
    | none => ([], 0, 0) : List (Int × Int × Int) × Int × Int) = R
  refine wpc_loop (fun p : List (Int × Int × Int) × Nat => ⟨47, [100, 101], [(0, .d (bytesD l)), (3, .ptr 101 0), (6, .row 100 p.1.length), (7, vInt .i64 p.2)], [(100, some (.row 31 3 (p.1.map tkR))), (101, some (.cells 27 [vInt .i64 0, vInt .i64 0]))]⟩)
    (fun p => p.2 ≤ l.length ∧ p.1.length ≤ p.2 ∧ (∀ c t, l.drop p.2 = c :: t → Jlex.blk c = false) ∧ ∀ ts e, Jlex.Toks (l.drop p.2) p.2 ts e → Jlex.Toks l 0 (p.1 ++ ts) e) (fun p => l.length - p.2) ([], runN blkB l 0) ?_ ?_ ?_
  · have hr := run_blanks l 0 (Nat.zero_le _)
    refine ⟨(runN_le (Nat.zero_le _)).2, Nat.zero_le _, hr.1, fun ts e h => ?_⟩
    have := hr.2 ts e h
    rwa [List.drop_zero] at this
  · refine Le.of (fun _ => 3) [100] ?_
    simp only [bytesD, List.length_nil, List.map_nil, Mt_tup, Mt_agg, Mt_fn, forall_eq, forall_eq_or_imp, ne_eq, List.all_cons, List.all_nil, pr, Nat.reduceLeDiff, slR_nil, slR_cons, hpR_nil, hpR_cells, hpR_row, idsR_nil, idsR_cons, mtE_v, mtE_sl, mtE_nil, mtE_refl, mtE_row, mtE_born, mtE_ptr, mtE_rp, mtE_agg, mtE_tup, mtE_fn, mtE_ep, MtL_nil, MtL_cons, Mt_v, Mt_sl, Mt_nil, Mt_refl, Mt_row, Mt_born, Mt_ptr, MtO_cells, MtO_row, liveIds, distinct, Dat.v.injEq, Dat.sl.injEq, Value.int.injEq, Value.bool.injEq, Value.string.injEq, lk_cons, lk_nil, subL_nil, subL_cons, upIds, AV.ids, AV.ids.idsL, AObj.ids, Hp.get_cons, get_nil, allCell, AV.cell, vInt, vBool, vStr, id, true_and, and_true, and_self, List.append_nil, List.nil_append, List.not_mem_nil, List.mem_cons, or_false, false_or, or_self, not_true_eq_false, not_false_eq_true, false_imp_iff, false_implies, List.map_nil, not_false_eq_true, List.contains_cons, List.contains_nil, Bool.or_false, Bool.false_or, Bool.true_or, Bool.or_true, Bool.and_true, Bool.true_and, implies_true, if_true, if_false, reduceCtorEq, Nat.reduceEqDiff, Nat.reduceBEq, Nat.reduceAdd, reduceIte, ↓reduceIte]
    rfl
  · rintro ⟨o, k⟩ ⟨hk, ho, hn, hr⟩
    simp only [] at hk ho hn hr
    simp only [tokD, bytesD, getD_iD, iD, num_iD, nz1, G_spj_at, calmE, F_val, F_runj, F_tkj, hb0, Int.toNat_natCast, AV.flat, AV.flat.flatL, List.length_map, Int.reduceLE, Int.reduceLT, Int.reduceGT, Int.reduceGE, Int.reduceBEq, Int.reduceBNe, Int.reduceEq, Int.reduceToNat, Int.reduceSub, Int.reduceAdd, Int.reduceMul, Int.reducePow, Int.reduceNeg, goTG_val, goTG_new, goTG_up, goTG_none, goG_none, goG_new, goG_up, ne_eq, evK, evH, retHF, DRun_mk, runT_nil, runT_none, runT_guard, goT_val, goT_new, goT_store, goTH_true, goTH_false, evO, keys, Option.toList_some, Option.toList_none, nzL_nil, nzL_cons, nz_k, nz_sl, nz_nil, nz_agg, startL, evC, evV, goE_val, goE_new, goE_store, goH_true, goH_false, goG_val, lk_cons, lk_nil, lk_func, lk_int, lk_bool, lk_string, lk_slice, lk_agg, look_mk, St.effOf, eff, effCall, effBinC, isConst, effBin, effUn, effConv, effPick, effNil, effFold, fold1, effLoad, effStore, effFieldAddr, effField, fieldOf, sliceOf, effIndexAddr, effIndex, effLen, effExtract, effSlice, dats, bnd, effBuild, placesOf, effBuildSlice, effMakeSlice, effAppend, srcOf, fillA, chunk, seg, toD, toDs, put, eqAV, fieldsEq, leafEq, strip, unw, allB, selP_or, selP_and, tis, TyD.agg, AV.cells, AV.cell, allCell, vInt, vBool, vStr, subL_nil, subL_cons, upIds, AV.ids, AV.ids.idsL, AObj.ids, drops, Hp.get_cons, get_nil, retF, resL, one, fz, fz.fzL, List.map_cons, List.map_nil, List.nil_append, List.append_nil, List.cons_append, List.all_cons, List.all_nil, List.length_cons, List.length_nil, List.getElem?_cons_zero, List.getElem?_cons_succ, List.getD_cons_zero, List.getD_cons_succ, List.take_succ_cons, List.take_zero, List.drop_succ_cons, List.drop_zero, List.take_nil, List.drop_nil, List.contains_cons, List.contains_nil, Option.getD_some, Option.getD_none, Option.map_some, Option.map_none, if_true, if_false, true_and, and_true, and_self, or_self, or_false, false_or, false_and, and_false, reduceCtorEq, sel_and, sel_or, decide_eq_true_eq, Bool.and_eq_true, Bool.or_eq_true, Bool.and_true, Bool.true_and, Bool.or_false, Bool.false_or, Bool.true_or, Bool.or_true, Bool.not_true, Bool.not_false, Bool.false_eq_true, implies_true, not_false_eq_true, Nat.reduceLT, Nat.reduceEqDiff, Nat.reduceAdd, Nat.reduceMul, Nat.reduceMod, Nat.reduceLeDiff, Nat.reduceBEq, Nat.zero_add, Nat.add_zero, reduceIte, ↓reduceIte, List.not_mem_nil]
    by_cases h1 : k < l.length
    · rw [if_pos (by omega)]
      refine ⟨⟨hb, by omega, by omega, by omega⟩, ?_⟩
      obtain ⟨c, t, h⟩ : ∃ c t, l.drop k = c :: t := by
        rcases h : l.drop k with _ | ⟨c, t⟩
        · have := List.drop_eq_nil_iff.1 h; omega
        · exact ⟨c, t, rfl⟩
      have hc := hn c t h
      have hlt := congrArg List.length h
      rw [List.length_drop] at hlt
      rw [h] at hr ⊢
      rcases ht : Jlex.tok (c :: t) with ⟨kd, _ | n⟩
      · rw [if_pos (show ansN k (kd, (none : Option Nat)).2 < 0 from (by decide : (-1 : Int) < 0))]
        have h2 := Jlex.Toks.bad (b := []) (i := (k : Int)) (fun x hx => by cases hx) hc (by rw [ht])
        have h3 := hr _ _ h2
        rw [List.append_nil] at h3
        have h4 := toksF_of h3
        rw [h4] at hR
        rw [← hR]
        simp only [List.length_nil, Int.ofNat_zero, Int.add_zero, Int.cast_ofNat_Int]
        exact Sub.tup ⟨.inr ⟨rfl, 3, rfl⟩, ⟨.inl rfl, .inl rfl, trivial⟩, trivial⟩
      · have hm := Jlex.tok_le ht
        have e : ansN k (kd, some n).2 = ((k + n : Nat) : Int) := rfl
        rw [if_neg (show ¬ ansN k (kd, some n).2 < 0 by rw [e]; omega)]
        simp only [e, Int.toNat_natCast]
        refine ⟨by omega, ⟨by omega, by omega, by omega⟩, (o ++ [(kd, (k : Int), ((k + n : Nat) : Int))], runN blkB l (k + n)), ?_, ⟨?_, ?_, ?_, ?_⟩, Le.of (fun i => if i = 101 then 101 else 42) [] ?_⟩
        · have := runN_le (p := blkB) (l := l) (a := k + n) (by omega)
          simp only []; omega
        · exact (runN_le (by omega)).2
        · have := runN_le (p := blkB) (l := l) (a := k + n) (by omega)
          simp only [List.length_append, List.length_cons, List.length_nil]; omega
        · exact (run_blanks l (k + n) (by omega)).1
        · intro ts e h2
          have h3 := (run_blanks l (k + n) (by omega)).2 ts e h2
          have hd : (c :: t).drop n = l.drop (k + n) := by rw [← h, List.drop_drop]
          have h4 := Jlex.Toks.cons (b := []) (i := (k : Int)) (ts := ts) (e := e) (fun x hx => by cases hx) hc ht (by
            rw [hd]
            simp only [List.length_nil, Int.ofNat_zero, Int.add_zero, Int.cast_ofNat_Int]
            rwa [← Int.natCast_add])
          have h5 := hr _ _ h4
          simp only [List.length_nil, Int.ofNat_zero, Int.add_zero, Int.cast_ofNat_Int] at h5
          rw [List.append_assoc]
          rwa [← Int.natCast_add] at h5
        · simp only [bytesD, Int.toNat_natCast, List.map_append, List.map_cons, List.map_nil, List.length_append, List.length_map, List.length_cons, List.length_nil, tkR, Mt_tup, Mt_agg, Mt_fn, forall_eq, forall_eq_or_imp, ne_eq, List.all_cons, List.all_nil, pr, Nat.reduceLeDiff, slR_nil, slR_cons, hpR_nil, hpR_cells, hpR_row, idsR_nil, idsR_cons, mtE_v, mtE_sl, mtE_nil, mtE_refl, mtE_row, mtE_born, mtE_ptr, mtE_rp, mtE_agg, mtE_tup, mtE_fn, mtE_ep, MtL_nil, MtL_cons, Mt_v, Mt_sl, Mt_nil, Mt_refl, Mt_row, Mt_born, Mt_ptr, MtO_cells, MtO_row, liveIds, distinct, Dat.v.injEq, Dat.sl.injEq, Value.int.injEq, Value.bool.injEq, Value.string.injEq, lk_cons, lk_nil, subL_nil, subL_cons, upIds, AV.ids, AV.ids.idsL, AObj.ids, Hp.get_cons, get_nil, allCell, AV.cell, vInt, vBool, vStr, id, true_and, and_true, and_self, List.append_nil, List.nil_append, List.not_mem_nil, List.mem_cons, or_false, false_or, or_self, not_true_eq_false, not_false_eq_true, false_imp_iff, false_implies, List.map_nil, not_false_eq_true, List.contains_cons, List.contains_nil, Bool.or_false, Bool.false_or, Bool.true_or, Bool.or_true, Bool.and_true, Bool.true_and, implies_true, if_true, if_false, reduceCtorEq, Nat.reduceEqDiff, Nat.reduceBEq, Nat.reduceAdd, reduceIte, ↓reduceIte]
          rfl
    · rw [if_neg (by omega)]
      have hk2 : k = l.length := by omega
      have h2 := hr [] none (by rw [List.drop_eq_nil_of_le (by omega)]; exact Jlex.Toks.nil (fun x hx => by cases hx))
      rw [List.append_nil] at h2
      have h4 := toksF_of h2
      rw [h4] at hR
      rw [← hR]
      exact Sub.refl _
def F_spj : List AV → Option (Prop × AV)
  | [.d (.sl 1 xs)] => some (xs = (xs.map numOf).map (iD .u8) ∧ Bytes (xs.map numOf), splitD (splitF (xs.map numOf)))
  | _ => none
theorem spj_calm : ∀ args sc res, F_spj args = some (sc, res) → sc → Calm Try.prog 9 args res := by
  intro args sc res h hs
  unfold F_spj at h
  split at h <;> cases h
  rename_i xs
  obtain ⟨h1, hb⟩ := hs
  have hq := spj_body (xs.map numOf) hb
  rw [bytesD, ← h1] at hq
  exact known_G_spj.calm mixed rfl rfl hq
end Go.Proofs.Ytlhhibhcoefolaa.Eng
